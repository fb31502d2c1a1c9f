/-
  THE LIFT, PART N: from an answer of the abstract machine to the model's call; types that '==' takes cell by cell.
-/
import Derived.Test.YtgfkllnaeekjeaaLiftM
namespace Go.Lift
noncomputable section
open Go.RowKit
set_option linter.unusedVariables false
set_option linter.unusedSimpArgs false
section
variable {P : Program} {E : AEnv}

/-- the abstract machine's answer is the model's; memory that was there is as it was -/
theorem acall_calls (hE : EnvOk P E) (hmix : P.follows .mixedOrders = true) {n : Nat} {f : FuncId} {args : List AVal} {h h' : AHeap} {v : AVal} (hc : acall P E n f args h = some (v, h')) {φ : Map} {w : World} {args' : Array Value}
    (hH : HRel φ (fun k => k < w.heap.size) h w) (hA : VRels φ args args'.toList) : Calls P f args' w fun e w' => ∃ v' φ', e = .returned v' ∧ VRel φ' v v' ∧ Below w.heap.size w w' :=
  (((acall_sound hE (N0 := fun k => k < w.heap.size) (w0 := w) (fun _ h => h) hmix n) f args h v h' hc φ w args' hH (Safe.refl _ _) hA).2).mono
    fun e w' ⟨v', φ', h1, h2, h4, h5, h6, h7⟩ => ⟨v', φ', h1, h4, h6.below⟩

theorem acall_true (hE : EnvOk P E) (hmix : P.follows .mixedOrders = true) {n : Nat} {f : FuncId} {args : List AVal} {h h' : AHeap} (hc : acall P E n f args h = some (.bool true, h')) {φ : Map} {w : World} {args' : Array Value}
    (hH : HRel φ (fun k => k < w.heap.size) h w) (hA : VRels φ args args'.toList) : Calls P f args' w fun e w' => e = .returned (.bool true) ∧ Below w.heap.size w w' :=
  (acall_calls hE hmix hc hH hA).mono fun e w' ⟨v', φ', h1, h2, h3⟩ => by
    simp only [VRel] at h2; subst h2; exact ⟨h1, h3⟩

/-- is it 'true'? -/
def saysTrue : Option (AVal × AHeap) → Bool
  | some (.bool true, _) => true
  | _ => false

theorem saysTrue_spec {r : Option (AVal × AHeap)} (h : saysTrue r = true) : ∃ h', r = some (.bool true, h') := by
  unfold saysTrue at h
  split at h
  · exact ⟨_, rfl⟩
  · cases h

def noMap : Map := fun _ _ => none

theorem HRel.empty (N0 : Nat → Prop) (w : World) (n : Nat) : HRel noMap N0 ⟨n, .nil⟩ w where
  dom i v p h := by cases h
  apart i v p j u q h := by cases h
  same i v p u q h := by cases h

theorem Tys.ok_self (P : Program) : Tys.Ok (tyD P) P := fun _ _ h => h

theorem names_of {P : Program} (h : (P.funcs.toList.all fun fn => !(fn.name == "runtime.NumGoroutine")) = true) : ∀ (f : Nat) fn, P.funcs[f]? = some fn → (fn.name == "runtime.NumGoroutine") = false := by
  intro f fn hf
  have hm : fn ∈ P.funcs.toList := by
    rw [← Array.getElem?_toList] at hf
    exact List.mem_of_getElem? hf
  have := List.all_eq_true.1 h fn hm
  simpa using this

theorem eqs_of {P : Program} {E : AEnv} (h : (E.eqs.all fun t => eqOkB P t) = true) : ∀ t, E.eqT t = true → EqOk P t := by
  intro t ht
  exact List.all_eq_true.1 h t (by simpa [AEnv.eqT] using ht)

end
end
end Go.Lift
