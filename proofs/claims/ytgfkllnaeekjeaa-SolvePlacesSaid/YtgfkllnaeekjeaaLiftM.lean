/-
  THE LIFT, PART M: code and calls: what the abstract machine answers the model answers.
-/
import Derived.Test.YtgfkllnaeekjeaaLiftL
import Derived.Scope
namespace Go.Lift
noncomputable section
open Go.RowKit
set_option linter.unusedVariables false
set_option linter.unusedSimpArgs false
section
variable {P : Program} {φ : Map} {E : AEnv}

def toExit : AExit → Exit
  | .normal => .normal
  | .exit id => .exit id
  | .goto l => .goto l
  | .ret => .ret

theorem SRel.bump {N0 : Nat → Prop} {w0 w : World} {s : ASt} {a : Act} (r : SRel φ N0 w0 s a w) (n : Nat) : SRel φ N0 w0 ⟨s.slots, { s.heap with next := s.heap.next + n }⟩ a w :=
  ⟨r.slots, r.heap.next (by omega), r.below, r.defers⟩

theorem SRel.drew {N0 : Nat → Prop} {w0 w : World} {s : ASt} {a : Act} (r : SRel φ N0 w0 s a w) : SRel φ N0 w0 s a w.drew :=
  ⟨r.slots, r.heap.alike (Alike.drew' w), r.below.drew, r.defers⟩

theorem fresh_ids {N0 : Nat → Prop} {w : World} {h : AHeap} (r : HRel φ N0 h w) {i : Nat} (hi : h.next ≤ i) : ∀ v, φ i v = none := by
  intro v
  cases hq : φ i v with
  | none => rfl
  | some p => have := (r.dom i v p hq).1; omega

theorem aregion_sound (hE : EnvOk P E) {N0 : Nat → Prop} {w0 w : World} (hN : Low N0 w0.heap.size) {call : ACall} (hcall : CallOk P N0 w0 call) (hmix : P.follows .mixedOrders = true) {id : Nat} {ops : Array Oper} {draw : Bool} {s s' : ASt} {a : Act} (r : SRel φ N0 w0 s a w) (h : aregion E call ops draw s = some s')
    {Q : Exit → Act → World → Prop} (hk : ∀ a' w' φ', Keep φ φ' s.heap.next → SRel φ' N0 w0 s' a' w' → s.heap.next ≤ s'.heap.next → Q .normal a' w') : (Code.region id ops draw).wp P Q a w := by
  have hids : ∀ j, j < ops.size → s.heap.next + j < s.heap.next + ops.size ∧ ∀ v, φ (s.heap.next + j) v = none := fun j hj => ⟨by omega, fresh_ids r.heap (by omega)⟩
  unfold aregion at h
  cases draw with
  | false =>
    simp only [Bool.false_eq_true, if_false] at h
    refine wp_region ?_
    refine arun_sound hE hN hcall h (r.bump _) List.nodup_range (fun j hj => hids j (List.mem_range.1 hj)) fun a' w' φ' h1 h2 h3 => hk a' w' φ' h1 h2 ?_
    simp only at h3; omega
  | true =>
    simp only [if_true] at h
    split at h
    · rename_i hok
      refine wp_region_any hmix ?_
      refine drun_sound hE hN hcall hok h (r.bump _).drew hids fun a' w' φ' h1 h2 h3 => hk a' w' φ' h1 h2 ?_
      simp only at h3; omega
    · cases h

/-- a loop's rounds -/
def LoopW (P : Program) (c : Code) (Q : Exit → Act → World → Prop) (a : Act) (w : World) : Prop :=
  ∀ (b : Frame) (k : List Item) (cs : List Frame), ∃ e a' w', Q e a' w' ∧ Arrives P (lone (b.at a (.code c :: .inLoop c :: k)) cs w) b k cs e a' w'

theorem wp_of_loopW {c : Code} {Q : Exit → Act → World → Prop} {a : Act} {w : World} (h : LoopW P c Q a w) : (Code.loop c).wp P Q a w := fun b k cs =>
  let ⟨e, a', w', q, r⟩ := h b k cs; ⟨e, a', w', q, .of_steps (.one step_loop) r⟩

theorem loopW_round {c : Code} {Q : Exit → Act → World → Prop} {a : Act} {w : World} (h : c.wp P (Exit.then (LoopW P c Q) Q) a w) : LoopW P c Q a w := by
  intro b k cs
  obtain ⟨e, a₁, w₁, hq, harr⟩ := h b (.inLoop c :: k) cs
  cases e with
  | normal =>
    obtain ⟨e₂, a₂, w₂, hq₂, harr₂⟩ := hq b k cs
    exact ⟨e₂, a₂, w₂, hq₂, .of_steps (Steps.trans harr (.one step_inLoop)) harr₂⟩
  | exit id => exact ⟨_, a₁, w₁, hq, .pass (x := .inLoop c) rfl (fun _ _ => .inl (by simp)) harr⟩
  | goto l => exact ⟨_, a₁, w₁, hq, .pass (x := .inLoop c) rfl (fun _ _ => .inl (by simp)) harr⟩
  | ret => exact ⟨_, a₁, w₁, hq, .pass (x := .inLoop c) rfl (fun _ _ => .inl (by simp)) harr⟩
  | panic ch => exact ⟨_, a₁, w₁, hq, .pass (x := .inLoop c) rfl (fun _ _ => .inl (by simp)) harr⟩
  | outgrown => exact ⟨_, a₁, w₁, hq, .pass (x := .inLoop c) rfl (fun _ _ => .inl (by simp)) harr⟩

/-- the code c within the scope of 'body' -/
def ScopeW (P : Program) (body c : Code) (Q : Exit → Act → World → Prop) (a : Act) (w : World) : Prop :=
  ∀ (b : Frame) (k : List Item) (cs : List Frame), ∃ e a' w', Q e a' w' ∧ Arrives P (lone (b.at a (.code c :: .inScope body :: k)) cs w) b k cs e a' w'

theorem wp_of_scopeW {c : Code} {Q : Exit → Act → World → Prop} {a : Act} {w : World} (h : ScopeW P c c Q a w) : (Code.scope c).wp P Q a w := fun b k cs =>
  let ⟨e, a', w', q, r⟩ := h b k cs; ⟨e, a', w', q, .of_steps (.one step_scope) r⟩

/-- what stands behind the code of a scope -/
def scopePost (P : Program) (body : Code) (Q : Exit → Act → World → Prop) : Exit → Act → World → Prop
  | .goto l, a, w =>
    match findLabel body l with
    | some rest => ScopeW P body rest Q a w
    | none => Q (.goto l) a w
  | e, a, w => Q e a w

theorem scopeW_of_wp {body c : Code} {Q : Exit → Act → World → Prop} {a : Act} {w : World} (h : c.wp P (scopePost P body Q) a w) : ScopeW P body c Q a w := by
  intro b k cs
  obtain ⟨e, a₁, w₁, hq, harr⟩ := h b (.inScope body :: k) cs
  cases e with
  | normal => exact ⟨.normal, a₁, w₁, hq, Steps.trans harr (.one step_inScope)⟩
  | exit id => exact ⟨.exit id, a₁, w₁, hq, fun k' hk => harr k' (by simp [exitTo, hk])⟩
  | goto l =>
    simp only [scopePost] at hq
    cases hf : findLabel body l with
    | some rest =>
      rw [hf] at hq
      obtain ⟨e₂, a₂, w₂, hq₂, harr₂⟩ := hq b k cs
      exact ⟨e₂, a₂, w₂, hq₂, .of_steps (harr _ (by simp [gotoIn, hf])) harr₂⟩
    | none =>
      rw [hf] at hq
      exact ⟨.goto l, a₁, w₁, hq, fun k' hk => harr k' (by simp [gotoIn, hf, hk])⟩
  | ret => exact ⟨.ret, a₁, w₁, hq, harr⟩
  | panic ch => exact ⟨.panic ch, a₁, w₁, hq, harr⟩
  | outgrown => exact ⟨.outgrown, a₁, w₁, hq, harr⟩

/-- what is claimed of one run -/
def Sound (P : Program) (E : AEnv) (N0 : Nat → Prop) (w0 : World) (s s' : ASt) (e : AExit) (a : Act) (w : World) (goal : (Exit → Act → World → Prop) → Prop) : Prop :=
  ∀ {φ : Map} {Q : Exit → Act → World → Prop}, SRel φ N0 w0 s a w → (∀ a' w' φ', Keep φ φ' s.heap.next → SRel φ' N0 w0 s' a' w' → s.heap.next ≤ s'.heap.next → Q (toExit e) a' w') → goal Q

theorem aexec_sound (hE : EnvOk P E) {N0 : Nat → Prop} {w0 : World} (hN : Low N0 w0.heap.size) {call : ACall} (hcall : CallOk P N0 w0 call) (hmix : P.follows .mixedOrders = true) : ∀ (n : Nat),
    (∀ {c : Code} {s s' : ASt} {e : AExit} {a : Act} {w : World}, aexec E call n none c s = some (e, s') → Sound P E N0 w0 s s' e a w fun Q => c.wp P Q a w) ∧
    (∀ {c : Code} {s s' : ASt} {e : AExit} {a : Act} {w : World}, aexec E call n none (.loop c) s = some (e, s') → Sound P E N0 w0 s s' e a w fun Q => LoopW P c Q a w) ∧
    (∀ {b c : Code} {s s' : ASt} {e : AExit} {a : Act} {w : World}, aexec E call n (some b) c s = some (e, s') → Sound P E N0 w0 s s' e a w fun Q => ScopeW P b c Q a w) := by
  intro n
  induction n with
  | zero => refine ⟨?_, ?_, ?_⟩ <;> (intros; simp_all [aexec])
  | succ n ih =>
    obtain ⟨ih1, ih2, ih3⟩ := ih
    have hloop : ∀ {c : Code} {s s' : ASt} {e : AExit} {a : Act} {w : World}, aexec E call (n + 1) none (.loop c) s = some (e, s') → Sound P E N0 w0 s s' e a w fun Q => LoopW P c Q a w := by
      intro c s s' e a w h φ Q r hk
      simp only [aexec] at h
      refine loopW_round ?_
      cases h1 : aexec E call n none c s with
      | none => simp [h1] at h
      | some p =>
        obtain ⟨e1, s1⟩ := p
        rw [h1] at h
        refine ih1 h1 r fun a' w' φ' g1 g2 g3 => ?_
        cases e1 with
        | normal =>
          simp only at h
          show LoopW P c Q a' w'
          exact ih2 h g2 fun a'' w'' φ'' k1 k2 k3 => hk a'' w'' φ'' (g1.trans (k1.mono g3)) k2 (by omega)
        | exit id => simp at h; obtain ⟨rfl, rfl⟩ := h; exact hk a' w' φ' g1 g2 g3
        | goto id => simp at h; obtain ⟨rfl, rfl⟩ := h; exact hk a' w' φ' g1 g2 g3
        | ret => simp at h; obtain ⟨rfl, rfl⟩ := h; exact hk a' w' φ' g1 g2 g3
    have hscope : ∀ {b c : Code} {s s' : ASt} {e : AExit} {a : Act} {w : World}, aexec E call (n + 1) (some b) c s = some (e, s') → Sound P E N0 w0 s s' e a w fun Q => ScopeW P b c Q a w := by
      intro b c s s' e a w h φ Q r hk
      simp only [aexec] at h
      refine scopeW_of_wp ?_
      cases h1 : aexec E call n none c s with
      | none => simp [h1] at h
      | some p =>
        obtain ⟨e1, s1⟩ := p
        rw [h1] at h
        refine ih1 h1 r fun a' w' φ' g1 g2 g3 => ?_
        cases e1 with
        | normal => simp at h; obtain ⟨rfl, rfl⟩ := h; exact hk a' w' φ' g1 g2 g3
        | exit id => simp at h; obtain ⟨rfl, rfl⟩ := h; exact hk a' w' φ' g1 g2 g3
        | goto l =>
          simp only at h
          show scopePost P b Q (.goto l) a' w'
          simp only [scopePost]
          cases hf : findLabel b l with
          | some rest =>
            rw [hf] at h
            exact ih3 h g2 fun a'' w'' φ'' k1 k2 k3 => hk a'' w'' φ'' (g1.trans (k1.mono g3)) k2 (by omega)
          | none =>
            rw [hf] at h
            simp at h; obtain ⟨rfl, rfl⟩ := h; exact hk a' w' φ' g1 g2 g3
        | ret => simp at h; obtain ⟨rfl, rfl⟩ := h; exact hk a' w' φ' g1 g2 g3
    refine ⟨?_, hloop, hscope⟩
    intro c s s' e a w h φ Q r hk
    cases c with
    | skip => simp [aexec] at h; obtain ⟨rfl, rfl⟩ := h; exact wp_skip (hk a w φ (Keep.refl _ _) r (Nat.le_refl _))
    | label l => simp [aexec] at h; obtain ⟨rfl, rfl⟩ := h; exact wp_label (hk a w φ (Keep.refl _ _) r (Nat.le_refl _))
    | region id ops draw =>
      simp only [aexec, Option.map_eq_some_iff, Prod.mk.injEq] at h
      obtain ⟨s1, h1, rfl, rfl⟩ := h
      exact aregion_sound hE hN hcall hmix r h1 hk
    | seq x y =>
      simp only [aexec] at h
      refine wp_seq ?_
      cases h1 : aexec E call n none x s with
      | none => simp [h1] at h
      | some p =>
        obtain ⟨e1, s1⟩ := p
        rw [h1] at h
        refine ih1 h1 r fun a' w' φ' g1 g2 g3 => ?_
        cases e1 with
        | normal =>
          simp only at h
          show y.wp P Q a' w'
          exact ih1 h g2 fun a'' w'' φ'' k1 k2 k3 => hk a'' w'' φ'' (g1.trans (k1.mono g3)) k2 (by omega)
        | exit id => simp at h; obtain ⟨rfl, rfl⟩ := h; exact hk a' w' φ' g1 g2 g3
        | goto id => simp at h; obtain ⟨rfl, rfl⟩ := h; exact hk a' w' φ' g1 g2 g3
        | ret => simp at h; obtain ⟨rfl, rfl⟩ := h; exact hk a' w' φ' g1 g2 g3
    | cond x y z =>
      simp only [aexec] at h
      have hx := r.eval x
      split at h
      · rename_i hb
        rw [hb] at hx; simp only [VRel] at hx
        exact wp_cond_true hx (ih1 h r hk)
      · rename_i hb
        rw [hb] at hx; simp only [VRel] at hx
        exact wp_cond_false hx (ih1 h r hk)
      · cases h
    | block id c =>
      simp only [aexec] at h
      refine wp_block ?_
      cases h1 : aexec E call n none c s with
      | none => simp [h1] at h
      | some p =>
        obtain ⟨e1, s1⟩ := p
        rw [h1] at h
        refine ih1 h1 r fun a' w' φ' g1 g2 g3 => ?_
        cases e1 with
        | normal => simp at h; obtain ⟨rfl, rfl⟩ := h; exact hk a' w' φ' g1 g2 g3
        | exit j =>
          simp at h; obtain ⟨rfl, rfl⟩ := h
          simp only [toExit, Exit.inBlock]
          by_cases hj : j = id
          · rw [if_pos hj] at hk ⊢; exact hk a' w' φ' g1 g2 g3
          · rw [if_neg hj] at hk ⊢; exact hk a' w' φ' g1 g2 g3
        | goto l => simp at h; obtain ⟨rfl, rfl⟩ := h; exact hk a' w' φ' g1 g2 g3
        | ret => simp at h; obtain ⟨rfl, rfl⟩ := h; exact hk a' w' φ' g1 g2 g3
    | loop c => exact wp_of_loopW (hloop h r hk)
    | scope c =>
      simp only [aexec] at h
      exact wp_of_scopeW (ih3 h r hk)
    | goto l => simp [aexec] at h; obtain ⟨rfl, rfl⟩ := h; exact wp_goto (hk a w φ (Keep.refl _ _) r (Nat.le_refl _))
    | exit id => simp [aexec] at h; obtain ⟨rfl, rfl⟩ := h; exact wp_exit (hk a w φ (Keep.refl _ _) r (Nat.le_refl _))
    | ret => simp [aexec] at h; obtain ⟨rfl, rfl⟩ := h; exact wp_ret (hk a w φ (Keep.refl _ _) r (Nat.le_refl _))
    | rangeFunc f ps x y => simp [aexec] at h
    | refuse w => simp [aexec] at h

/-! ## results -/

theorem aresults_sound (hD : E.D.Ok P) {N0 : Nat → Prop} {w0 w : World} {s : ASt} {a : Act} (r : SRel φ N0 w0 s a w) : ∀ {rs : List ResultVar} {l : List AVal}, aresults E.D rs s = some l →
    ∃ vs, (rs.mapM (fun (x : ResultVar) => (match x with | .tmp t => pure (a.tmps.getD t undef) | .cell b t => do loadVar t (← asAddr (a.tmps.getD b undef)) : Sem Value))).run P w = .ok vs w ∧ VRels φ l vs
  | [], l, h => by simp [aresults] at h; subst h; exact ⟨[], rfl, by simp [VRels]⟩
  | .tmp t :: rs, l, h => by
    simp only [aresults, Option.map_eq_some_iff] at h
    obtain ⟨m, h1, rfl⟩ := h
    obtain ⟨vs, k1, k2⟩ := aresults_sound hD r h1
    refine ⟨a.tmps.getD t undef :: vs, ?_, ?_⟩
    · simp only [List.mapM_cons, Sem.run_bind, Sem.run_pure, Result.andThen_ok, k1]
    · simp only [VRels]; exact ⟨_, _, rfl, r.slots.getD_arr t, k2⟩
  | .cell b t :: rs, l, h => by
    simp only [aresults] at h
    split at h
    · rename_i p hp
      split at h
      · rename_i v m h1 h2
        simp at h; subst h
        obtain ⟨vs, k1, k2⟩ := aresults_sound hD r h2
        have hb := r.slots.getD_arr b
        rw [hp] at hb
        obtain ⟨v', g1, g2⟩ := sim_load hD r.heap hb h1
        simp only [VRel] at hb
        obtain ⟨xa, hxa, hat⟩ := hb
        rw [hxa] at g1
        simp only [Instr.loadAt, Instr.sureAddr, Sem.run_bind, Sem.run_pure, Result.andThen_ok] at g1
        refine ⟨v' :: vs, ?_, ?_⟩
        · have hA : (asAddr (a.tmps.getD b undef)).run P w = .ok xa w := by rw [hxa]; rfl
          simp only [List.mapM_cons, Sem.run_bind, hA, Sem.run_pure, Result.andThen_ok, g1, k1]
        · simp only [VRels]; exact ⟨_, _, rfl, g2, k2⟩
      · cases h
    · cases h

theorem results_sound (hD : E.D.Ok P) {N0 : Nat → Prop} {w0 w : World} {s : ASt} {a : Act} (r : SRel φ N0 w0 s a w) {fn : Func} {l : List AVal} (h : aresults E.D fn.results.toList s = some l) :
    ∃ v', (results fn a.tmps).run P w = .ok v' w ∧ VRel φ (aresult l) v' := by
  obtain ⟨vs, h1, h2⟩ := aresults_sound hD r h
  have hm : (fn.results.mapM (fun (x : ResultVar) => (match x with | .tmp t => pure (a.tmps.getD t undef) | .cell b t => do loadVar t (← asAddr (a.tmps.getD b undef)) : Sem Value))).run P w = .ok vs.toArray w := by
    rw [← Array.toArray_toList (xs := fn.results)]
    simp only [List.mapM_toArray, Sem.run_map, h1, Result.andThen_ok]
  have hlen := h2.length
  by_cases h1l : l.length = 1
  · obtain ⟨x, rfl⟩ := List.length_eq_one_iff.1 h1l
    obtain ⟨y, rfl⟩ := List.length_eq_one_iff.1 (by rw [hlen, h1l])
    refine ⟨y, ?_, ?_⟩
    · unfold results
      rw [Sem.run_bind]
      erw [hm]
      rfl
    · simp only [VRels] at h2
      obtain ⟨v, t, e, h3, h4⟩ := h2
      simp at e; obtain ⟨rfl, rfl⟩ := e
      exact h3
  · refine ⟨.tuple vs.toArray, ?_, ?_⟩
    · unfold results
      rw [Sem.run_bind]
      erw [hm]
      simp only [Result.andThen_ok, Sem.run_pure]
      rw [dif_neg (by simp; omega)]
    · have : aresult l = .tuple l := by
        unfold aresult
        split
        · simp at h1l
        · rfl
      rw [this]; simp only [VRel]; exact ⟨_, rfl, by simpa using h2⟩

theorem acall_sound (hE : EnvOk P E) {N0 : Nat → Prop} {w0 : World} (hN : Low N0 w0.heap.size) (hmix : P.follows .mixedOrders = true) : ∀ n, CallOk P N0 w0 (acall P E n) := by
  intro n
  induction n with
  | zero => intro f args h v h' hc; simp [acall] at hc
  | succ n ih =>
    intro f args h v h' hc φ w args' hH hB hA
    simp only [acall] at hc
    split at hc
    · rename_i g hg; exact hE.prims f g hg N0 w0 hN args h v h' hc φ w args' hH hB hA
    · rename_i hnone
      split at hc
      · rename_i fn hfn
        split at hc
        · rename_i c hbody
          refine ⟨⟨fn, c, hfn, hbody⟩, ?_⟩
          refine calls_of_wp hfn hbody ?_
          have hlen : args'.size = args.length := by have := hA.length; rwa [Array.length_toList] at this
          have r : SRel φ N0 w0 ⟨args ++ List.replicate (fn.ntmps - args.length) skipped, h⟩ { tmps := args' ++ Array.replicate (fn.ntmps - args'.size) undef, defers := [] } w := by
            refine ⟨?_, hH, hB, rfl⟩
            simp only [Array.toList_append, Array.toList_replicate, hlen]
            exact hA.append (VRels.replicate (VRel.skipped φ) _)
          cases hx : aexec E (acall P E n) n none c ⟨args ++ List.replicate (fn.ntmps - args.length) skipped, h⟩ with
          | none => simp [hx] at hc
          | some p =>
            obtain ⟨e, s⟩ := p
            rw [hx] at hc
            have fin : ∀ a' w' φ', Keep φ φ' h.next → SRel φ' N0 w0 s a' w' → h.next ≤ s.heap.next → ∀ {l}, aresults E.D fn.results.toList s = some l → v = aresult l → h' = s.heap →
                a'.defers = [] ∧ ∃ v_1, (results fn a'.tmps).run P w' = .ok v_1 w' ∧ ∃ v' φ', Ending.returned v_1 = .returned v' ∧ Keep φ φ' h.next ∧ VRel φ' v v' ∧ HRel φ' N0 h' w' ∧ Safe N0 w0 w' ∧ h.next ≤ h'.next := by
              intro a' w' φ' g1 g2 g3 l hl hv hh
              subst hv hh
              obtain ⟨v', k1, k2⟩ := results_sound hE.tys g2 hl
              exact ⟨g2.defers, v', k1, v', φ', rfl, g1, k2, g2.heap, g2.below, g3⟩
            refine (aexec_sound hE hN ih hmix n).1 hx r fun a' w' φ' g1 g2 g3 => ?_
            cases e with
            | normal =>
              simp only [Option.map_eq_some_iff, Prod.mk.injEq] at hc
              obtain ⟨l, hl, h1, h2⟩ := hc
              exact fin a' w' φ' g1 g2 g3 hl h1.symm h2.symm
            | ret =>
              simp only [Option.map_eq_some_iff, Prod.mk.injEq] at hc
              obtain ⟨l, hl, h1, h2⟩ := hc
              exact fin a' w' φ' g1 g2 g3 hl h1.symm h2.symm
            | exit id => simp at hc
            | goto id => simp at hc
        · cases hc
      · cases hc
end
end
end Go.Lift
