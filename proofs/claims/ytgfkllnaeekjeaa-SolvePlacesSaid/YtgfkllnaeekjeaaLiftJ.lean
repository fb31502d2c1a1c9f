/-
  THE LIFT, PART J: one operation.
-/
import Derived.Test.YtgfkllnaeekjeaaLiftI
namespace Go.Lift
noncomputable section
open Go.RowKit
set_option linter.unusedVariables false
set_option linter.unusedSimpArgs false

/-- what a callee promises -/
def CallOk (P : Program) (N0 : Nat → Prop) (w0 : World) (call : ACall) : Prop :=
  ∀ f args h v h', call f args h = some (v, h') → ∀ (φ : Map) (w : World) (args' : Array Value), HRel φ N0 h w → Safe N0 w0 w → VRels φ args args'.toList →
    (∃ fn c, P.funcs[f]? = some fn ∧ fn.body = some c) ∧
    Calls P f args' w fun e w' => ∃ v' φ', e = .returned v' ∧ Keep φ φ' h.next ∧ VRel φ' v v' ∧ HRel φ' N0 h' w' ∧ Safe N0 w0 w' ∧ h.next ≤ h'.next

/-- what a function whose answer is known by other means promises -/
def PrimOk (P : Program) (f : FuncId) (g : APrim) : Prop :=
  ∀ (N0 : Nat → Prop) (w0 : World), Low N0 w0.heap.size → ∀ args h v h', g args h = some (v, h') → ∀ (φ : Map) (w : World) (args' : Array Value), HRel φ N0 h w → Safe N0 w0 w → VRels φ args args'.toList →
    (∃ fn c, P.funcs[f]? = some fn ∧ fn.body = some c) ∧
    Calls P f args' w fun e w' => ∃ v' φ', e = .returned v' ∧ Keep φ φ' h.next ∧ VRel φ' v v' ∧ HRel φ' N0 h' w' ∧ Safe N0 w0 w' ∧ h.next ≤ h'.next

/-- what the soundness of an environment asks of the program -/
structure EnvOk (P : Program) (E : AEnv) : Prop where
  tys : E.D.Ok P
  eqs : ∀ t, E.eqT t = true → EqOk P t
  names : ∀ (f : Nat) fn, P.funcs[f]? = some fn → (fn.name == "runtime.NumGoroutine") = false
  prims : ∀ (f : Nat) g, E.prim f = some g → PrimOk P f g

section
variable {P : Program} {φ : Map} {E : AEnv}

/-- what comes of an operation: either it is run at once, or a function is entered -/
def Steps1 (P : Program) (φ : Map) (N0 : Nat → Prop) (w0 : World) (h : AHeap) (nid : Nat) (v : AVal) (h' : AHeap) (r : Result Next) : Prop :=
  (∃ v' w' φ', (r = .ok (.value v') w' ∨ (r = .ok .skip w' ∧ v' = undef)) ∧ Ext φ φ' h.next nid ∧ VRel φ' v v' ∧ HRel φ' N0 h' w' ∧ Safe N0 w0 w' ∧ h.next ≤ h'.next)
  ∨ (∃ f args w', r = .ok (.enter f args) w' ∧ Calls P f args w' fun e w'' => ∃ v' φ', e = .returned v' ∧ Ext φ φ' h.next nid ∧ VRel φ' v v' ∧ HRel φ' N0 h' w'' ∧ Safe N0 w0 w'' ∧ h.next ≤ h'.next)

theorem Steps1.of_outs {N0 : Nat → Prop} {w0 : World} {h : AHeap} {nid : Nat} {v : AVal} {h' : AHeap} {s : Sem Value} {w : World} (k : Outs P φ N0 w0 h nid v h' s w) {r : Result Next}
    (hr : r = (s.run P w).andThen fun v w => .ok (.value v) w) : Steps1 P φ N0 w0 h nid v h' r := by
  obtain ⟨v', w', φ', h1, h2, h3, h4, h5, h6⟩ := k
  refine .inl ⟨v', w', φ', .inl ?_, h2, h3, h4, h5, by omega⟩
  rw [hr, h1]; rfl

theorem Steps1.of_pure {N0 : Nat → Prop} {w0 : World} {h : AHeap} {nid : Nat} {v : AVal} {s : Sem Value} {w : World} (r0 : HRel φ N0 h w) (hb : Safe N0 w0 w) (k : ∃ v', s.run P w = .ok v' w ∧ VRel φ v v') {r : Result Next}
    (hr : r = (s.run P w).andThen fun v w => .ok (.value v) w) : Steps1 P φ N0 w0 h nid v h r :=
  Steps1.of_outs (Outs.pure r0 hb k) hr

theorem ORel.of_map {ρ : Operand → AVal} {ρ' : Operand → Value} (hρ : ∀ x, VRel φ (ρ x) (ρ' x)) (o : Option Operand) : ORel φ (o.map ρ) (o.map ρ') := by
  cases o with
  | none => trivial
  | some x => exact hρ x

theorem args_rel {ρ : Operand → AVal} {ρ' : Operand → Value} (hρ : ∀ x, VRel φ (ρ x) (ρ' x)) (xs : Array Operand) : VRels φ (xs.toList.map ρ) (xs.map ρ').toList := by
  rw [Array.toList_map]; exact VRels.map _ _ _ fun x _ => hρ x

theorem sim_builtin (hE : EnvOk P E) {N0 : Nat → Prop} {h h' : AHeap} {w0 w : World} (r : HRel φ N0 h w) (hb0 : Safe N0 w0 w) (hN : Low N0 w0.heap.size) {nid : Nat} (hid : ∀ v, φ nid v = none) (hn : nid < h.next)
    {b : Builtin} {ts : Array TypeId} (ty : TypeId) (consts : Array Bool) {args : List AVal} {args' : Array Value} (ha : VRels φ args args'.toList) {v : AVal} (ho : abuiltin E b ts args nid h = some (v, h')) :
    Steps1 P φ N0 w0 h nid v h' ((builtin b ts ty consts args').run P w) := by
  unfold abuiltin at ho
  split at ho
  · split at ho
    · rename_i x t ht
      simp only [Option.map_eq_some_iff, Prod.mk.injEq] at ho
      obtain ⟨v1, h1, rfl, rfl⟩ := ho
      exact Steps1.of_pure r hb0 (sim_len hE.tys ty ha ht h1 w) (by simp [builtin])
    · cases ho
  · split at ho
    · rename_i s x t u ht hu
      have hk : (∃ ud, E.D u = some ud ∧ (ud.kind matches .slice _ | .string) = true ∧ aappend E.D t s x nid h = some (v, h')) := by
        split at ho
        · rename_i ud hud
          split at ho
          · rename_i he; exact ⟨ud, hud, by simp [he], ho⟩
          · rename_i he; exact ⟨ud, hud, by simp [he], ho⟩
          · cases ho
        · cases ho
      obtain ⟨ud, hud, hkind, ho⟩ := hk
      obtain ⟨ui, uu, hui, huu, huk, -⟩ := hE.tys.get hud
      have hsrc : (∃ e', P.underlying u = some (.slice e')) ∨ P.underlying u = some .string := by
        rw [huk] at hkind
        cases uu <;> simp [tkOf] at hkind
        · right; exact huu
        · left; exact ⟨_, huu⟩
      simp only [VRels] at ha
      obtain ⟨s', l1, e1, hs, x', l2, e2, hx, e3⟩ := ha
      subst e2 e3
      have hargs : args' = #[s', x'] := by apply Array.ext'; simpa using e1
      have ho' := sim_append hE.tys r hb0 hN hid hn ty hs hx hsrc ho
      refine Steps1.of_outs (s := Builtin.append_ ts ty args') (w := w) ?_ (by simp [builtin])
      obtain ⟨v', w', φ', k1, k2⟩ := ho'
      refine ⟨v', w', φ', ?_, k2⟩
      rw [← k1, hargs]
      have et : ts[0]? = (#[t, u] : Array TypeId)[0]? := by rw [ht]; rfl
      have eu : ts[1]? = (#[t, u] : Array TypeId)[1]? := by rw [hu]; rfl
      simp only [Builtin.append_, et, eu]
    · cases ho
  · split at ho
    · rename_i x r'
      simp only [Option.map_eq_some_iff, Prod.mk.injEq] at ho
      obtain ⟨v1, h1, rfl, rfl⟩ := ho
      exact Steps1.of_pure r hb0 (sim_max ts ty ha h1 w) (by simp [builtin])
    · cases ho
  · split at ho
    · rename_i x r'
      simp only [Option.map_eq_some_iff, Prod.mk.injEq] at ho
      obtain ⟨v1, h1, rfl, rfl⟩ := ho
      exact Steps1.of_pure r hb0 (sim_min ts ty ha h1 w) (by simp [builtin])
    · cases ho
  · cases ho

theorem sim_op (hE : EnvOk P E) {N0 : Nat → Prop} {h h' : AHeap} {w0 w : World} {call : ACall} (hcall : CallOk P N0 w0 call) (r : HRel φ N0 h w) (hb0 : Safe N0 w0 w) (hN : Low N0 w0.heap.size) {nid : Nat} (hid : ∀ v, φ nid v = none)
    (hn : nid < h.next) {ρ : Operand → AVal} {ρ' : Operand → Value} (hρ : ∀ x, VRel φ (ρ x) (ρ' x)) {o : Oper} {v : AVal} (ho : aop E call nid ρ h o.op = some (v, h')) :
    Steps1 P φ N0 w0 h nid v h' ((execOp ρ' o).run P w) := by
  unfold aop at ho
  split at ho
  · -- move, assign
    rename_i x e; simp only [Option.some.injEq, Prod.mk.injEq] at ho; obtain ⟨rfl, rfl⟩ := ho
    exact Steps1.of_pure (s := pure (ρ' x)) r hb0 ⟨_, rfl, hρ x⟩ (by simp [execOp, e])
  · rename_i x e; simp only [Option.some.injEq, Prod.mk.injEq] at ho; obtain ⟨rfl, rfl⟩ := ho
    exact Steps1.of_pure (s := pure (ρ' x)) r hb0 ⟨_, rfl, hρ x⟩ (by simp [execOp, e])
  · -- pick
    rename_i c a b e
    split at ho
    · rename_i t hc
      simp only [Option.some.injEq, Prod.mk.injEq] at ho; obtain ⟨rfl, rfl⟩ := ho
      have h1 := hρ c; rw [hc] at h1; simp only [VRel] at h1
      refine Steps1.of_pure (s := pure (if t then ρ' a else ρ' b)) r hb0 ⟨_, rfl, ?_⟩ (by simp [execOp, e, h1, asBool])
      cases t
      · exact hρ b
      · exact hρ a
    · cases ho
  · -- alloc
    rename_i t e
    split at ho
    · rename_i d hd
      obtain ⟨ti, u, hti, hu, hk, hs, -, hz⟩ := hE.tys.get hd
      split at ho
      · rename_i z hzz
        split at ho
        · rename_i hc
          simp only [Option.some.injEq, Prod.mk.injEq] at ho; obtain ⟨rfl, rfl⟩ := ho
          simp only [Bool.and_eq_true, decide_eq_true_eq] at hc
          obtain ⟨z', hz1, hz2⟩ := zero_rel (P := P) (φ := φ) (t := t) hE.tys hz hzz
          obtain ⟨w', φ', k1, k2, k3, k4, k5⟩ := sim_new (P := P) (D := E.D) r hb0 hN hid hn t hz2 hc.1 hc.2
          refine .inl ⟨_, w', φ', .inl ?_, k2, k3, k4, k5, Nat.le_refl _⟩
          simp [execOp, e, Instr.alloc, zero_run hti hz1, k1]
        · cases ho
      · cases ho
    · cases ho
  · -- box
    rename_i t x e
    split at ho
    · rename_i d hd
      split at ho
      · rename_i hc
        simp only [Option.some.injEq, Prod.mk.injEq] at ho; obtain ⟨rfl, rfl⟩ := ho
        simp only [Bool.and_eq_true, decide_eq_true_eq] at hc
        obtain ⟨w', φ', k1, k2, k3, k4, k5⟩ := sim_new (P := P) (D := E.D) r hb0 hN hid hn t (hρ x) hc.1 hc.2
        refine .inl ⟨_, w', φ', .inl ?_, k2, k3, k4, k5, Nat.le_refl _⟩
        simp [execOp, e, Instr.box, k1]
      · cases ho
    · cases ho
  · -- build
    rename_i t parts e
    simp only [Option.map_eq_some_iff, Prod.mk.injEq] at ho
    obtain ⟨v1, h1, rfl, rfl⟩ := ho
    exact Steps1.of_pure r hb0 (sim_build hE.tys hρ h1 w) (by simp [execOp, e])
  · -- buildSlice
    rename_i t n parts e
    exact Steps1.of_outs (sim_buildSlice hE.tys r hb0 hN hid hn hρ ho) (by simp [execOp, e])
  · -- load
    rename_i t x e
    split at ho
    · rename_i a ha
      simp only [Option.map_eq_some_iff, Prod.mk.injEq] at ho
      obtain ⟨v1, h1, rfl, rfl⟩ := ho
      exact Steps1.of_pure r hb0 (sim_load hE.tys r (by have := hρ x; rw [ha] at this; exact this) h1) (by simp [execOp, e])
    · cases ho
  · -- store
    rename_i t x y e
    split at ho
    · rename_i a ha
      simp only [Option.map_eq_some_iff, Prod.mk.injEq] at ho
      obtain ⟨h1, k0, rfl, rfl⟩ := ho
      obtain ⟨w', k1, k2, k3, k4⟩ := sim_store hE.tys r hb0 (by have := hρ x; rw [ha] at this; exact this) (hρ y) k0
      refine .inl ⟨undef, w', φ, .inr ⟨?_, rfl⟩, Ext.refl _ _ _, VRel.skipped φ, k2, k3, by omega⟩
      simp [execOp, e, k1]
    · cases ho
  · -- nilCheck
    rename_i x e
    split at ho
    · rename_i a ha
      simp only [Option.some.injEq, Prod.mk.injEq] at ho; obtain ⟨rfl, rfl⟩ := ho
      have h1 := hρ x; rw [ha] at h1
      have h2 := h1
      simp only [VRel] at h2
      obtain ⟨xa, h2, h3⟩ := h2
      exact Steps1.of_pure (s := pure (ρ' x)) r hb0 ⟨_, rfl, h1⟩ (by simp [execOp, e, h2])
    · rename_i g fs cs ha
      simp only [Option.some.injEq, Prod.mk.injEq] at ho; obtain ⟨rfl, rfl⟩ := ho
      have h1 := hρ x; rw [ha] at h1
      have h2 := h1
      simp only [VRel] at h2
      obtain ⟨f', c', h2, h3, h4⟩ := h2
      exact Steps1.of_pure (s := pure (ρ' x)) r hb0 ⟨_, rfl, h1⟩ (by simp [execOp, e, h2])
    · cases ho
  · -- binOp
    rename_i op t x y ty e
    simp only [Option.map_eq_some_iff, Prod.mk.injEq] at ho
    obtain ⟨v1, h1, rfl, rfl⟩ := ho
    obtain ⟨v', k1, k2, k3⟩ := sim_abin hE.tys hE.eqs (hρ x) (hρ y) h1 w
    exact Steps1.of_pure (s := binOp op t (ρ' x) (ρ' y)) r hb0 ⟨v', k2, k3⟩ (by simp [execOp, e, k1])
  · -- unOp
    rename_i op t x e
    simp only [Option.map_eq_some_iff, Prod.mk.injEq] at ho
    obtain ⟨v1, h1, rfl, rfl⟩ := ho
    exact Steps1.of_pure r hb0 (sim_unary (hρ x) h1 w) (by simp [execOp, e])
  · -- convert
    rename_i s d x e
    simp only [Option.map_eq_some_iff, Prod.mk.injEq] at ho
    obtain ⟨v1, h1, rfl, rfl⟩ := ho
    exact Steps1.of_pure r hb0 (sim_convert hE.tys (hρ x) h1 w) (by simp [execOp, e])
  · -- makeFunc
    rename_i g fs cs e
    simp only [Option.some.injEq, Prod.mk.injEq] at ho; obtain ⟨rfl, rfl⟩ := ho
    refine Steps1.of_pure (s := pure (.func (.func g) (fs.map ρ') (cs.map ρ'))) r hb0 ⟨_, rfl, ?_⟩ (by simp [execOp, e, Instr.makeFunc])
    simp only [VRel]
    exact ⟨_, _, rfl, args_rel hρ fs, args_rel hρ cs⟩
  · -- makeSlice
    rename_i t l c e
    exact Steps1.of_outs (sim_makeSlice hE.tys r hb0 hN hid hn (hρ l) (hρ c) ho) (by simp [execOp, e])
  · -- slice
    rename_i t x lo hi mx e
    simp only [Option.map_eq_some_iff, Prod.mk.injEq] at ho
    obtain ⟨v1, h1, rfl, rfl⟩ := ho
    exact Steps1.of_pure r hb0 (sim_slice hE.tys (hρ x) (ORel.of_map hρ lo) (ORel.of_map hρ hi) (ORel.of_map hρ mx) h1 w) (by simp [execOp, e])
  · -- fieldAddr
    rename_i t x f e
    simp only [Option.map_eq_some_iff, Prod.mk.injEq] at ho
    obtain ⟨v1, h1, rfl, rfl⟩ := ho
    exact Steps1.of_pure r hb0 (sim_fieldAddr hE.tys (hρ x) h1 w) (by simp [execOp, e])
  · -- field
    rename_i t x f e
    simp only [Option.map_eq_some_iff, Prod.mk.injEq] at ho
    obtain ⟨v1, h1, rfl, rfl⟩ := ho
    exact Steps1.of_pure r hb0 (sim_field hE.tys (hρ x) h1 w) (by simp [execOp, e])
  · -- indexAddr
    rename_i t x i e
    simp only [Option.map_eq_some_iff, Prod.mk.injEq] at ho
    obtain ⟨v1, h1, rfl, rfl⟩ := ho
    exact Steps1.of_pure r hb0 (sim_indexAddr hE.tys (hρ x) (hρ i) h1 w) (by simp [execOp, e])
  · -- index
    rename_i t x i e
    simp only [Option.map_eq_some_iff, Prod.mk.injEq] at ho
    obtain ⟨v1, h1, rfl, rfl⟩ := ho
    exact Steps1.of_pure r hb0 (sim_index hE.tys (hρ x) (hρ i) h1 w) (by simp [execOp, e])
  · -- extract
    rename_i x i e
    split at ho
    · rename_i vs hv
      simp only [Option.map_eq_some_iff, Prod.mk.injEq] at ho
      obtain ⟨v1, h1, rfl, rfl⟩ := ho
      exact Steps1.of_pure r hb0 (sim_extract (by have := hρ x; rw [hv] at this; exact this) h1 w) (by simp [execOp, e])
    · cases ho
  · -- call
    rename_i c e
    split at ho
    · rename_i f hf
      unfold acallVal at ho
      split at ho
      · rename_i g first captured hfv
        have h1 := hρ f; rw [hfv] at h1
        simp only [VRel] at h1
        obtain ⟨f', c', h1, hfr, hcr⟩ := h1
        have hargs : VRels φ (first ++ c.args.toList.map ρ ++ captured) (f' ++ c.args.map ρ' ++ c').toList := by
          simp only [Array.toList_append]
          exact (hfr.append (args_rel hρ c.args)).append hcr
        obtain ⟨⟨fn, body, hfn, hbody⟩, hcl⟩ := hcall _ _ _ _ _ ho φ w _ r hb0 hargs
        refine .inr ⟨g, f' ++ c.args.map ρ' ++ c', w, ?_, hcl.mono ?_⟩
        · have hnm : ¬ fn.name = "runtime.NumGoroutine" := by simpa using hE.names g fn hfn
          simp [execOp, e, resolve, hf, h1, Deferred.ofValue, invoke, callFunc, hfn, hnm, hbody]
        · rintro e' w'' ⟨v', φ', k1, k2, k4, k5, k6, k7⟩
          exact ⟨v', φ', k1, ⟨k2.le, fun i hi _ hnn => k2.new i hi hnn, k2.ro⟩, k4, k5, k6, k7⟩
      · cases ho
    · rename_i b hf
      have he : ∃ consts, (execOp ρ' o).run P w = (builtin b c.argTypes o.type consts (c.args.map ρ')).run P w := ⟨_, by simp [execOp, e, resolve, hf, invoke]; rfl⟩
      obtain ⟨consts, he⟩ := he
      rw [he]
      exact sim_builtin hE r hb0 hN hid hn o.type consts (args_rel hρ c.args) ho
    · cases ho
  · cases ho

/-- the operation, as the walk takes it -/
theorem wp_op (hE : EnvOk P E) {N0 : Nat → Prop} {h h' : AHeap} {w0 w : World} {call : ACall} (hcall : CallOk P N0 w0 call) (r : HRel φ N0 h w) (hb0 : Safe N0 w0 w) (hN : Low N0 w0.heap.size) {nid : Nat} (hid : ∀ v, φ nid v = none)
    (hn : nid < h.next) {ρ : Operand → AVal} {a : Act} (hρ : ∀ x, VRel φ (ρ x) (a.eval x)) {o : Oper} {v : AVal} (ho : aop E call nid ρ h o.op = some (v, h')) {next : Act → World → Prop} {Q : Exit → Act → World → Prop}
    (hk : ∀ v' w' φ', Ext φ φ' h.next nid → VRel φ' v v' → HRel φ' N0 h' w' → Safe N0 w0 w' → h.next ≤ h'.next → next (a.put o.dst v') w') : o.wp P a w next Q := by
  unfold Oper.wp
  rcases sim_op hE hcall r hb0 hN hid hn hρ ho with ⟨v', w', φ', hr, k2, k3, k4, k5, k6⟩ | ⟨f, args, w', hr, hc⟩
  · rcases hr with hr | ⟨hr, rfl⟩
    · rw [hr]; exact hk _ _ _ k2 k3 k4 k5 k6
    · rw [hr]; exact hk _ _ _ k2 k3 k4 k5 k6
  · rw [hr]
    exact hc.mono fun e w'' ⟨v', φ', k1, k2, k3, k4, k5, k6⟩ => by
      subst k1; exact hk _ _ _ k2 k3 k4 k5 k6
end
end
end Go.Lift
