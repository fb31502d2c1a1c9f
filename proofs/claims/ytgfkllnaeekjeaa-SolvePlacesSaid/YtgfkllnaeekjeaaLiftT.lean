/-
  THE LIFT, PART T: paths (part S) are sound: what a path answers the model does, wherever the rows lie; loops; functions.
-/
import Derived.Test.YtgfkllnaeekjeaaLiftS
namespace Go.Lift
noncomputable section
open Go.RowKit
set_option linter.unusedVariables false
set_option linter.unusedSimpArgs false
section
variable {P : Program} {E : AEnv}

/-- the model stands as the facts and the rows tell -/
def FRel (φ : Map) (S : Nat → Prop) (w0 : World) (n : Nat) (F : Facts) (h : AHeap) (a : Act) (w : World) : Prop := ∃ s : List AVal, s.length = n ∧ Has F s ∧ SRel φ S w0 ⟨s, h⟩ a w

/-- a claim about code: from such a state such an end -/
def Tri (P : Program) (base n : Nat) (goal : (Exit → Act → World → Prop) → Act → World → Prop) (F : Facts) (h : AHeap) (e : AExit) (F' : Facts) (h' : AHeap) : Prop :=
  ∀ (S : Nat → Prop) (w0 : World), Low S w0.heap.size → ∀ (φ0 φ : Map) (a : Act) (w : World), (∀ i v p, φ0 i v = some p → i < base) → Keep φ0 φ base → FRel φ S w0 n F h a w →
    ∀ Q : Exit → Act → World → Prop, (∀ φ' a' w', Keep φ0 φ' base → FRel φ' S w0 n F' h' a' w' → Q (toExit e) a' w') → goal Q a w

def Runs (P : Program) (base n : Nat) (c : Code) (F : Facts) (h : AHeap) (e : AExit) (F' : Facts) (h' : AHeap) : Prop := Tri P base n (fun Q a w => c.wp P Q a w) F h e F' h'
def Loops (P : Program) (base n : Nat) (c : Code) (F : Facts) (h : AHeap) (e : AExit) (F' : Facts) (h' : AHeap) : Prop := Tri P base n (fun Q a w => LoopW P c Q a w) F h e F' h'

def goalOf (P : Program) (body : Option Code) (c : Code) : (Exit → Act → World → Prop) → Act → World → Prop :=
  match body with
  | none => fun Q a w => c.wp P Q a w
  | some b => fun Q a w => ScopeW P b c Q a w

theorem Runs.of_loops {base n : Nat} {c : Code} {F F' : Facts} {h h' : AHeap} {e : AExit} (k : Loops P base n c F h e F' h') : Runs P base n (.loop c) F h e F' h' :=
  fun S w0 hS φ0 φ a w h0 hk r Q hQ => wp_of_loopW (k S w0 hS φ0 φ a w h0 hk r Q hQ)

theorem Loops.step {base n : Nat} {c : Code} {F F1 F2 : Facts} {h h1 h2 : AHeap} {e : AExit} (k1 : Runs P base n c F h .normal F1 h1) (k2 : Loops P base n c F1 h1 e F2 h2) : Loops P base n c F h e F2 h2 :=
  fun S w0 hS φ0 φ a w h0 hk r Q hQ => loopW_round (k1 S w0 hS φ0 φ a w h0 hk r _ fun φ' a' w' hk' r' => k2 S w0 hS φ0 φ' a' w' h0 hk' r' Q hQ)

theorem Loops.last {base n : Nat} {c : Code} {F F1 : Facts} {h h1 : AHeap} {e : AExit} (he : e ≠ .normal) (k1 : Runs P base n c F h e F1 h1) : Loops P base n c F h e F1 h1 :=
  fun S w0 hS φ0 φ a w h0 hk r Q hQ => loopW_round (k1 S w0 hS φ0 φ a w h0 hk r _ fun φ' a' w' hk' r' => by
    have := hQ φ' a' w' hk' r'
    cases e with
    | normal => exact absurd rfl he
    | _ => exact this)

/-- from one way to tell the state to another -/
def Ent (base n : Nat) (F : Facts) (h : AHeap) (F1 : Facts) (h1 : AHeap) : Prop :=
  ∀ (S : Nat → Prop) (w0 : World) (φ0 φ : Map) (a : Act) (w : World), (∀ i v p, φ0 i v = some p → i < base) → Keep φ0 φ base → FRel φ S w0 n F h a w → ∃ φ1, Keep φ0 φ1 base ∧ FRel φ1 S w0 n F1 h1 a w

theorem Tri.pre {base n : Nat} {goal : (Exit → Act → World → Prop) → Act → World → Prop} {F G F' : Facts} {h g h' : AHeap} {e : AExit} (k : Tri P base n goal F h e F' h') (i : Ent base n G g F h) : Tri P base n goal G g e F' h' :=
  fun S w0 hS φ0 φ a w h0 hk r Q hQ => by
    obtain ⟨φ1, hk1, r1⟩ := i S w0 φ0 φ a w h0 hk r
    exact k S w0 hS φ0 φ1 a w h0 hk1 r1 Q hQ

theorem Tri.post {base n : Nat} {goal : (Exit → Act → World → Prop) → Act → World → Prop} {F F' G' : Facts} {h h' g' : AHeap} {e : AExit} (k : Tri P base n goal F h e F' h') (i : Ent base n F' h' G' g') : Tri P base n goal F h e G' g' :=
  fun S w0 hS φ0 φ a w h0 hk r Q hQ => k S w0 hS φ0 φ a w h0 hk r Q fun φ' a' w' hk' r' => by
    obtain ⟨φ1, hk1, r1⟩ := i S w0 φ0 φ' a' w' h0 hk' r'
    exact hQ φ1 a' w' hk1 r1

/-- are the facts of G among those of F? -/
def Facts.le (G F : Facts) : Prop := ∀ t v, lookF G t = some v → lookF F t = some v

theorem Facts.le_refl (F : Facts) : Facts.le F F := fun _ _ h => h
theorem Facts.only_le (F : Facts) (l : List Nat) : Facts.le (onlyF F l) F := fun _ _ h => lookF_only h

theorem Ent.facts {base n : Nat} {F G : Facts} {h : AHeap} (k : Facts.le G F) : Ent base n F h G h :=
  fun S w0 φ0 φ a w h0 hk ⟨s, hn, hF, r⟩ => ⟨φ, hk, s, hn, fun t v hv => hF t v (k t v hv), r⟩

theorem pexec_spec (hE : EnvOk P E) (hmix : P.follows .mixedOrders = true) {base n : Nat} : ∀ (k : Nat) (body : Option Code) (c : Code) (F : Facts) (h : AHeap) (hs : List Hint) {e : AExit} {F' : Facts} {h' : AHeap} {hs' : List Hint} {cs : List Prop},
    pexec P E base (Runs P base n) n k body c F h hs = some (e, F', h', hs', cs) → All cs → Tri P base n (goalOf P body c) F h e F' h' := by
  intro k
  induction k with
  | zero => intro body c F h hs e F' h' hs' cs hp; cases hp
  | succ k ih =>
    intro body c F h hs e F' h' hs' cs hp hc
    cases body with
    | some body =>
      simp only [pexec] at hp
      split at hp
      · rename_i l F1 h1 hs1 c1 hx
        split at hp
        · rename_i rest hl
          split at hp
          · rename_i e2 F2 h2 hs2 c2 hy
            simp only [Option.some.injEq, Prod.mk.injEq] at hp
            obtain ⟨rfl, rfl, rfl, _, rfl⟩ := hp
            intro S w0 hS φ0 φ a w h0 hk r Q hQ
            refine scopeW_of_wp (ih none c F h hs hx hc.left S w0 hS φ0 φ a w h0 hk r _ fun φ' a' w' hk' r' => ?_)
            show scopePost P body Q (.goto l) a' w'
            simp only [scopePost, hl]
            exact ih (some body) rest F1 h1 hs1 hy hc.right S w0 hS φ0 φ' a' w' h0 hk' r' Q hQ
          · cases hp
        · rename_i hl
          simp only [Option.some.injEq, Prod.mk.injEq] at hp
          obtain ⟨rfl, rfl, rfl, _, rfl⟩ := hp
          intro S w0 hS φ0 φ a w h0 hk r Q hQ
          refine scopeW_of_wp (ih none c F h hs hx hc S w0 hS φ0 φ a w h0 hk r _ fun φ' a' w' hk' r' => ?_)
          show scopePost P body Q (.goto l) a' w'
          simp only [scopePost, hl]
          exact hQ φ' a' w' hk' r'
      · rename_i hx
        intro S w0 hS φ0 φ a w h0 hk r Q hQ
        refine scopeW_of_wp (ih none c F h hs hp hc S w0 hS φ0 φ a w h0 hk r _ fun φ' a' w' hk' r' => ?_)
        have := hQ φ' a' w' hk' r'
        cases e with
        | goto l => exact absurd hp (hx l F' h' hs' cs)
        | _ => exact this
    | none =>
      have stop : ∀ {e0 : AExit}, (∀ (Q : Exit → Act → World → Prop) (a : Act) (w : World), Q (toExit e0) a w → c.wp P Q a w) → some (e0, F, h, hs, ([] : List Prop)) = some (e, F', h', hs', cs) → Tri P base n (goalOf P none c) F h e F' h' := by
        intro e0 h0 hp
        simp only [Option.some.injEq, Prod.mk.injEq] at hp
        obtain ⟨rfl, rfl, rfl, _, _⟩ := hp
        intro S w0 hS φ0 φ a w hd hk r Q hQ
        exact h0 Q a w (hQ φ a w hk r)
      cases c
      case skip => exact stop (e0 := .normal) (fun _ _ _ hq => wp_skip hq) hp
      case label l => exact stop (e0 := .normal) (fun _ _ _ hq => wp_label hq) hp
      case goto l => exact stop (e0 := .goto l) (fun _ _ _ hq => wp_goto hq) hp
      case exit id => exact stop (e0 := .exit id) (fun _ _ _ hq => wp_exit hq) hp
      case ret => exact stop (e0 := .ret) (fun _ _ _ hq => wp_ret hq) hp
      case region id ops draw =>
        simp only [pexec] at hp
        cases hd : (Nat.ble base h.next && (!draw || drawOk ops)) with
        | false => rw [hd] at hp; cases hp
        | true =>
          rw [hd, cond_true] at hp
          split at hp
          · rename_i F1 h1 hs1 c1 k1 hr
            simp only [Option.some.injEq, Prod.mk.injEq] at hp
            obtain ⟨rfl, rfl, rfl, _, rfl⟩ := hp
            simp only [Bool.and_eq_true, Bool.or_eq_true] at hd
            obtain ⟨hb, hd⟩ := hd
            have hb : base ≤ h.next := Nat.le_of_ble_eq_true hb
            intro S w0 hS φ0 φ a w h0 hk ⟨s, hn, hF, r⟩ Q hQ
            have hl : ∀ j : Nat, ops.toList[j]? = ops[0 + j]? := fun j => by simp
            have hkd := prun_does P E ops.toList 0 F _ hs hr hc.left
            obtain ⟨s', g1, g2, hm'⟩ := prun_spec P E ops.toList 0 F _ hs hl hr hc.left (callK k1) (callK_holds hc.right) s hn hF
            have hrg : List.range' 0 ops.toList.length = List.range ops.size := by rw [List.range_eq_range', Array.length_toList]
            rw [hrg] at hm'
            have hreg : aregion E (callK k1) ops draw ⟨s, h⟩ = some ⟨s', h1⟩ := by
              unfold aregion
              unfold runL at hm'
              cases draw with
              | false => simpa using hm'
              | true =>
                have hd : drawOk ops = true := by simpa using hd
                simp only [if_true, hd]
                simpa using hm'
            exact aregion_sound hE hS (callK_ok P hkd hS) hmix r hreg fun a' w' φ' q1 q2 q3 => hQ φ' a' w' (hk.trans (q1.mono hb)) ⟨s', g1, g2, q2⟩
          · cases hp
      case seq x y =>
        simp only [pexec] at hp
        split at hp
        · rename_i F1 h1 hs1 c1 hx
          split at hp
          · rename_i e2 F2 h2 hs2 c2 hy
            simp only [Option.some.injEq, Prod.mk.injEq] at hp
            obtain ⟨rfl, rfl, rfl, _, rfl⟩ := hp
            intro S w0 hS φ0 φ a w h0 hk r Q hQ
            exact wp_seq (ih none x F h hs hx hc.left S w0 hS φ0 φ a w h0 hk r _ fun φ' a' w' hk' r' => ih none y F1 h1 hs1 hy hc.right S w0 hS φ0 φ' a' w' h0 hk' r' Q hQ)
          · cases hp
        · rename_i hx
          intro S w0 hS φ0 φ a w h0 hk r Q hQ
          refine wp_seq (ih none x F h hs hp hc S w0 hS φ0 φ a w h0 hk r _ fun φ' a' w' hk' r' => ?_)
          have := hQ φ' a' w' hk' r'
          cases e with
          | normal => exact absurd hp (hx F' h' hs' cs)
          | _ => exact this
      case cond x y z =>
        have go : ∀ {q : Bool} {c2 : List Prop} {hs2 : List Hint}, getF F x = .bool q → knownF F x = true → pexec P E base (Runs P base n) n k none (cond q y z) F h hs2 = some (e, F', h', hs', c2) → All c2 → Tri P base n (goalOf P none (.cond x y z)) F h e F' h' := by
          intro q c2 hs2 hq hk' hp hc
          intro S w0 hS φ0 φ a w h0 hk r Q hQ
          have hw := ih none (cond q y z) F h hs2 hp hc S w0 hS φ0 φ a w h0 hk r Q hQ
          obtain ⟨s, hn, hF, r⟩ := r
          have hx := r.eval x
          simp only at hx
          rw [← hF.get hk', hq] at hx
          simp only [VRel] at hx
          cases q
          · exact wp_cond_false hx hw
          · exact wp_cond_true hx hw
        simp only [pexec] at hp
        split at hp
        · simp only [Option.some.injEq, Prod.mk.injEq] at hp
          obtain ⟨rfl, rfl, rfl, _, rfl⟩ := hp
          exact hc.head
        · rename_i t q r
          split at hp
          · rename_i t'
            cases hk : (Nat.beq t t' && knownF F (.tmp t')) with
            | false => rw [hk] at hp; cases hp
            | true =>
              rw [hk, cond_true] at hp
              split at hp
              · rename_i e2 F2 h2 hs2 c2 hy
                simp only [Option.some.injEq, Prod.mk.injEq] at hp
                obtain ⟨rfl, rfl, rfl, rfl, rfl⟩ := hp
                simp only [Bool.and_eq_true] at hk
                have hrest : All c2 := fun p hp => hc p (by simp [hp])
                exact go (q := q) hc.head hk.2 hy hrest
              · cases hp
          · cases hp
        · cases hk : knownF F x with
          | false => rw [hk] at hp; cases hp
          | true =>
            rw [hk, cond_true] at hp
            split at hp
            · rename_i hq; exact go (q := true) hq hk hp hc
            · rename_i hq; exact go (q := false) hq hk hp hc
            · cases hp
      case block id c =>
        simp only [pexec] at hp
        split at hp
        · simp only [Option.some.injEq, Prod.mk.injEq] at hp
          obtain ⟨rfl, rfl, rfl, _, rfl⟩ := hp
          exact hc.head
        · split at hp
          · rename_i j F1 h1 hs1 c1 hx
            simp only [Option.some.injEq, Prod.mk.injEq] at hp
            obtain ⟨rfl, rfl, rfl, _, rfl⟩ := hp
            intro S w0 hS φ0 φ a w h0 hk r Q hQ
            refine wp_block (ih none c F h hs hx hc S w0 hS φ0 φ a w h0 hk r _ fun φ' a' w' hk' r' => ?_)
            have := hQ φ' a' w' hk' r'
            simp only [toExit, Exit.inBlock]
            rcases beq_cases j id with ⟨hj, ej⟩ | ⟨hj, ej⟩
            · rw [ej, cond_true] at this; rw [if_pos hj]; exact this
            · rw [ej, cond_false] at this; rw [if_neg hj]; exact this
          · rename_i hx
            intro S w0 hS φ0 φ a w h0 hk r Q hQ
            refine wp_block (ih none c F h hs hp hc S w0 hS φ0 φ a w h0 hk r _ fun φ' a' w' hk' r' => ?_)
            have := hQ φ' a' w' hk' r'
            cases e with
            | exit j => exact absurd hp (hx j F' h' hs' cs)
            | _ => exact this
      case loop c =>
        simp only [pexec] at hp
        split at hp
        · rename_i l F1 h1 e1 r1
          simp only [Option.some.injEq, Prod.mk.injEq] at hp
          obtain ⟨rfl, rfl, rfl, _, rfl⟩ := hp
          have hx : Tri P base n (goalOf P none (.loop c)) (onlyF F l) h e1 F1 h1 := hc.head
          exact hx.pre (Ent.facts fun t v hv => lookF_only hv)
        · simp only [Option.some.injEq, Prod.mk.injEq] at hp
          obtain ⟨rfl, rfl, rfl, _, rfl⟩ := hp
          exact hc.head
        · cases hp
      case scope c =>
        simp only [pexec] at hp
        intro S w0 hS φ0 φ a w h0 hk r Q hQ
        exact wp_of_scopeW (ih (some c) c F h hs hp hc S w0 hS φ0 φ a w h0 hk r Q hQ)
      all_goals cases hp

theorem pexec_runs (hE : EnvOk P E) (hmix : P.follows .mixedOrders = true) {base n k : Nat} {c : Code} {F : Facts} {h : AHeap} {hs : List Hint} {e : AExit} {F' : Facts} {h' : AHeap} {hs' : List Hint} {cs : List Prop}
    (hp : pexec P E base (Runs P base n) n k none c F h hs = some (e, F', h', hs', cs)) (hc : All cs) : Runs P base n c F h e F' h' :=
  pexec_spec hE hmix k none c F h hs hp hc

/-! ## another way to tell a state -/

theorem Ent.trans {base n : Nat} {F G K : Facts} {h g k : AHeap} (i : Ent base n F h G g) (j : Ent base n G g K k) : Ent base n F h K k :=
  fun S w0 φ0 φ a w h0 hk r => by
    obtain ⟨φ1, hk1, r1⟩ := i S w0 φ0 φ a w h0 hk r
    exact j S w0 φ0 φ1 a w h0 hk1 r1

theorem Ent.refl (base n : Nat) (F : Facts) (h : AHeap) : Ent base n F h F h := fun S w0 φ0 φ a w h0 hk r => ⟨φ, hk, r⟩

/-- rows are forgotten, or get other numbers -/
theorem Ent.ren {base n : Nat} {F F1 : Facts} {h h1 : AHeap} {r : Nat → Nat} (hw : Within r h1 h) (hf : ∀ t v, lookF F1 t = some v → t < n ∧ lookF F t = some (v.ren r) ∧ Clo (In h1) v)
    (b1 : ∀ i, i < base → In h i → In h1 i) (b2 : ∀ i, i < base → In h1 i → r i = i) (b3 : ∀ i, In h1 i → r i < base → i < base) : Ent base n F h F1 h1 := by
  intro S w0 φ0 φ a w h0 hk ⟨s, hn, hF, rl⟩
  have hsize : a.tmps.toList.length = n := by rw [rl.slots.length]; exact hn
  refine ⟨pull φ r h1, ⟨?_, ?_, ?_⟩, (List.range n).map (fun t => (lookF F1 t).getD .undef), by simp, ?_, ⟨?_, rl.heap.pull hw ?_, rl.below, rl.defers⟩⟩
  · intro i v p hp
    have hi := h0 i v p hp
    have hp' := hk.le i v p hp
    obtain ⟨_, b, hb, _⟩ := rl.heap.dom i v p hp'
    have hin := b1 i hi (by unfold In; rw [hb]; rfl)
    rw [pull_of hin, b2 i hi hin]; exact hp'
  · intro i hi hnone u
    have := hk.new i hi hnone
    unfold pull
    split
    · rename_i hin; rw [b2 i hi hin]; exact this u
    · rfl
  · intro i v p hp hro
    obtain ⟨hin, hp'⟩ := pull_some hp
    have h1 := hk.ro _ _ _ hp' hro
    have h2 := b3 i hin (h0 _ _ _ h1)
    rw [b2 i h2 hin] at h1; exact h1
  · intro t v hv
    obtain ⟨ht, _, _⟩ := hf t v hv
    simp [ht, hv]
  · refine VRels.of_get (by simp [hsize]) fun t x V hx hV => ?_
    have ht : t < n := by
      have := (List.getElem?_eq_some_iff.1 hx).1; simpa using this
    simp only [List.getElem?_map, List.getElem?_range ht, Option.map_some, Option.some.injEq] at hx
    cases hl : lookF F1 t with
    | none => rw [hl] at hx; simp at hx; subst hx; simp [VRel]
    | some v =>
      rw [hl] at hx; simp at hx; subst hx
      obtain ⟨_, g1, g2⟩ := hf t v hl
      obtain ⟨V', e1, e2⟩ := rl.slots.get (hF t _ g1)
      rw [hV] at e1; simp at e1; subst e1
      exact VRel.unren (fun i hi v p hp => by rw [pull_of hi]; exact hp) g2 e2
  · intro i v p hp hro
    obtain ⟨_, hp'⟩ := pull_some hp
    obtain ⟨_, B, _, _, _, _, _, _, hrow⟩ := rl.heap.dom _ _ _ hp'
    exact hrow.base hro

/-! ## parts of a function -/

/-- the bodies of the loops, in the order of the text -/
def loops : Code → List Code
  | .seq a b => loops a ++ loops b
  | .cond _ a b => loops a ++ loops b
  | .block _ c => loops c
  | .scope c => loops c
  | .loop c => c :: loops c
  | _ => []

def bodyOf (P : Program) (f : FuncId) : Code :=
  match P.funcs[f]? with
  | some fn => match fn.body with | some c => c | none => .skip
  | none => .skip

def loopAt (P : Program) (f : FuncId) (k : Nat) : Code := (loops (bodyOf P f))[k]?.getD .skip

/-- how many slots a call of f has, with so many arguments -/
def slotsOf (P : Program) (f : FuncId) (args : Nat) : Nat :=
  match P.funcs[f]? with
  | some fn => args + (fn.ntmps - args)
  | none => 0

/-- a path through code; what is kept of the facts -/
def ppath (P : Program) (E : AEnv) (base n : Nat) (c : Code) (F : Facts) (h : AHeap) (hs : List Hint) (keep : List Nat) : Option (AExit × Facts × AHeap × List Prop) :=
  match pexec P E base (Runs P base n) n 1000 none c F h hs with
  | some (e, F', h', [], cs) => some (e, onlyF F' keep, h', cs)
  | _ => none

theorem ppath_runs (hE : EnvOk P E) (hmix : P.follows .mixedOrders = true) {base n : Nat} {c : Code} {F F' : Facts} {h h' : AHeap} {hs : List Hint} {keep : List Nat} {e : AExit} {cs : List Prop}
    (hp : ppath P E base n c F h hs keep = some (e, F', h', cs)) (hc : All cs) : Runs P base n c F h e F' h' := by
  unfold ppath at hp
  split at hp
  · rename_i e1 F1 h1 c1 hx
    simp only [Option.some.injEq, Prod.mk.injEq] at hp
    obtain ⟨rfl, rfl, rfl, rfl⟩ := hp
    exact (pexec_runs hE hmix hx hc).post (Ent.facts (Facts.only_le _ _))
  · cases hp

/-! ## functions -/

def factsFrom : Nat → List AVal → Facts
  | _, [] => []
  | i, v :: r => (i, v) :: factsFrom (i + 1) r

theorem lookF_from : ∀ (l : List AVal) (i t : Nat) (v : AVal), lookF (factsFrom i l) t = some v → i ≤ t ∧ l[t - i]? = some v
  | [], i, t, v, h => by cases h
  | a :: r, i, t, v, h => by
    simp only [factsFrom, lookF_cons] at h
    split at h
    · rename_i e; subst e; exact ⟨Nat.le_refl _, by simpa using h⟩
    · rename_i e
      obtain ⟨h1, h2⟩ := lookF_from r (i + 1) t v h
      refine ⟨by omega, ?_⟩
      rw [show t - i = (t - (i + 1)) + 1 by omega, List.getElem?_cons_succ]; exact h2

def presults (D : Tys) (F : Facts) (h : AHeap) : List ResultVar → List Hint → Option (List AVal × List Prop)
  | [], [] => some ([], [])
  | [], _ => none
  | .tmp t :: r, hs => match lookF F t, presults D F h r hs with | some v, some (l, cs) => some (v :: l, cs) | _, _ => none
  | .cell a t :: r, .cell v :: hs => match lookF F a, presults D F h r hs with | some (.ptr (some p)), some (l, cs) => some (v :: l, (aload D t p h = some v) :: cs) | _, _ => none
  | _, _ => none

theorem presults_spec {D : Tys} {F : Facts} {h : AHeap} {s : List AVal} (hF : Has F s) : ∀ {rs : List ResultVar} {hs : List Hint} {l : List AVal} {cs : List Prop}, presults D F h rs hs = some (l, cs) → All cs → aresults D rs ⟨s, h⟩ = some l
  | [], hs, l, cs, hp, hc => by
    cases hs with
    | nil => simp only [presults, Option.some.injEq, Prod.mk.injEq] at hp; obtain ⟨rfl, _⟩ := hp; rfl
    | cons a r => simp [presults] at hp
  | .tmp t :: r, hs, l, cs, hp, hc => by
    simp only [presults] at hp
    split at hp
    · rename_i v l' cs' hv hx
      simp only [Option.some.injEq, Prod.mk.injEq] at hp
      obtain ⟨rfl, rfl⟩ := hp
      simp only [aresults, presults_spec hF hx hc, List.getD_eq_getElem?_getD, hF t v hv]; rfl
    · cases hp
  | .cell a t :: r, hs, l, cs, hp, hc => by
    cases hs with
    | nil => simp [presults] at hp
    | cons q hs =>
      cases q with
      | cell v =>
        simp only [presults] at hp
        split at hp
        · rename_i p l' cs' hv hx
          simp only [Option.some.injEq, Prod.mk.injEq] at hp
          obtain ⟨rfl, rfl⟩ := hp
          have hrest : All cs' := fun p hp => hc p (by simp [hp])
          simp only [aresults, presults_spec hF hx hrest, List.getD_eq_getElem?_getD, hF a _ hv, Option.getD_some, hc.head]
        · cases hp
      | _ => simp [presults] at hp

/-- a whole call: from the code's end to the answer -/
theorem FDoes.of_runs (hE : EnvOk P E) {f : FuncId} {fn : Func} {c : Code} (hf : P.funcs[f]? = some fn) (hb : fn.body = some c) {args : List AVal} {h h' : AHeap} {e : AExit} (he : e = .normal ∨ e = .ret) {F' : Facts} {rs : List Hint} {l : List AVal} {cs : List Prop}
    (hr : Runs P h.next (args.length + (fn.ntmps - args.length)) c (factsFrom 0 args) h e F' h') (hp : presults E.D F' h' fn.results.toList rs = some (l, cs)) (hc : All cs) (hn : h.next ≤ h'.next) : FDoes P f args h (aresult l) h' := by
  intro S w0 hS φ w args' hH hsafe hA
  refine ⟨⟨fn, c, hf, hb⟩, calls_of_wp hf hb ?_⟩
  have hlen : args'.size = args.length := by have := hA.length; rwa [Array.length_toList] at this
  have hF : Has (factsFrom 0 args) (args ++ List.replicate (fn.ntmps - args.length) skipped) := by
    intro t u hu
    obtain ⟨_, h2⟩ := lookF_from args 0 t u hu
    simp only [Nat.sub_zero] at h2
    obtain ⟨hlt, _⟩ := List.getElem?_eq_some_iff.1 h2
    rw [List.getElem?_append_left hlt]; exact h2
  have r : SRel φ S w0 ⟨args ++ List.replicate (fn.ntmps - args.length) skipped, h⟩ { tmps := args' ++ Array.replicate (fn.ntmps - args'.size) undef, defers := [] } w := by
    refine ⟨?_, hH, hsafe, rfl⟩
    simp only [Array.toList_append, Array.toList_replicate, hlen]
    exact hA.append (VRels.replicate (VRel.skipped φ) _)
  refine hr S w0 hS φ φ _ w (fun i v p hp => (hH.dom i v p hp).1) (Keep.refl _ _) ⟨_, by simp, hF, r⟩ _ fun φ' a' w' hk ⟨s', n1, f1, r1⟩ => ?_
  have hl := presults_spec f1 hp hc
  obtain ⟨v', k1, k2⟩ := results_sound hE.tys r1 hl
  rcases he with rfl | rfl
  · exact ⟨r1.defers, v', k1, v', φ', rfl, hk, k2, r1.heap, r1.below, hn⟩
  · exact ⟨r1.defers, v', k1, v', φ', rfl, hk, k2, r1.heap, r1.below, hn⟩

def pcall (P : Program) (E : AEnv) (f : FuncId) (args : List AVal) (h : AHeap) (hs : List Hint) (rs : List Hint) : Option (AVal × AHeap × List Prop) :=
  match P.funcs[f]? with
  | some fn =>
    match fn.body with
    | some c =>
      match pexec P E h.next (Runs P h.next (args.length + (fn.ntmps - args.length))) (args.length + (fn.ntmps - args.length)) 1000 none c (factsFrom 0 args) h hs with
      | some (.normal, F, h', [], c1) => match presults E.D F h' fn.results.toList rs with | some (l, c2) => cond (Nat.ble h.next h'.next) (some (aresult l, h', c1 ++ c2)) none | none => none
      | some (.ret, F, h', [], c1) => match presults E.D F h' fn.results.toList rs with | some (l, c2) => cond (Nat.ble h.next h'.next) (some (aresult l, h', c1 ++ c2)) none | none => none
      | _ => none
    | none => none
  | none => none

theorem pcall_does (hE : EnvOk P E) (hmix : P.follows .mixedOrders = true) {f : FuncId} {args : List AVal} {h : AHeap} {hs rs : List Hint} {v : AVal} {h' : AHeap} {cs : List Prop} (hp : pcall P E f args h hs rs = some (v, h', cs)) (hc : All cs) : FDoes P f args h v h' := by
  unfold pcall at hp
  split at hp
  · rename_i fn hf
    split at hp
    · rename_i c hb
      have fin : ∀ {e : AExit} {F : Facts} {h1 : AHeap} {c1 c2 : List Prop} {l : List AVal}, (e = .normal ∨ e = .ret) →
          pexec P E h.next (Runs P h.next (args.length + (fn.ntmps - args.length))) (args.length + (fn.ntmps - args.length)) 1000 none c (factsFrom 0 args) h hs = some (e, F, h1, [], c1) →
          presults E.D F h1 fn.results.toList rs = some (l, c2) → cond (Nat.ble h.next h1.next) (some (aresult l, h1, c1 ++ c2)) none = some (v, h', cs) → FDoes P f args h v h' := by
        intro e F h1 c1 c2 l he hx hr hq
        cases hle : Nat.ble h.next h1.next with
        | false => rw [hle] at hq; cases hq
        | true =>
          rw [hle, cond_true] at hq
          simp only [Option.some.injEq, Prod.mk.injEq] at hq
          obtain ⟨rfl, rfl, rfl⟩ := hq
          exact FDoes.of_runs hE hf hb he (pexec_runs hE hmix hx hc.left) hr hc.right (Nat.le_of_ble_eq_true hle)
      split at hp
      · rename_i F h1 c1 hx
        split at hp
        · rename_i l c2 hr; exact fin (.inl rfl) hx hr hp
        · cases hp
      · rename_i F h1 c1 hx
        split at hp
        · rename_i l c2 hr; exact fin (.inr rfl) hx hr hp
        · cases hp
      · cases hp
    · cases hp
  · cases hp

/-- behind the call rows are forgotten, or get other numbers -/
theorem FDoes.ren {f : FuncId} {args : List AVal} {h h' h2 : AHeap} {v v2 : AVal} {r : Nat → Nat} (k : FDoes P f args h v h') (hw : Within r h2 h') (hv : v = v2.ren r) (hcl : Clo (In h2) v2)
    (b1 : ∀ i, i < h.next → In h' i → In h2 i) (b2 : ∀ i, i < h.next → In h2 i → r i = i) (b3 : ∀ i, In h2 i → r i < h.next → i < h.next) (hn : h.next ≤ h2.next) : FDoes P f args h v2 h2 := by
  subst hv
  intro S w0 hS φ w args' hH hsafe hA
  obtain ⟨g1, g2⟩ := k S w0 hS φ w args' hH hsafe hA
  refine ⟨g1, g2.mono fun e w' ⟨v', φ', he, kp, hv, hr, hs, hn'⟩ => ?_⟩
  refine ⟨v', pull φ' r h2, he, ⟨?_, ?_, ?_⟩, VRel.unren (fun i hi v p hp => by rw [pull_of hi]; exact hp) hcl hv, hr.pull hw ?_, hs, hn⟩
  · intro i u p hp
    have hi := (hH.dom i u p hp).1
    have hp' := kp.le i u p hp
    obtain ⟨_, b, hb, _⟩ := hr.dom i u p hp'
    have hin := b1 i hi (by unfold In; rw [hb]; rfl)
    rw [pull_of hin, b2 i hi hin]; exact hp'
  · intro i hi hnone u
    have := kp.new i hi hnone
    unfold pull
    split
    · rename_i hin; rw [b2 i hi hin]; exact this u
    · rfl
  · intro i u p hp hro
    obtain ⟨hin, hp'⟩ := pull_some hp
    have h1 := kp.ro _ _ _ hp' hro
    have h2 := b3 i hin (hH.dom _ _ _ h1).1
    rw [b2 i h2 hin] at h1; exact h1
  · intro i u p hp hro
    obtain ⟨_, hp'⟩ := pull_some hp
    obtain ⟨_, B, _, _, _, _, _, _, hrow⟩ := hr.dom _ _ _ hp'
    exact hrow.base hro

/-- one function more whose answer is known -/
def AEnv.add (E : AEnv) (f : FuncId) (g : APrim) : AEnv := { E with prim := fun k => cond (Nat.beq k f) (some g) (E.prim k) }

theorem EnvOk.add (hE : EnvOk P E) {f : FuncId} {g : APrim} (hg : PrimOk P f g) : EnvOk P (E.add f g) where
  tys := hE.tys
  eqs := hE.eqs
  names := hE.names
  prims k q hq := by
    simp only [AEnv.add] at hq
    rcases beq_cases k f with ⟨h, e⟩ | ⟨h, e⟩
    · rw [e, cond_true] at hq; simp only [Option.some.injEq] at hq; subst hq; subst h; exact hg
    · rw [e, cond_false] at hq; exact hE.prims k q hq

/-! ## what hints ask -/

theorem All.nil : All [] := fun p hp => by simp at hp
theorem All.cons {p : Prop} {l : List Prop} (h : p) (k : All l) : All (p :: l) := fun q hq => by
  rcases List.mem_cons.1 hq with rfl | hq
  · exact h
  · exact k q hq
theorem okT {p : Prop} [Decidable p] (c : p) : some (AVal.bool (decide p)) = some (AVal.bool true) := by rw [decide_eq_true c]
theorem okF {p : Prop} [Decidable p] (c : ¬ p) : some (AVal.bool (decide p)) = some (AVal.bool false) := by rw [decide_eq_false c]
theorem eqT {α : Type} [BEq α] [LawfulBEq α] {a b : α} (c : a = b) : some (AVal.bool (a == b)) = some (AVal.bool true) := by simp [c]
theorem eqF {α : Type} [BEq α] [LawfulBEq α] {a b : α} (c : ¬ a = b) : some (AVal.bool (a == b)) = some (AVal.bool false) := by simp [c]
theorem neT {α : Type} [BEq α] [LawfulBEq α] {a b : α} (c : ¬ a = b) : some (AVal.bool (a != b)) = some (AVal.bool true) := by simp [c]
theorem neF {α : Type} [BEq α] [LawfulBEq α] {a b : α} (c : a = b) : some (AVal.bool (a != b)) = some (AVal.bool false) := by simp [c]

/-! ## functions of plain values -/

/-- no row is named in it -/
def Bare (v : AVal) : Prop := (∀ r, v.ren r = v) ∧ Clo (fun _ => False) v

theorem Bare.bool (b : Bool) : Bare (.bool b) := ⟨fun _ => rfl, trivial⟩
theorem Bare.int (k : IntKind) (n : Int) : Bare (.int k n) := ⟨fun _ => rfl, trivial⟩
theorem Bare.str (s : List UInt8) : Bare (.str s) := ⟨fun _ => rfl, trivial⟩

mutual
theorem Clo.mono {D D' : Nat → Prop} (h : ∀ i, D i → D' i) : ∀ {v : AVal}, Clo D v → Clo D' v
  | .ptr (some a), k => by simp only [Clo] at k ⊢; exact h _ k
  | .slice (some a) _ _, k => by simp only [Clo] at k ⊢; exact h _ k
  | .func _ f c, k => by simp only [Clo] at k ⊢; exact ⟨Clos.mono h k.1, Clos.mono h k.2⟩
  | .iface _ v, k => by simp only [Clo] at k ⊢; exact Clo.mono h k
  | .agg cs, k => by simp only [Clo] at k ⊢; exact Clos.mono h k
  | .tuple vs, k => by simp only [Clo] at k ⊢; exact Clos.mono h k
  | .undef, _ => by simp [Clo]
  | .bool _, _ => by simp [Clo]
  | .int _ _, _ => by simp [Clo]
  | .str _, _ => by simp [Clo]
  | .ptr none, _ => by simp [Clo]
  | .slice none _ _, _ => by simp [Clo]
  | .nilFunc, _ => by simp [Clo]
  | .nilIface, _ => by simp [Clo]
theorem Clos.mono {D D' : Nat → Prop} (h : ∀ i, D i → D' i) : ∀ {l : List AVal}, Clos D l → Clos D' l
  | [], _ => by simp [Clos]
  | a :: l, k => by simp only [Clos] at k ⊢; exact ⟨Clo.mono h k.1, Clos.mono h k.2⟩
end

/-- a function of plain values with a plain answer: nothing else counts -/
theorem FDoes.bare {f : FuncId} {args : List AVal} {v : AVal} {h' : AHeap} (k : FDoes P f args ⟨0, .nil⟩ v h') (ha : ∀ a ∈ args, Bare a) (hv : Bare v) (H : AHeap) : FDoes P f args H v H := by
  have k1 : FDoes P f args ⟨0, .nil⟩ v ⟨0, .nil⟩ := by
    refine k.ren (r := fun i => i) (v2 := v) ⟨?_, ?_, ?_⟩ (hv.1 _).symm (Clo.mono (fun i hi => hi.elim) hv.2) ?_ ?_ ?_ (Nat.le_refl _)
    · intro i b hb; cases hb
    · intro i j hi; cases hi
    · intro i b hb; cases hb
    · intro i hi; simp at hi
    · intro i hi; simp at hi
    · intro i hi; cases hi
  have k2 := k1.frame (r := fun i => H.next + i) (H := H) (H' := H) ⟨?_, ?_, ?_⟩ (Clos_iff.2 fun a hm => Clo.mono (fun i hi => hi.elim) (ha a hm).2) (fun i _ => by simp) ?_ (by simp) (fun _ _ _ => rfl)
  · rw [hv.1] at k2
    have : args.map (AVal.ren fun i => H.next + i) = args := by
      conv => rhs; rw [← List.map_id args]
      exact List.map_congr_left fun a hm => (ha a hm).1 _
    rw [this] at k2; exact k2
  · intro i b hb; cases hb
  · intro i j hi; cases hi
  · intro i b hb; cases hb
  · intro i b hb; cases hb

end
end
end Go.Lift
