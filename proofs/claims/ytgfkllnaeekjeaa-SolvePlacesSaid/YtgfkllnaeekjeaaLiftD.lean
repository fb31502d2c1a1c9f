/-
  THE LIFT, PART D: the plain operations: what the abstract machine computes the model computes.
-/
import Derived.Test.YtgfkllnaeekjeaaLiftC
import Derived.WalkKit
import Derived.WalkLawsBesides
namespace Go.Lift
noncomputable section
open Go.RowKit
set_option linter.unusedVariables false
set_option linter.unusedSimpArgs false

theorem Tys.Ok.get {D : Tys} {P : Program} (h : D.Ok P) {t : TypeId} {d : TyD} (hd : D t = some d) :
    ∃ i u, P.info? t = some i ∧ P.underlying t = some u ∧ d.kind = tkOf u ∧ d.size = i.size ∧ d.bytes = i.bytes ∧ d.zero = i.zero.map ofConst := by
  have := h t d hd
  unfold tyD at this
  split at this
  · rename_i i u hi hu
    simp at this; subst this
    exact ⟨i, u, hi, hu, rfl, rfl, rfl, rfl⟩
  · cases this

theorem tkOf_slice {u : TypeDesc} {e : TypeId} (h : tkOf u = .slice e) : u = .slice e := by cases u <;> simp [tkOf] at h ⊢; exact h
theorem tkOf_array {u : TypeDesc} {n : Nat} {e : TypeId} (h : tkOf u = .array n e) : u = .array n e := by cases u <;> simp [tkOf] at h ⊢; exact h
theorem tkOf_string {u : TypeDesc} (h : tkOf u = .string) : u = .string := by cases u <;> simp [tkOf] at h ⊢
theorem tkOf_bool {u : TypeDesc} (h : tkOf u = .bool) : u = .bool := by cases u <;> simp [tkOf] at h ⊢
theorem tkOf_int {u : TypeDesc} {k : IntKind} (h : tkOf u = .int k) : u = .int k := by cases u <;> simp [tkOf] at h ⊢; exact h
theorem tkOf_ptr {u : TypeDesc} {e : TypeId} (h : tkOf u = .ptr e) : u = .pointer e := by cases u <;> simp [tkOf] at h ⊢; exact h
theorem tkOf_func {u : TypeDesc} (h : tkOf u = .func) : ∃ a b c, u = .func a b c := by cases u <;> simp [tkOf] at h ⊢
theorem tkOf_iface {u : TypeDesc} {o : Bool} (h : tkOf u = .iface o) : ∃ ms, u = .interface ms ∧ o = !ms.isEmpty := by cases u <;> simp [tkOf] at h ⊢; rw [h]; simp
theorem tkOf_struct {u : TypeDesc} {l : List (Nat × TypeId)} (h : tkOf u = .struct l) : ∃ fs, u = .struct fs ∧ l = fs.toList.map fun f => (f.offset, f.type) := by
  cases u <;> simp [tkOf] at h ⊢; exact h.symm

theorem isAgg_run {P : Program} {t : TypeId} {u : TypeDesc} (h : P.underlying t = some u) (w : World) : (isAgg t).run P w = .ok (tkOf u).isAgg w := by
  unfold isAgg
  rw [Sem.run_bind, run_underlying h]
  cases u <;> rfl

theorem sizeOf_run {P : Program} {t : TypeId} {i : TypeInfo} (h : P.info? t = some i) (w : World) : (sizeOf t).run P w = .ok i.size w := by
  simp [sizeOf, typeInfo, h]

theorem typeInfo_run {P : Program} {t : TypeId} {i : TypeInfo} (h : P.info? t = some i) (w : World) : (typeInfo t).run P w = .ok i w := by
  simp [typeInfo, h]

theorem zero_run {P : Program} {t : TypeId} {i : TypeInfo} {z : Value} (h : P.info? t = some i) (hz : i.zero = some z) (w : World) : (zeroValue t).run P w = .ok z w := by
  simp [zeroValue, typeInfo, h, hz]

/-! ## integers, strings, bools -/

section
variable {P : Program} {φ : Map}

theorem sim_aint {op : BinOp} {k : IntKind} {x y : Int} {v : AVal} (t : TypeId) (h : aint op k x y = some v) (w : World) :
    ∃ v', (binOp op t (.int k x) (.int k y)).run P w = .ok v' w ∧ VRel φ v v' := by
  cases op <;> simp only [aint] at h <;>
    first
      | (cases h; done)
      | (split at h <;> first | (cases h; done) | (rename_i hy; simp at h; subst h; exact ⟨_, by simp [binOp, Op.intDiv, hy]; rfl, by simp only [VRel]⟩))
      | (simp at h; subst h; exact ⟨_, by simp [binOp, Op.intArith, Op.intBits, Op.intCmp]; rfl, by simp only [VRel]⟩)

theorem sim_ashift {op : BinOp} {k k' : IntKind} {x y : Int} {v : AVal} (t : TypeId) (hop : op = .shl ∨ op = .shr) (h : ashift op k x y = some v) (w : World) :
    ∃ v', (binOp op t (.int k x) (.int k' y)).run P w = .ok v' w ∧ VRel φ v v' := by
  unfold ashift at h
  split at h
  · cases h
  · rename_i hy
    rcases hop with rfl | rfl
    · simp at h; subst h; exact ⟨_, by simp [binOp, Op.shift, hy]; rfl, by simp only [VRel]⟩
    · simp at h; subst h; exact ⟨_, by simp [binOp, Op.shift, hy]; rfl, by simp only [VRel]⟩

theorem i64max : IntKind.i64.max = 9223372036854775807 := rfl

theorem sim_astr {op : BinOp} {a b : ByteArray} {v : AVal} (t : TypeId) (h : astr op a.data.toList b.data.toList = some v) (w : World) :
    ∃ v', (binOp op t (.string a) (.string b)).run P w = .ok v' w ∧ VRel φ v v' := by
  cases op <;> simp only [astr] at h <;>
    first
      | (cases h; done)
      | (split at h <;> first
          | (cases h; done)
          | (rename_i hlt
             simp at h; subst h
             refine ⟨.string (a ++ b), ?_, ?_⟩
             · simp only [binOp, Op.stringOp]
               rw [if_neg]
               · rfl
               · simp only [Array.length_toList] at hlt
                 rw [i64max]
                 simp only [ByteArray.size]
                 omega
             · simp [VRel]))
      | (simp at h; subst h; exact ⟨_, by simp [binOp, Op.stringOp, ByteArray.toList_eq]; rfl, by simp only [VRel]⟩)

/-- a struct type whose fields are one cell each, none of them named by a blank: '==' goes field by field -/
def eqOkB (P : Program) (t : TypeId) : Bool :=
  !P.eqGuardType P.depth t && !P.stoodInHeld t &&
  (match P.underlying t with
  | some (.struct fs) => fs.toList.zipIdx.all fun (f, i) => f.name != "_" && f.offset == i
  | _ => false)

def EqOk (P : Program) (t : TypeId) : Prop := eqOkB P t = true

theorem EqOk.spec {t : TypeId} (h : EqOk P t) : P.eqGuardType P.depth t = false ∧ P.stoodInHeld t = false ∧ ∀ fs, P.underlying t = some (.struct fs) → ∀ (i : Nat) (f : Field), fs.toList[i]? = some f → f.name ≠ "_" ∧ f.offset = i := by
  unfold EqOk eqOkB at h
  simp only [Bool.and_eq_true, Bool.not_eq_true'] at h
  obtain ⟨⟨h1, h2⟩, h3⟩ := h
  refine ⟨h1, h2, fun fs hfs i f hf => ?_⟩
  rw [hfs] at h3
  simp only [List.all_eq_true] at h3
  have := h3 (f, i) (by rw [List.mem_zipIdx_iff_getElem?]; exact hf)
  simpa using this

theorem cellEq_run {k : TK} {a b : AVal} {x y : Value} (ha : VRel φ a x) (hb : VRel φ b y) {r : Bool} (h : cellEq k a b = some r) {t : TypeId} {u : TypeDesc} (hu : P.underlying t = some u) (hk : k = tkOf u) (d : Nat) (w : World) :
    (Op.equalIn (d + 1) t x y).run P w = .ok r w ∧ (tkOf u).isAgg = false := by
  unfold cellEq at h
  split at h
  · rename_i k0 k1 a k2 b
    have := tkOf_int hk.symm; subst this
    split at h
    · rename_i e; subst e
      simp at h; subst h
      simp only [VRel] at ha hb; subst ha hb
      refine ⟨?_, rfl⟩
      simp only [Op.equalIn, Sem.run_bind, run_underlying hu, Result.andThen_ok, if_true, Sem.run_pure]
    · cases h
  · have := tkOf_bool hk.symm; subst this
    simp at h; subst h
    simp only [VRel] at ha hb; subst ha hb
    refine ⟨?_, rfl⟩
    simp only [Op.equalIn, Sem.run_bind, run_underlying hu, Result.andThen_ok, Sem.run_pure]
  · have := tkOf_string hk.symm; subst this
    simp at h; subst h
    simp only [VRel] at ha hb
    obtain ⟨s, rfl, rfl⟩ := ha
    obtain ⟨s', rfl, rfl⟩ := hb
    refine ⟨?_, rfl⟩
    rw [run_equalIn_string w d t s s' hu, ByteArray.toList_eq, ByteArray.toList_eq]
  · cases h

theorem structEq_run {D : Tys} (hD : D.Ok P) {xs ys : Array Value} (d : Nat) (w : World) : ∀ {fs : List Field} {i : Nat} {x y : List AVal} {b : Bool}, (∀ (j : Nat) (f : Field), fs[j]? = some f → f.name ≠ "_" ∧ f.offset = i + j) →
    VRels φ x (xs.toList.drop i) → VRels φ y (ys.toList.drop i) → structEq D (fs.map fun f => (f.offset, f.type)) x y = some b → (Op.eqFields (d + 1) xs ys fs).run P w = .ok b w
  | [], i, x, y, b, _, _, _, h => by
    simp only [List.map_nil] at h
    cases x <;> cases y <;> simp [structEq] at h
    subst h; rfl
  | f :: fs, i, x, y, b, hf, hx, hy, h => by
    simp only [List.map_cons] at h
    cases x with
    | nil => cases y <;> simp [structEq] at h
    | cons a x =>
      cases y with
      | nil => simp [structEq] at h
      | cons c y =>
        simp only [structEq] at h
        split at h
        · rename_i td htd
          obtain ⟨ti, u, hti, hu, hk, -⟩ := hD.get htd
          split at h
          · rename_i p q hp hq
            simp at h; subst h
            obtain ⟨hn, ho⟩ := hf 0 f (by simp)
            simp only [VRels] at hx hy
            obtain ⟨vx, tx, ex, hvx, hx⟩ := hx
            obtain ⟨vy, ty, ey, hvy, hy⟩ := hy
            obtain ⟨g1, g2⟩ := cellEq_run (P := P) hvx hvy hp hu hk d w
            have gx : xs[f.offset]? = some vx := by
              have := congrArg (fun l => l[0]?) ex
              simpa [ho] using this
            have gy : ys[f.offset]? = some vy := by
              have := congrArg (fun l => l[0]?) ey
              simpa [ho] using this
            have dx : xs.toList.drop (i + 1) = tx := by rw [← List.drop_drop, ex]; rfl
            have dy : ys.toList.drop (i + 1) = ty := by rw [← List.drop_drop, ey]; rfl
            have px : (part f.type xs f.offset).run P w = .ok vx w := by
              simp only [part, Sem.run_bind, isAgg_run hu, Result.andThen_ok, g2]
              simp [gx]
            have py : (part f.type ys f.offset).run P w = .ok vy w := by
              simp only [part, Sem.run_bind, isAgg_run hu, Result.andThen_ok, g2]
              simp [gy]
            have ih := structEq_run hD (xs := xs) (ys := ys) d w (fs := fs) (i := i + 1) (fun j g hg => by
              have := hf (j + 1) g (by simpa using hg)
              exact ⟨this.1, by omega⟩) (by rw [dx]; exact hx) (by rw [dy]; exact hy) hq
            simp only [Op.eqFields]
            rw [if_pos hn]
            simp only [Sem.run_bind, px, py, Result.andThen_ok, g1]
            cases p
            · rfl
            · simp only [Bool.not_true, Bool.false_eq_true, if_false, Bool.true_and]; exact ih
          · cases h
        · cases h

theorem md : Op.maxDepth = 9999 + 1 := rfl

theorem sim_aequal {D : Tys} (hD : D.Ok P) {eqT : TypeId → Bool} (hE : ∀ t, eqT t = true → EqOk P t) {lit : Bool} {t : TypeId} {x y : AVal} {x' y' : Value} {b : Bool}
    (hx : VRel φ x x') (hy : VRel φ y y') (h : aequal D eqT lit t x y = some b) (w : World) : (Op.equalIn Op.maxDepth t x' y').run P w = .ok b w := by
  unfold aequal at h
  split at h
  · cases h
  · rename_i d hd
    obtain ⟨i, u, hi, hu, hk, -⟩ := hD.get hd
    rw [hk] at h
    split at h
    · rename_i e; have := tkOf_bool e; subst this; simp only [VRel] at hx hy; subst hx hy; simp at h; subst h; rw [md]; generalize 9999 = dd; simp only [Op.equalIn, Sem.run_bind, run_underlying hu, Result.andThen_ok, Sem.run_pure, Option.isNone_some, Option.isNone_none]
    · rename_i e; have := tkOf_ptr e; subst this; simp only [VRel] at hx hy; subst hx hy; simp at h; subst h; rw [md]; generalize 9999 = dd; simp only [Op.equalIn, Sem.run_bind, run_underlying hu, Result.andThen_ok, Sem.run_pure, Option.isNone_some, Option.isNone_none]
    · rename_i e; have := tkOf_ptr e; subst this; simp only [VRel] at hx hy; obtain ⟨z, rfl, _⟩ := hy; subst hx; simp at h; subst h; rw [md]; generalize 9999 = dd; simp only [Op.equalIn, Sem.run_bind, run_underlying hu, Result.andThen_ok, Sem.run_pure, Option.isNone_some, Option.isNone_none]
    · rename_i e; have := tkOf_ptr e; subst this; simp only [VRel] at hx hy; obtain ⟨z, rfl, _⟩ := hx; subst hy; simp at h; subst h; rw [md]; generalize 9999 = dd; simp only [Op.equalIn, Sem.run_bind, run_underlying hu, Result.andThen_ok, Sem.run_pure, Option.isNone_some, Option.isNone_none]
    · rename_i e; have := tkOf_slice e; subst this; simp only [VRel] at hx hy; obtain ⟨rfl, _⟩ := hx; obtain ⟨rfl, _⟩ := hy; simp at h; subst h; rw [md]; generalize 9999 = dd; simp only [Op.equalIn, Sem.run_bind, run_underlying hu, Result.andThen_ok, Sem.run_pure, Option.isNone_some, Option.isNone_none]
    · rename_i e; have := tkOf_slice e; subst this; simp only [VRel] at hx hy; obtain ⟨rfl, _⟩ := hx; obtain ⟨z, c, rfl, _⟩ := hy; simp at h; subst h; rw [md]; generalize 9999 = dd; simp only [Op.equalIn, Sem.run_bind, run_underlying hu, Result.andThen_ok, Sem.run_pure, Option.isNone_some, Option.isNone_none]
    · rename_i e; have := tkOf_slice e; subst this; simp only [VRel] at hx hy; obtain ⟨rfl, _⟩ := hy; obtain ⟨z, c, rfl, _⟩ := hx; simp at h; subst h; rw [md]; generalize 9999 = dd; simp only [Op.equalIn, Sem.run_bind, run_underlying hu, Result.andThen_ok, Sem.run_pure, Option.isNone_some, Option.isNone_none]
    · rename_i e; obtain ⟨_, _, _, rfl⟩ := tkOf_func e; simp only [VRel] at hx hy; subst hx hy; simp at h; subst h; rw [md]; generalize 9999 = dd; simp only [Op.equalIn, Sem.run_bind, run_underlying hu, Result.andThen_ok, Sem.run_pure, Option.isNone_some, Option.isNone_none]
    · rename_i e; obtain ⟨_, _, _, rfl⟩ := tkOf_func e; simp only [VRel] at hx hy; obtain ⟨_, _, rfl, _⟩ := hy; subst hx; simp at h; subst h; rw [md]; generalize 9999 = dd; simp only [Op.equalIn, Sem.run_bind, run_underlying hu, Result.andThen_ok, Sem.run_pure, Option.isNone_some, Option.isNone_none]
    · rename_i e; obtain ⟨_, _, _, rfl⟩ := tkOf_func e; simp only [VRel] at hx hy; obtain ⟨_, _, rfl, _⟩ := hx; subst hy; simp at h; subst h; rw [md]; generalize 9999 = dd; simp only [Op.equalIn, Sem.run_bind, run_underlying hu, Result.andThen_ok, Sem.run_pure, Option.isNone_some, Option.isNone_none]
    · rename_i e; obtain ⟨_, rfl, _⟩ := tkOf_iface e; simp only [VRel] at hx hy; subst hx hy; split at h <;> simp at h; subst h; rw [md]; generalize 9999 = dd; simp only [Op.equalIn, Sem.run_bind, run_underlying hu, Result.andThen_ok, Sem.run_pure, Option.isNone_some, Option.isNone_none]
    · rename_i e; obtain ⟨_, rfl, _⟩ := tkOf_iface e; simp only [VRel] at hx hy; obtain ⟨_, rfl, _⟩ := hy; subst hx; simp at h; subst h; rw [md]; generalize 9999 = dd; simp only [Op.equalIn, Sem.run_bind, run_underlying hu, Result.andThen_ok, Sem.run_pure, Option.isNone_some, Option.isNone_none]
    · rename_i e; obtain ⟨_, rfl, _⟩ := tkOf_iface e; simp only [VRel] at hx hy; obtain ⟨_, rfl, _⟩ := hx; subst hy; simp at h; subst h; rw [md]; generalize 9999 = dd; simp only [Op.equalIn, Sem.run_bind, run_underlying hu, Result.andThen_ok, Sem.run_pure, Option.isNone_some, Option.isNone_none]
    · rename_i fs x y e
      obtain ⟨fl, rfl, hfl⟩ := tkOf_struct e
      simp only [VRel] at hx hy; obtain ⟨xs, rfl, rx⟩ := hx; obtain ⟨ys, rfl, ry⟩ := hy
      split at h
      · rename_i he
        obtain ⟨h1, h2, h3⟩ := (hE t he).spec
        have hfo : P.fieldsOf t = fl := by simp [Program.fieldsOf, hu]
        rw [md, run_equalIn_struct w 9999 t xs ys (by rw [hfo]; exact hu) h2, hfo]
        rw [hfl] at h
        exact structEq_run hD 9998 w (i := 0) (fun j f hf => by have := h3 fl hu j f hf; exact ⟨this.1, by omega⟩) (by simpa using rx) (by simpa using ry) h
      · cases h
    · cases h

/-- the two values that 'eqGuard' looks at -/
theorem sim_eqGuard {D : Tys} {eqT : TypeId → Bool} (hE : ∀ t, eqT t = true → EqOk P t) {op : BinOp} {t : TypeId} {xo yo : Operand} {x y : AVal} {x' y' : Value} {b : Bool}
    (hx : VRel φ x x') (hy : VRel φ y y') (h : aequal D eqT (isLit xo || isLit yo) t x y = some b) (w : World) : (eqGuard op t xo yo x' y').run P w = .ok () w := by
  have key : op = .eql ∨ op = .neq → (eqGuard op t xo yo x' y').run P w = .ok () w := by
    intro hop
    unfold aequal at h
    split at h
    · cases h
    · split at h
      all_goals first
        | (cases h; done)
        | (simp only [VRel] at hx hy; subst hx hy; rcases hop with rfl | rfl <;> rfl)
        | (simp only [VRel] at hx hy; obtain ⟨rfl, _⟩ := hx; obtain ⟨rfl, _⟩ := hy; rcases hop with rfl | rfl <;> rfl)
        | (simp only [VRel] at hx hy; subst hx; obtain ⟨_, rfl, _⟩ := hy; rcases hop with rfl | rfl <;> rfl)
        | (simp only [VRel] at hx hy; subst hy; obtain ⟨_, rfl, _⟩ := hx; rcases hop with rfl | rfl <;> rfl)
        | (simp only [VRel] at hx hy; obtain ⟨rfl, _⟩ := hx; obtain ⟨_, _, rfl, _⟩ := hy; rcases hop with rfl | rfl <;> rfl)
        | (simp only [VRel] at hx hy; obtain ⟨rfl, _⟩ := hy; obtain ⟨_, _, rfl, _⟩ := hx; rcases hop with rfl | rfl <;> rfl)
        | (simp only [VRel] at hx hy; subst hx; obtain ⟨_, _, rfl, _⟩ := hy; rcases hop with rfl | rfl <;> rfl)
        | (simp only [VRel] at hx hy; subst hy; obtain ⟨_, _, rfl, _⟩ := hx; rcases hop with rfl | rfl <;> rfl)
        | (simp only [VRel] at hx hy; subst hx hy; split at h <;> first | (cases h; done) | skip
           rename_i hl
           simp only [Bool.or_eq_true] at hl
           rcases hl with hl | hl
           · cases xo <;> first | (simp [isLit] at hl; done) | (rcases hop with rfl | rfl <;> rfl)
           · cases yo <;> first | (simp [isLit] at hl; done) | (rcases hop with rfl | rfl <;> simp [eqGuard]))
        | (simp only [VRel] at hx hy; obtain ⟨_, rfl, rx⟩ := hx; obtain ⟨_, rfl, ry⟩ := hy; split at h <;> first | (cases h; done) | skip
           rename_i he
           exact run_eqGuard_agg w op t xo yo _ _ (hE t he).spec.1)
  cases op <;> first | exact key (.inl rfl) | exact key (.inr rfl) | rfl

def eqKind : Value → Bool
  | .bool _ | .pointer _ | .slice _ _ _ | .func _ _ _ | .nilFunc | .nilIface | .iface _ _ | .agg _ => true
  | _ => false

theorem binOp_eql_gen (t : TypeId) (x y : Value) (h : eqKind x = true) : binOp .eql t x y = (do pure (.bool (← Op.equal t x y))) := by
  cases x <;> first | (simp [eqKind] at h; done) | (cases y <;> rfl)
theorem binOp_neq_gen (t : TypeId) (x y : Value) (h : eqKind x = true) : binOp .neq t x y = (do pure (.bool (!(← Op.equal t x y)))) := by
  cases x <;> first | (simp [eqKind] at h; done) | (cases y <;> rfl)

theorem aequal_kind {D : Tys} {eqT : TypeId → Bool} {lit : Bool} {t : TypeId} {x y : AVal} {x' : Value} {b : Bool} (hx : VRel φ x x') (h : aequal D eqT lit t x y = some b) : eqKind x' = true := by
  unfold aequal at h
  split at h
  · cases h
  · split at h
    all_goals first
      | (cases h; done)
      | (simp only [VRel] at hx; subst hx; rfl)
      | (simp only [VRel] at hx; obtain ⟨rfl, _⟩ := hx; rfl)
      | (simp only [VRel] at hx; obtain ⟨_, rfl, _⟩ := hx; rfl)
      | (simp only [VRel] at hx; obtain ⟨_, _, rfl, _⟩ := hx; rfl)

theorem sim_abin {D : Tys} (hD : D.Ok P) {eqT : TypeId → Bool} (hE : ∀ t, eqT t = true → EqOk P t) {op : BinOp} {t : TypeId} {xo yo : Operand} {x y v : AVal} {x' y' : Value}
    (hx : VRel φ x x') (hy : VRel φ y y') (h : abin D eqT (isLit xo || isLit yo) op t x y = some v) (w : World) :
    ∃ v', (eqGuard op t xo yo x' y').run P w = .ok () w ∧ (binOp op t x' y').run P w = .ok v' w ∧ VRel φ v v' := by
  unfold abin at h
  split at h
  · rename_i k a k' b
    simp only [VRel] at hx hy; subst hx hy
    have hg : (eqGuard op t xo yo (.int k a) (.int k' b)).run P w = .ok () w := by
      unfold eqGuard; split <;> rfl
    split at h
    · obtain ⟨v', h1, h2⟩ := sim_ashift (P := P) (φ := φ) (k' := k') t (.inl rfl) h w; exact ⟨v', hg, h1, h2⟩
    · obtain ⟨v', h1, h2⟩ := sim_ashift (P := P) (φ := φ) (k' := k') t (.inr rfl) h w; exact ⟨v', hg, h1, h2⟩
    · split at h
      · rename_i hk; subst hk
        obtain ⟨v', h1, h2⟩ := sim_aint (P := P) (φ := φ) t h w; exact ⟨v', hg, h1, h2⟩
      · cases h
  · rename_i a b
    simp only [VRel] at hx hy
    obtain ⟨s, rfl, rfl⟩ := hx
    obtain ⟨u, rfl, rfl⟩ := hy
    have hg : (eqGuard op t xo yo (.string s) (.string u)).run P w = .ok () w := by
      unfold eqGuard; split <;> rfl
    obtain ⟨v', h1, h2⟩ := sim_astr (P := P) (φ := φ) t h w; exact ⟨v', hg, h1, h2⟩
  · rename_i n1 n2
    split at h
    · simp only [Option.map_eq_some_iff] at h
      obtain ⟨b, hb, rfl⟩ := h
      refine ⟨.bool b, sim_eqGuard (D := D) hE hx hy hb w, ?_, by simp [VRel]⟩
      have he := sim_aequal hD hE hx hy hb w
      rw [binOp_eql_gen t x' y' (aequal_kind hx hb)]; simp [Op.equal, he]
    · simp only [Option.map_eq_some_iff] at h
      obtain ⟨b, hb, rfl⟩ := h
      refine ⟨.bool (!b), sim_eqGuard (D := D) hE hx hy hb w, ?_, by simp [VRel]⟩
      have he := sim_aequal hD hE hx hy hb w
      rw [binOp_neq_gen t x' y' (aequal_kind hx hb)]; simp [Op.equal, he]
    · cases h
end
end
end Go.Lift
