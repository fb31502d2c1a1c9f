/-
  THE LIFT, PART S: runs of the abstract machine over values that are not known: a path through a function is run with hints (what an operation answers that cannot be worked out, which way a test goes), and what the hints ask is told.
-/
import Derived.Test.YtgfkllnaeekjeaaLiftU
namespace Go.Lift
noncomputable section
set_option linter.unusedVariables false
set_option linter.unusedSimpArgs false

/-- what is known of the slots -/
abbrev Facts := List (Nat × AVal)

def lookF : Facts → Nat → Option AVal
  | [], _ => none
  | (k, v) :: r, t => cond (Nat.beq k t) (some v) (lookF r t)

def dropF (t : Nat) : Facts → Facts
  | [] => []
  | (k, v) :: r => cond (Nat.beq k t) (dropF t r) ((k, v) :: dropF t r)

def setF (F : Facts) (d : Option Tmp) (v : AVal) : Facts :=
  match d with
  | some d => (d, v) :: dropF d F
  | none => F

def onlyF (F : Facts) : List Nat → Facts
  | [] => []
  | t :: r => match lookF F t with | some v => (t, v) :: onlyF F r | none => onlyF F r

def Has (F : Facts) (s : List AVal) : Prop := ∀ t v, lookF F t = some v → s[t]? = some v

theorem beq_cases (a b : Nat) : (a = b ∧ Nat.beq a b = true) ∨ (a ≠ b ∧ Nat.beq a b = false) := by
  by_cases h : a = b
  · exact .inl ⟨h, beq_true h⟩
  · exact .inr ⟨h, beq_false h⟩

theorem lookF_cons (k : Nat) (v : AVal) (r : Facts) (t : Nat) : lookF ((k, v) :: r) t = if k = t then some v else lookF r t := by
  simp only [lookF]
  rcases beq_cases k t with ⟨h, e⟩ | ⟨h, e⟩ <;> simp [h, e]

theorem lookF_drop (d t : Nat) (h : d ≠ t) : ∀ (F : Facts), lookF (dropF d F) t = lookF F t
  | [] => rfl
  | (k, v) :: r => by
    simp only [dropF]
    rcases beq_cases k d with ⟨hk, e⟩ | ⟨hk, e⟩
    · rw [e, cond_true, lookF_cons, if_neg (by omega), lookF_drop d t h r]
    · rw [e, cond_false, lookF_cons, lookF_cons, lookF_drop d t h r]

theorem Has.set {F : Facts} {s : List AVal} (hs : Has F s) {d : Option Tmp} (hd : ∀ t, d = some t → t < s.length) (v : AVal) : Has (setF F d v) (aput s d v) := by
  cases d with
  | none => exact hs
  | some d =>
    intro t u hu
    have hd' := hd d rfl
    simp only [setF, lookF_cons] at hu
    simp only [aput, List.getElem?_set]
    by_cases h : d = t
    · subst h
      rw [if_pos rfl] at hu
      rw [if_pos rfl, if_pos hd']; exact hu
    · rw [if_neg h, lookF_drop d t h] at hu
      rw [if_neg h]; exact hs t u hu

theorem lookF_only {F : Facts} {t : Nat} {v : AVal} : ∀ {l : List Nat}, lookF (onlyF F l) t = some v → lookF F t = some v
  | [], h => by cases h
  | k :: r, h => by
    simp only [onlyF] at h
    split at h
    · rename_i u hu
      rw [lookF_cons] at h
      split at h
      · rename_i e; subst e; rw [hu]; exact h
      · exact lookF_only h
    · exact lookF_only h

theorem Has.only {F : Facts} {s : List AVal} (hs : Has F s) (l : List Nat) : Has (onlyF F l) s := fun t v h => hs t v (lookF_only h)

def getF (F : Facts) : Operand → AVal
  | .tmp t => match lookF F t with | some v => v | none => .undef
  | .const v => ofConst v
  | .global _ => .undef
  | .func f => .func (.func f) [] []

def knownF (F : Facts) : Operand → Bool
  | .tmp t => match lookF F t with | some _ => true | none => false
  | _ => true

theorem Has.get {F : Facts} {s : List AVal} (hs : Has F s) {o : Operand} (hk : knownF F o = true) : getF F o = agetOp s o := by
  cases o with
  | tmp t =>
    simp only [knownF] at hk
    split at hk
    · rename_i v hv
      simp only [getF, agetOp, hv, List.getD_eq_getElem?_getD, hs t v hv, Option.getD_some]
    · cases hk
  | const v => rfl
  | global g => rfl
  | func f => rfl

def awantedF (ops : Array Oper) (F : Facts) (o : Oper) : Option Bool :=
  match o.guard with
  | none => some true
  | some (j, want) =>
    match (ops[j]?).bind (·.dst) with
    | some d =>
      match lookF F d with
      | some (.bool b) => some (b == want)
      | some (.tuple []) => some false
      | _ => none
    | none => none

theorem awantedF_eq {ops : Array Oper} {F : Facts} {s : List AVal} (hs : Has F s) {o : Oper} {b : Bool} (h : awantedF ops F o = some b) : awanted ops s o = some b := by
  unfold awantedF at h
  unfold awanted
  split at h
  · rename_i hg; simp only [hg]; exact h
  · rename_i j want hg
    simp only [hg]
    split at h
    · rename_i d hd
      simp only [hd]
      split at h
      · rename_i b' hb; simp only [hs _ _ hb]; exact h
      · rename_i hb; simp only [hs _ _ hb]; exact h
      · cases h
    · cases h

inductive Hint where
  /-- operation i of the region q (the number is 1000 q + i) answers so, and turns no memory -/
  | val (i : Nat) (v : AVal)
  /-- it answers so, and turns memory so -/
  | act (i : Nat) (v : AVal) (g : AHeap → AHeap)
  /-- it goes well: what it must for that is asked -/
  | go (i : Nat)
  /-- a load: the element that is read is e -/
  | ld (i : Nat) (e : AVal)
  /-- a store: the element that was there is e -/
  | st (i : Nat) (e : AVal)
  /-- the guard of operation i is so -/
  | guard (i : Nat) (b : Bool)
  /-- the test of slot t is so -/
  | test (t : Nat) (b : Bool)
  /-- of the facts these slots are kept -/
  | keep (l : List Nat)
  /-- the next loop ends so -/
  | loop (F : Facts) (h : AHeap) (e : AExit)
  /-- the next test or block, taken as a whole, ends so -/
  | cut (F : Facts) (h : AHeap) (e : AExit)
  /-- the next result that lies in a variable -/
  | cell (v : AVal)

def noCall : ACall := fun _ _ _ => none

/-- the function answers so -/
structure CallT (P : Program) (f : FuncId) (args : List AVal) (h : AHeap) (v : AVal) (h' : AHeap) : Prop where
  does : FDoes P f args h v h'

/-- what is known of a call -/
structure CFact where
  f : FuncId
  args : List AVal
  h : AHeap
  v : AVal
  h' : AHeap

def CFact.holds (call : ACall) (k : CFact) : Prop := call k.f k.args k.h = some (k.v, k.h')

abbrev Fit64 (n : Int) : Prop := -9223372036854775808 ≤ n ∧ n ≤ 9223372036854775807
/-- does the number fit? -/
def FitK (k : IntKind) (n : Int) : Prop :=
  match k with
  | .i64 => Fit64 n
  | .i8 => -128 ≤ n ∧ n ≤ 127
  | .i32 => -2147483648 ≤ n ∧ n ≤ 2147483647
  | .u8 => 0 ≤ n ∧ n ≤ 255
  | k => k.min ≤ n ∧ n ≤ k.max

theorem wrap_fit {k : IntKind} {n : Int} (h : FitK k n) : k.wrap n = n := by
  cases k <;> simp only [FitK, Fit64, IntKind.min, IntKind.max, IntKind.signed, IntKind.bits, IntKind.wrap] at h ⊢ <;> simp at h ⊢ <;> omega

section
variable (P : Program) (E : AEnv)

/-- an operation that goes well -/
def goOp (nid : Nat) (ρ : Operand → AVal) (h : AHeap) (o : Op) : Option (AVal × AHeap × Prop) :=
  match o with
  | .binOp op t x y _ =>
    match ρ x, ρ y with
    | .int k a, .int k' b =>
      match decEq k k' with
      | isTrue _ =>
        match op with
        | .add => some (.int k (a + b), h, FitK k (a + b))
        | .sub => some (.int k (a - b), h, FitK k (a - b))
        | .mul => some (.int k (a * b), h, FitK k (a * b))
        | .quo => some (.int k (a.tdiv b), h, b ≠ 0 ∧ FitK k (a.tdiv b))
        | .rem => some (.int k (a.tmod b), h, b ≠ 0)
        | _ => none
      | isFalse _ => none
    | _, _ => none
  | .indexAddr t x i =>
    match E.D t, ρ x, ρ i with
    | some d, .slice (some a) len _, .int _ i =>
      match d.kind with
      | .slice e =>
        match E.D e with
        | some xd => some (.ptr (some { a with idx := a.idx + i.toNat }), h, 0 ≤ i ∧ i < len ∧ a.es = xd.size)
        | none => none
      | _ => none
    | _, _, _ => none
  | .convert s d x =>
    match E.D s, E.D d, ρ x with
    | some _, some dd, .int _ n => match dd.kind with | .int k => some (.int k n, h, FitK k n) | _ => none
    | _, _, _ => none
  | .makeSlice t l c =>
    match E.D t, ρ l, ρ c with
    | some d, .int _ l, .int _ c =>
      match d.kind with
      | .slice e =>
        match E.D e with
        | some x =>
          match x.zero with
          | some z =>
            cond (Nat.blt 0 x.size && z.fits x.kind.isAgg x.size)
              (some (newSlice nid x.size l.toNat c.toNat, h.set nid (.made (List.replicate c.toNat z) x.size true), 0 ≤ l ∧ l ≤ c ∧ c < 2 ^ 62 ∧ x.bytes * c ≤ 2 ^ 48)) none
          | none => none
        | none => none
      | _ => none
    | _, _, _ => none
  | _ => none

theorem goOp_spec {nid : Nat} {ρ : Operand → AVal} {h h' : AHeap} {o : Op} {v : AVal} {p : Prop} (k : goOp E nid ρ h o = some (v, h', p)) (hp : p) (call : ACall) : aop E call nid ρ h o = some (v, h') := by
  cases o <;> simp only [goOp] at k <;> try (cases k; done)
  case binOp op t x y ty =>
    split at k
    · rename_i k1 a k2 b hx hy
      split at k
      · rename_i hk _
        subst hk
        simp only [aop, hx, hy, abin]
        split at k <;> first | (cases k; done) | (simp only [Option.some.injEq, Prod.mk.injEq] at k)
        all_goals (obtain ⟨rfl, rfl, rfl⟩ := k)
        · simp [aint, wrap_fit hp]
        · simp [aint, wrap_fit hp]
        · simp [aint, wrap_fit hp]
        · simp [aint, wrap_fit hp.2, hp.1]
        · simp [aint, hp]
      · cases k
    · cases k
  case indexAddr t x i =>
    split at k
    · rename_i d a len c kk i hd hx hi
      split at k
      · rename_i e he
        split at k
        · rename_i xd hxd
          simp only [Option.some.injEq, Prod.mk.injEq] at k
          obtain ⟨rfl, rfl, rfl⟩ := k
          simp only [aop, hx, hi, aindexAddr, hd, he, hxd]
          rw [if_pos hp]; rfl
        · cases k
      · cases k
    · cases k
  case convert s d x =>
    split at k
    · rename_i sd dd kk n hs hd hx
      split at k
      · rename_i k2 hk2
        simp only [Option.some.injEq, Prod.mk.injEq] at k
        obtain ⟨rfl, rfl, rfl⟩ := k
        simp [aop, hx, aconvert, hs, hd, hk2, wrap_fit hp]
      · cases k
    · cases k
  case makeSlice t l c =>
    split at k
    · rename_i d k1 l' k2 c' hd hl hc
      split at k
      · rename_i e he
        split at k
        · rename_i x hx
          split at k
          · rename_i z hz
            cases hb : (Nat.blt 0 x.size && z.fits x.kind.isAgg x.size) with
            | false => rw [hb] at k; cases k
            | true =>
              rw [hb, cond_true] at k
              simp only [Option.some.injEq, Prod.mk.injEq] at k
              obtain ⟨rfl, rfl, rfl⟩ := k
              simp only [Bool.and_eq_true] at hb
              simp only [aop, hl, hc, amakeSlice, hd, he, hx, hz]
              rw [if_pos ⟨hp.1, hp.2.1, hp.2.2.1, hp.2.2.2, Nat.blt_eq.mp hb.1, hb.2⟩]
          · cases k
        · cases k
      · cases k
    · cases k

/-- a load of an element that is told -/
def ldOp (ρ : Operand → AVal) (h : AHeap) (o : Op) (e : AVal) : Option (AVal × Prop) :=
  match o with
  | .load t x =>
    match ρ x with
    | .ptr (some a) =>
      match E.D t, h.get a.id with
      | some d, some b =>
        match loadElem d.kind.isAgg d.size a.fld e with
        | some v => some (v, b.elem? a.ver a.idx = some e)
        | none => none
      | _, _ => none
    | _ => none
  | _ => none

theorem ldOp_spec {nid : Nat} {ρ : Operand → AVal} {h : AHeap} {o : Op} {e v : AVal} {p : Prop} (k : ldOp E ρ h o e = some (v, p)) (hp : p) (call : ACall) : aop E call nid ρ h o = some (v, h) := by
  unfold ldOp at k
  split at k
  · rename_i t x
    split at k
    · rename_i a ha
      split at k
      · rename_i d b hd hb
        split at k
        · rename_i v' hv
          simp only [Option.some.injEq, Prod.mk.injEq] at k
          obtain ⟨rfl, rfl⟩ := k
          simp [aop, ha, aload, hd, hb, hp, hv]
        · cases k
      · cases k
    · cases k
  · cases k

/-- a store over an element that is told -/
def stOp (ρ : Operand → AVal) (h : AHeap) (o : Op) (e : AVal) : Option (AHeap × Prop) :=
  match o with
  | .store t x y =>
    match ρ x with
    | .ptr (some a) =>
      match E.D t, h.get a.id with
      | some d, some b =>
        cond ((ρ y).fits d.kind.isAgg d.size && !b.ro)
          (match storeElem a.fld (ρ y) e with
          | some e' => some (h.set a.id { b with elems := b.elems.set a.idx e', minVer := b.ver }, a.ver = b.ver ∧ b.elems[a.idx]? = some e)
          | none => none) none
      | _, _ => none
    | _ => none
  | _ => none

theorem stOp_spec {nid : Nat} {ρ : Operand → AVal} {h h' : AHeap} {o : Op} {e : AVal} {p : Prop} (k : stOp E ρ h o e = some (h', p)) (hp : p) (call : ACall) : aop E call nid ρ h o = some (skipped, h') := by
  unfold stOp at k
  split at k
  · rename_i t x y
    split at k
    · rename_i a ha
      split at k
      · rename_i d b hd hb
        cases hc : ((ρ y).fits d.kind.isAgg d.size && !b.ro) with
        | false => rw [hc] at k; cases k
        | true =>
          rw [hc, cond_true] at k
          split at k
          · rename_i e' he
            simp only [Option.some.injEq, Prod.mk.injEq] at k
            obtain ⟨rfl, rfl⟩ := k
            simp [aop, ha, astore, hd, hb, hp.1, hp.2, he, hc]
          · cases k
      · cases k
    · cases k
  · cases k

/-- what is asked for an operation to answer so; a call that is leant on -/
def actCond (nid : Nat) (ρ : Operand → AVal) (h : AHeap) (o : Op) (v : AVal) (h' : AHeap) : Prop × List CFact :=
  match o with
  | .call c =>
    match c.callee with
    | .value f => match ρ f with | .func (.func g) fs cs => (CallT P g (fs ++ c.args.toList.map ρ ++ cs) h v h', [⟨g, fs ++ c.args.toList.map ρ ++ cs, h, v, h'⟩]) | _ => (False, [])
    | .builtin b => (abuiltin E b c.argTypes (c.args.toList.map ρ) nid h = some (v, h'), [])
    | _ => (False, [])
  | o => (aop E noCall nid ρ h o = some (v, h'), [])

/-- likewise, where memory stays -/
def valCond (nid : Nat) (ρ : Operand → AVal) (h : AHeap) (o : Op) (v : AVal) : Prop × List CFact :=
  match o with
  | .load t x => (match ρ x with | .ptr (some a) => aload E.D t a h = some v | _ => False, [])
  | .indexAddr t x i => (aindexAddr E.D t (ρ x) (ρ i) = some v, [])
  | .index t x i => (aindex E.D t (ρ x) (ρ i) = some v, [])
  | .slice t x lo hi mx => (aslice E.D t (ρ x) (lo.map ρ) (hi.map ρ) (mx.map ρ) = some v, [])
  | .binOp op t x y _ => (abin E.D E.eqT (isLit x || isLit y) op t (ρ x) (ρ y) = some v, [])
  | o => actCond P E nid ρ h o v h

/-- no call -/
def plainOp : Op → Bool
  | .call c => match c.callee with | .value _ => false | _ => true
  | _ => true

theorem aop_noCall {nid : Nat} {ρ : Operand → AVal} {h : AHeap} {o : Op} (hp : plainOp o = true) (call : ACall) : aop E noCall nid ρ h o = aop E call nid ρ h o := by
  cases o
  case call c =>
    simp only [plainOp] at hp
    cases hc : c.callee <;> simp only [hc] at hp <;> simp only [aop, hc]
    cases hp
  case makeFunc f a b => cases f <;> rfl
  all_goals rfl

theorem actCond_spec {nid : Nat} {ρ : Operand → AVal} {h : AHeap} {o : Op} {v : AVal} {h' : AHeap} (k : (actCond P E nid ρ h o v h').1) {call : ACall} (hc : ∀ c ∈ (actCond P E nid ρ h o v h').2, c.holds call) :
    aop E call nid ρ h o = some (v, h') := by
  cases o
  case call c =>
    simp only [actCond] at k hc
    split at k
    · rename_i f hf
      simp only [hf] at hc
      split at k
      · rename_i g fs cs hg
        simp only [hg] at hc
        simp only [aop, hf, hg, acallVal]
        exact hc _ (List.mem_singleton.2 rfl)
      · exact k.elim
    · rename_i b hb
      simp only [aop, hb]; exact k
    · exact k.elim
  all_goals exact (aop_noCall E rfl call).symm.trans k

theorem valCond_spec {nid : Nat} {ρ : Operand → AVal} {h : AHeap} {o : Op} {v : AVal} (k : (valCond P E nid ρ h o v).1) {call : ACall} (hc : ∀ c ∈ (valCond P E nid ρ h o v).2, c.holds call) :
    aop E call nid ρ h o = some (v, h) := by
  cases o
  case load t x =>
    simp only [valCond] at k
    split at k
    · rename_i a ha; simp only [aop, ha, k]; rfl
    · exact k.elim
  case indexAddr t x i => simp only [valCond] at k; simp only [aop, k]; rfl
  case index t x i => simp only [valCond] at k; simp only [aop, k]; rfl
  case slice t x lo hi mx => simp only [valCond] at k; simp only [aop, k]; rfl
  case binOp op t x y z => simp only [valCond] at k; simp only [aop, k]; rfl
  all_goals exact actCond_spec P E k hc

theorem actCond_does {nid : Nat} {ρ : Operand → AVal} {h : AHeap} {o : Op} {v : AVal} {h' : AHeap} (k : (actCond P E nid ρ h o v h').1) : ∀ c ∈ (actCond P E nid ρ h o v h').2, FDoes P c.f c.args c.h c.v c.h' := by
  cases o
  case call c0 =>
    simp only [actCond] at k ⊢
    cases hcc : c0.callee with
    | value f =>
      rw [hcc] at k
      simp only at k ⊢
      cases hf : ρ f with
      | func fn fs cs =>
        rw [hf] at k
        cases fn with
        | func g =>
          simp only at k ⊢
          intro c hc
          simp only [List.mem_singleton] at hc
          subst hc; exact k.does
        | _ => exact k.elim
      | _ => rw [hf] at k; exact k.elim
    | invoke r m => rw [hcc] at k; exact k.elim
    | builtin b => intro c hc; simp at hc
  all_goals (intro c hc; simp [actCond] at hc)

theorem valCond_does {nid : Nat} {ρ : Operand → AVal} {h : AHeap} {o : Op} {v : AVal} (k : (valCond P E nid ρ h o v).1) : ∀ c ∈ (valCond P E nid ρ h o v).2, FDoes P c.f c.args c.h c.v c.h' := by
  cases o
  case load t x => intro c hc; simp [valCond] at hc
  case indexAddr t x i => intro c hc; simp [valCond] at hc
  case index t x i => intro c hc; simp [valCond] at hc
  case slice t x lo hi mx => intro c hc; simp [valCond] at hc
  case binOp op t x y z => intro c hc; simp [valCond] at hc
  all_goals exact actCond_does P E k

def pguard (q : Nat) (ops : Array Oper) (F : Facts) (i : Nat) (o : Oper) (hs : List Hint) : Option (Bool × List Hint × List Prop) :=
  match o.guard with
  | none => some (true, hs, [])
  | some _ =>
    match hs with
    | .guard j b :: r => cond (Nat.beq (1000 * q + i) j) (some (b, r, [awantedF ops F o = some b])) (match awantedF ops F o with | some b => some (b, hs, []) | none => none)
    | _ => match awantedF ops F o with | some b => some (b, hs, []) | none => none

def All (l : List Prop) : Prop := ∀ p ∈ l, p

theorem All.head {p : Prop} {l : List Prop} (h : All (p :: l)) : p := h p (by simp)
theorem All.tail {p : Prop} {l : List Prop} (h : All (p :: l)) : All l := fun q hq => h q (by simp [hq])
theorem All.left {a b : List Prop} (h : All (a ++ b)) : All a := fun p hp => h p (by simp [hp])
theorem All.right {a b : List Prop} (h : All (a ++ b)) : All b := fun p hp => h p (by simp [hp])

theorem pguard_spec {q : Nat} {ops : Array Oper} {F : Facts} {i : Nat} {o : Oper} {hs hs' : List Hint} {b : Bool} {cs : List Prop} (h : pguard q ops F i o hs = some (b, hs', cs)) (hc : All cs) {s : List AVal} (hF : Has F s) : awanted ops s o = some b := by
  unfold pguard at h
  split at h
  · rename_i hg
    simp only [Option.some.injEq, Prod.mk.injEq] at h
    obtain ⟨rfl, _, _⟩ := h
    simp only [awanted, hg]
  · split at h
    · rename_i j b' r
      cases hb : Nat.beq (1000 * q + i) j
      · rw [hb, cond_false] at h
        split at h
        · rename_i b'' hb'
          simp only [Option.some.injEq, Prod.mk.injEq] at h
          obtain ⟨rfl, _, _⟩ := h
          exact awantedF_eq hF hb'
        · cases h
      · rw [hb, cond_true] at h
        simp only [Option.some.injEq, Prod.mk.injEq] at h
        obtain ⟨rfl, _, rfl⟩ := h
        exact awantedF_eq hF hc.head
    · split at h
      · rename_i b'' hb'
        simp only [Option.some.injEq, Prod.mk.injEq] at h
        obtain ⟨rfl, _, _⟩ := h
        exact awantedF_eq hF hb'
      · cases h

/-- what a region that draws asks beside -/
def drawCond (ops : Array Oper) (n0 i : Nat) (ρ : Operand → AVal) (h : AHeap) (o : Op) (h' : AHeap) : List Prop :=
  match cls o with
  | .load => match loadId ρ o with | some b => cond (Nat.blt b n0 || (Nat.blt b (n0 + ops.size) && ordered (aheads ops) (b - n0) i)) [] [False] | none => [False]
  | .call => cond (looseCall ops (aheads ops) i) [sameOld (n0 + ops.size) h h' = true] []
  | _ => []

def isMem (o : Op) : Bool :=
  match cls o with
  | .load | .call => true
  | _ => false

/-- what comes of an operation: its answer, the memory, what is asked, the calls leant on -/
abbrev PRes := Option (AVal × AHeap × List Hint × List Prop × List CFact)

def popPlain (draw : Bool) (ops : Array Oper) (n0 i : Nat) (F : Facts) (h : AHeap) (o : Op) (hs : List Hint) : PRes :=
  cond (plainOp o)
    (match aop E noCall (n0 + i) (getF F) h o with
    | some (v, h') => some (v, h', hs, cond draw (drawCond ops n0 i (getF F) h o h') [], [])
    | none => none) none

def popHint (draw : Bool) (ops : Array Oper) (n0 i : Nat) (F : Facts) (h : AHeap) (o : Op) (x : Hint) (hs : List Hint) : PRes :=
  match x with
  | .val _ v => some (v, h, hs, (valCond P E (n0 + i) (getF F) h o v).1 :: cond draw (drawCond ops n0 i (getF F) h o h) [], (valCond P E (n0 + i) (getF F) h o v).2)
  | .act _ v g => some (v, g h, hs, (actCond P E (n0 + i) (getF F) h o v (g h)).1 :: cond draw (drawCond ops n0 i (getF F) h o (g h)) [], (actCond P E (n0 + i) (getF F) h o v (g h)).2)
  | .go _ =>
    match goOp E (n0 + i) (getF F) h o with
    | some (v, h', p) => some (v, h', hs, p :: cond draw (drawCond ops n0 i (getF F) h o h') [], [])
    | none => none
  | .ld _ e =>
    match ldOp E (getF F) h o e with
    | some (v, p) => some (v, h, hs, p :: cond draw (drawCond ops n0 i (getF F) h o h) [], [])
    | none => none
  | .st _ e =>
    match stOp E (getF F) h o e with
    | some (h', p) => some (skipped, h', hs, p :: cond draw (drawCond ops n0 i (getF F) h o h') [], [])
    | none => none
  | _ => none

def Hint.at : Hint → Option Nat
  | .val i _ => some i
  | .act i _ _ => some i
  | .go i => some i
  | .ld i _ => some i
  | .st i _ => some i
  | _ => none

def pop (q : Nat) (ops : Array Oper) (draw : Bool) (n0 i : Nat) (F : Facts) (h : AHeap) (o : Op) (hs : List Hint) : PRes :=
  match hs with
  | x :: r =>
    match x.at with
    | some j => cond (Nat.beq (1000 * q + i) j) (popHint P E draw ops n0 i F h o x r) (popPlain E draw ops n0 i F h o hs)
    | none => popPlain E draw ops n0 i F h o hs
  | [] => popPlain E draw ops n0 i F h o hs

def runOp (call : ACall) (ops : Array Oper) (draw : Bool) (n0 i : Nat) (ρ : Operand → AVal) (h : AHeap) (o : Op) : Option (AVal × AHeap) :=
  if draw then dop E call ops n0 i ρ h o else aop E call (n0 + i) ρ h o

theorem runOp_of {call : ACall} {ops : Array Oper} {draw : Bool} {n0 i : Nat} {ρ : Operand → AVal} {h h' : AHeap} {o : Op} {v : AVal} (ha : aop E call (n0 + i) ρ h o = some (v, h')) (hd : All (cond draw (drawCond ops n0 i ρ h o h') [])) :
    runOp E call ops draw n0 i ρ h o = some (v, h') := by
  unfold runOp
  cases draw with
  | false => exact ha
  | true =>
    have hd : All (drawCond ops n0 i ρ h o h') := hd
    simp only [if_true]
    unfold dop
    unfold drawCond at hd
    cases hcl : cls o <;> simp only [hcl] at hd ⊢ <;> try exact ha
    · split
      · rename_i b hb
        rw [hb] at hd
        simp only at hd
        cases hq : (Nat.blt b n0 || (Nat.blt b (n0 + ops.size) && ordered (aheads ops) (b - n0) i)) with
        | false => rw [hq] at hd; exact hd.head.elim
        | true =>
          simp only [Bool.or_eq_true, Bool.and_eq_true] at hq
          rw [if_pos]
          · exact ha
          · rcases hq with hq | ⟨hq, hq'⟩
            · exact .inl (Nat.blt_eq.mp hq)
            · exact .inr ⟨Nat.blt_eq.mp hq, hq'⟩
      · rename_i hb; rw [hb] at hd; exact hd.head.elim
    · simp only [ha]
      cases hl : looseCall ops (aheads ops) i with
      | false => simp
      | true =>
        rw [hl, cond_true] at hd
        simp only [if_true]
        rw [if_pos hd.head]

theorem popPlain_spec {ops : Array Oper} {draw : Bool} {n0 i : Nat} {F : Facts} {h h' : AHeap} {o : Op} {hs hs' : List Hint} {v : AVal} {cs : List Prop} {ks : List CFact} (hp : popPlain E draw ops n0 i F h o hs = some (v, h', hs', cs, ks)) (hc : All cs) (call : ACall) :
    runOp E call ops draw n0 i (getF F) h o = some (v, h') := by
  unfold popPlain at hp
  cases hb : plainOp o
  · rw [hb] at hp; cases hp
  · rw [hb, cond_true] at hp
    split at hp
    · rename_i v1 h1 ha
      simp only [Option.some.injEq, Prod.mk.injEq] at hp
      obtain ⟨rfl, rfl, _, rfl, _⟩ := hp
      exact runOp_of E ((aop_noCall E hb call).symm.trans ha) hc
    · cases hp

theorem popHint_spec {ops : Array Oper} {draw : Bool} {n0 i : Nat} {F : Facts} {h h' : AHeap} {o : Op} {x : Hint} {hs hs' : List Hint} {v : AVal} {cs : List Prop} {ks : List CFact} (hp : popHint P E draw ops n0 i F h o x hs = some (v, h', hs', cs, ks)) (hc : All cs) {call : ACall}
    (hk : ∀ c ∈ ks, c.holds call) : runOp E call ops draw n0 i (getF F) h o = some (v, h') := by
  unfold popHint at hp
  split at hp
  · simp only [Option.some.injEq, Prod.mk.injEq] at hp
    obtain ⟨rfl, rfl, _, rfl, rfl⟩ := hp
    exact runOp_of E (valCond_spec P E hc.head hk) hc.tail
  · simp only [Option.some.injEq, Prod.mk.injEq] at hp
    obtain ⟨rfl, rfl, _, rfl, rfl⟩ := hp
    exact runOp_of E (actCond_spec P E hc.head hk) hc.tail
  · split at hp
    · rename_i v1 h1 p hg
      simp only [Option.some.injEq, Prod.mk.injEq] at hp
      obtain ⟨rfl, rfl, _, rfl, _⟩ := hp
      exact runOp_of E (goOp_spec E hg hc.head call) hc.tail
    · cases hp
  · split at hp
    · rename_i v1 p hg
      simp only [Option.some.injEq, Prod.mk.injEq] at hp
      obtain ⟨rfl, rfl, _, rfl, _⟩ := hp
      exact runOp_of E (ldOp_spec E hg hc.head call) hc.tail
    · cases hp
  · split at hp
    · rename_i h1 p hg
      simp only [Option.some.injEq, Prod.mk.injEq] at hp
      obtain ⟨rfl, rfl, _, rfl, _⟩ := hp
      exact runOp_of E (stOp_spec E hg hc.head call) hc.tail
    · cases hp
  · cases hp

theorem pop_spec {q : Nat} {ops : Array Oper} {draw : Bool} {n0 i : Nat} {F : Facts} {h h' : AHeap} {o : Op} {hs hs' : List Hint} {v : AVal} {cs : List Prop} {ks : List CFact} (hp : pop P E q ops draw n0 i F h o hs = some (v, h', hs', cs, ks)) (hc : All cs) {call : ACall}
    (hk : ∀ c ∈ ks, c.holds call) : runOp E call ops draw n0 i (getF F) h o = some (v, h') := by
  unfold pop at hp
  split at hp
  · split at hp
    · rename_i j hj
      cases hb : Nat.beq (1000 * q + i) j
      · rw [hb, cond_false] at hp; exact popPlain_spec E hp hc call
      · rw [hb, cond_true] at hp; exact popHint_spec P E hp hc hk
    · exact popPlain_spec E hp hc call
  · exact popPlain_spec E hp hc call

theorem pop_does {q : Nat} {ops : Array Oper} {draw : Bool} {n0 i : Nat} {F : Facts} {h h' : AHeap} {o : Op} {hs hs' : List Hint} {v : AVal} {cs : List Prop} {ks : List CFact} (hp : pop P E q ops draw n0 i F h o hs = some (v, h', hs', cs, ks)) (hc : All cs) :
    ∀ c ∈ ks, FDoes P c.f c.args c.h c.v c.h' := by
  have plain : ∀ {hs0 : List Hint}, popPlain E draw ops n0 i F h o hs0 = some (v, h', hs', cs, ks) → ∀ c ∈ ks, FDoes P c.f c.args c.h c.v c.h' := by
    intro hs0 hp
    unfold popPlain at hp
    cases hb : plainOp o
    · rw [hb] at hp; cases hp
    · rw [hb, cond_true] at hp
      split at hp
      · simp only [Option.some.injEq, Prod.mk.injEq] at hp
        obtain ⟨_, _, _, _, rfl⟩ := hp
        intro c hc; simp at hc
      · cases hp
  unfold pop at hp
  split at hp
  · split at hp
    · rename_i j hj
      cases hb : Nat.beq (1000 * q + i) j
      · rw [hb, cond_false] at hp; exact plain hp
      · rw [hb, cond_true] at hp
        unfold popHint at hp
        split at hp
        · simp only [Option.some.injEq, Prod.mk.injEq] at hp
          obtain ⟨rfl, rfl, _, rfl, rfl⟩ := hp
          exact valCond_does P E hc.head
        · simp only [Option.some.injEq, Prod.mk.injEq] at hp
          obtain ⟨rfl, rfl, _, rfl, rfl⟩ := hp
          exact actCond_does P E hc.head
        all_goals first
          | (split at hp
             · simp only [Option.some.injEq, Prod.mk.injEq] at hp
               obtain ⟨_, _, _, _, rfl⟩ := hp
               intro c hc; simp at hc
             · cases hp)
          | cases hp
    · exact plain hp
  · exact plain hp

def ltDst (n : Nat) (o : Oper) : Bool :=
  match o.dst with
  | some d => Nat.blt d n
  | none => true

def prun (q : Nat) (ops : Array Oper) (draw : Bool) (n n0 : Nat) : List Oper → Nat → Facts → AHeap → List Hint → Option (Facts × AHeap × List Hint × List Prop × List CFact)
  | [], _, F, h, hs => some (F, h, hs, [], [])
  | o :: r, i, F, h, hs =>
    cond (ltDst n o)
    (match pguard q ops F i o hs with
    | some (true, hs1, c1) =>
      cond (o.op.operands.toList.all (knownF F))
      (match pop P E q ops draw n0 i F h o.op hs1 with
      | some (v, h', hs2, c2, k2) =>
        match prun q ops draw n n0 r (i + 1) (setF F o.dst v) h' hs2 with
        | some (F', h'', hs3, c3, k3) => some (F', h'', hs3, c1 ++ (c2 ++ c3), k2 ++ k3)
        | none => none
      | none => none) none
    | some (false, hs1, c1) =>
      match prun q ops draw n n0 r (i + 1) (setF F o.dst skipped) h hs1 with
      | some (F', h'', hs3, c3, k3) => some (F', h'', hs3, c1 ++ c3, k3)
      | none => none
    | none => none) none

def runL (E : AEnv) (call : ACall) (ops : Array Oper) (draw : Bool) (n0 : Nat) (l : List Nat) (s : ASt) : Option ASt :=
  if draw then drun E call ops n0 l s else arun E call ops n0 l s

theorem runL_cons_true {call : ACall} {ops : Array Oper} {draw : Bool} {n0 i : Nat} {l : List Nat} {s : List AVal} {h h' : AHeap} {o : Oper} {v : AVal} (ho : ops[i]? = some o) (hw : awanted ops s o = some true)
    (ha : runOp E call ops draw n0 i (agetOp s) h o.op = some (v, h')) : runL E call ops draw n0 (i :: l) ⟨s, h⟩ = runL E call ops draw n0 l ⟨aput s o.dst v, h'⟩ := by
  unfold runL runOp at *
  cases draw with
  | false => simp only [Bool.false_eq_true, if_false] at ha ⊢; simp only [arun, astep, ho, hw, ha]
  | true => simp only [if_true] at ha ⊢; simp only [drun, dstep, ho, hw, ha]

theorem runL_cons_false {call : ACall} {ops : Array Oper} {draw : Bool} {n0 i : Nat} {l : List Nat} {s : List AVal} {h : AHeap} {o : Oper} (ho : ops[i]? = some o) (hw : awanted ops s o = some false) :
    runL E call ops draw n0 (i :: l) ⟨s, h⟩ = runL E call ops draw n0 l ⟨aput s o.dst skipped, h⟩ := by
  unfold runL
  cases draw with
  | false => simp only [Bool.false_eq_true, if_false, arun, astep, ho, hw]
  | true => simp only [if_true, drun, dstep, ho, hw]

theorem length_aput (s : List AVal) (d : Option Tmp) (v : AVal) : (aput s d v).length = s.length := by cases d <;> simp [aput]

theorem prun_spec {q : Nat} {ops : Array Oper} {draw : Bool} {n n0 : Nat} : ∀ (l : List Oper) (i : Nat) (F : Facts) (h : AHeap) (hs : List Hint) {F' : Facts} {h' : AHeap} {hs' : List Hint} {cs : List Prop} {ks : List CFact}, (∀ j, l[j]? = ops[i + j]?) →
    prun P E q ops draw n n0 l i F h hs = some (F', h', hs', cs, ks) → All cs → ∀ call : ACall, (∀ c ∈ ks, c.holds call) → ∀ s : List AVal, s.length = n → Has F s → ∃ s', s'.length = n ∧ Has F' s' ∧
      runL E call ops draw n0 (List.range' i l.length) ⟨s, h⟩ = some ⟨s', h'⟩
  | [], i, F, h, hs, F', h', hs', cs, ks, hl, hp, hc, call, hk, s, hn, hF => by
    simp only [prun, Option.some.injEq, Prod.mk.injEq] at hp
    obtain ⟨rfl, rfl, _, _⟩ := hp
    exact ⟨s, hn, hF, by unfold runL; cases draw <;> rfl⟩
  | o :: r, i, F, h, hs, F', h', hs', cs, ks, hl, hp, hc, call, hk, s, hn, hF => by
    have ho : ops[i]? = some o := by have := hl 0; simpa using this.symm
    have hr : ∀ j, r[j]? = ops[i + 1 + j]? := fun j => by have := hl (j + 1); simp at this; rw [this]; congr 1; omega
    simp only [prun] at hp
    cases hd : ltDst n o with
    | false => rw [hd] at hp; cases hp
    | true =>
      rw [hd, cond_true] at hp
      have hdst : ∀ t, o.dst = some t → t < s.length := by
        intro t ht
        unfold ltDst at hd
        rw [ht] at hd
        rw [hn]; exact Nat.blt_eq.mp hd
      rw [List.length_cons, List.range'_succ]
      split at hp
      · rename_i hs1 c1 hg
        cases hall : o.op.operands.toList.all (knownF F) with
        | false => rw [hall] at hp; cases hp
        | true =>
          rw [hall, cond_true] at hp
          split at hp
          · rename_i v h1 hs2 c2 k2 hpop
            split at hp
            · rename_i F1 h2 hs3 c3 k3 hrun
              simp only [Option.some.injEq, Prod.mk.injEq] at hp
              obtain ⟨rfl, rfl, _, rfl, rfl⟩ := hp
              have hw := pguard_spec hg hc.left hF
              have ha1 := pop_spec P E hpop hc.right.left (call := call) fun c h => hk c (by simp [h])
              obtain ⟨s', k1, k2', hm2⟩ := prun_spec r (i + 1) _ _ _ hr hrun hc.right.right call (fun c h => hk c (by simp [h])) (aput s o.dst v) (by rw [length_aput]; exact hn) (hF.set hdst v)
              refine ⟨s', k1, k2', ?_⟩
              have heq : runOp E call ops draw n0 i (agetOp s) h o.op = some (v, h1) := by
                rw [← ha1]
                have hcg : ∀ x ∈ o.op.operands.toList, agetOp s x = getF F x := fun x hx => (hF.get (List.all_eq_true.1 hall x hx)).symm
                have h0 : ∀ nid, aop E call nid (agetOp s) h o.op = aop E call nid (getF F) h o.op := fun nid => aop_congr hcg
                have hlo : loadId (agetOp s) o.op = loadId (getF F) o.op := by
                  cases hoo : o.op <;> simp only [loadId]
                  rename_i t x
                  rw [hoo] at hcg
                  rw [hcg x (by simp [Op.operands])]
                unfold runOp dop
                simp only [h0, hlo]
              exact (runL_cons_true E ho hw heq).trans hm2
            · cases hp
          · cases hp
      · rename_i hs1 c1 hg
        split at hp
        · rename_i F1 h2 hs3 c3 k3 hrun
          simp only [Option.some.injEq, Prod.mk.injEq] at hp
          obtain ⟨rfl, rfl, _, rfl, rfl⟩ := hp
          have hw := pguard_spec hg hc.left hF
          obtain ⟨s', k1, k2, hm2⟩ := prun_spec r (i + 1) _ _ _ hr hrun hc.right call hk (aput s o.dst skipped) (by rw [length_aput]; exact hn) (hF.set hdst skipped)
          exact ⟨s', k1, k2, (runL_cons_false E ho hw).trans hm2⟩
        · cases hp
      · cases hp

theorem prun_does {q : Nat} {ops : Array Oper} {draw : Bool} {n n0 : Nat} : ∀ (l : List Oper) (i : Nat) (F : Facts) (h : AHeap) (hs : List Hint) {F' : Facts} {h' : AHeap} {hs' : List Hint} {cs : List Prop} {ks : List CFact},
    prun P E q ops draw n n0 l i F h hs = some (F', h', hs', cs, ks) → All cs → ∀ c ∈ ks, FDoes P c.f c.args c.h c.v c.h'
  | [], i, F, h, hs, F', h', hs', cs, ks, hp, hc => by
    simp only [prun, Option.some.injEq, Prod.mk.injEq] at hp
    obtain ⟨_, _, _, _, rfl⟩ := hp
    intro c hc; simp at hc
  | o :: r, i, F, h, hs, F', h', hs', cs, ks, hp, hc => by
    simp only [prun] at hp
    cases hd : ltDst n o with
    | false => rw [hd] at hp; cases hp
    | true =>
      rw [hd, cond_true] at hp
      split at hp
      · rename_i hs1 c1 hg
        cases hall : o.op.operands.toList.all (knownF F) with
        | false => rw [hall] at hp; cases hp
        | true =>
          rw [hall, cond_true] at hp
          split at hp
          · rename_i v h1 hs2 c2 k2 hpop
            split at hp
            · rename_i F1 h2 hs3 c3 k3 hrun
              simp only [Option.some.injEq, Prod.mk.injEq] at hp
              obtain ⟨rfl, rfl, _, rfl, rfl⟩ := hp
              intro c hm
              rcases List.mem_append.1 hm with hm | hm
              · exact pop_does P E hpop hc.right.left c hm
              · exact prun_does r (i + 1) _ _ _ hrun hc.right.right c hm
            · cases hp
          · cases hp
      · rename_i hs1 c1 hg
        split at hp
        · rename_i F1 h2 hs3 c3 k3 hrun
          simp only [Option.some.injEq, Prod.mk.injEq] at hp
          obtain ⟨rfl, rfl, _, rfl, rfl⟩ := hp
          exact prun_does r (i + 1) _ _ _ hrun hc.right
        · cases hp
      · cases hp

/-! the calls of a region -/

/-- two that ask the same are told the same -/
structure Agree (a b : List AVal) (h k : AHeap) (v u : AVal) (h' k' : AHeap) : Prop where
  agree : a = b → h = k → v = u ∧ h' = k'
def clash (a b : CFact) : List Prop := cond (Nat.beq a.f b.f) [Agree a.args b.args a.h b.h a.v b.v a.h' b.h'] []

def clashes : List CFact → List Prop
  | [] => []
  | a :: r => r.flatMap (clash a) ++ clashes r

open Classical in
def callK : List CFact → ACall
  | [], _, _, _ => none
  | k :: r, f, args, h => if k.f = f ∧ k.args = args ∧ k.h = h then some (k.v, k.h') else callK r f args h

theorem callK_mem : ∀ {ks : List CFact} {f : FuncId} {args : List AVal} {h : AHeap} {v : AVal} {h' : AHeap}, callK ks f args h = some (v, h') → ∃ k ∈ ks, k.f = f ∧ k.args = args ∧ k.h = h ∧ k.v = v ∧ k.h' = h'
  | [], f, args, h, v, h', hc => by cases hc
  | k :: r, f, args, h, v, h', hc => by
    simp only [callK] at hc
    split at hc
    · rename_i e
      simp only [Option.some.injEq, Prod.mk.injEq] at hc
      exact ⟨k, by simp, e.1, e.2.1, e.2.2, hc.1, hc.2⟩
    · obtain ⟨k', hm, q⟩ := callK_mem hc
      exact ⟨k', by simp [hm], q⟩

theorem callK_holds : ∀ {ks : List CFact}, All (clashes ks) → ∀ c ∈ ks, c.holds (callK ks)
  | [], _, c, hc => by simp at hc
  | k :: r, hu, c, hc => by
    simp only [clashes] at hu
    unfold CFact.holds
    simp only [callK]
    split
    · rename_i e
      rcases List.mem_cons.1 hc with rfl | hm
      · rfl
      · have := hu.left
        have hq : k.v = c.v ∧ k.h' = c.h' := by
          have h1 : Agree k.args c.args k.h c.h k.v c.v k.h' c.h' := this _ (List.mem_flatMap.2 ⟨c, hm, by unfold clash; rw [beq_true e.1]; simp⟩)
          exact h1.agree e.2.1 e.2.2
        rw [hq.1, hq.2]
    · rename_i e
      rcases List.mem_cons.1 hc with rfl | hm
      · exact absurd ⟨rfl, rfl, rfl⟩ e
      · exact callK_holds hu.right c hm

theorem callK_ok {ks : List CFact} (hk : ∀ c ∈ ks, FDoes P c.f c.args c.h c.v c.h') {N0 : Nat → Prop} {w0 : World} (hN : Low N0 w0.heap.size) : CallOk P N0 w0 (callK ks) := by
  intro f args h v h' hc φ w args' hH hB hA
  obtain ⟨k, hm, rfl, rfl, rfl, rfl, rfl⟩ := callK_mem hc
  exact hk k hm N0 w0 hN φ w args' hH hB hA

def pexec (base : Nat) (R : Code → Facts → AHeap → AExit → Facts → AHeap → Prop) (n : Nat) : Nat → Option Code → Code → Facts → AHeap → List Hint → Option (AExit × Facts × AHeap × List Hint × List Prop)
  | 0, _, _, _, _, _ => none
  | k + 1, some body, c, F, h, hs =>
    match pexec base R n k none c F h hs with
    | some (.goto l, F1, h1, hs1, c1) =>
      match findLabel body l with
      | some rest =>
        match pexec base R n k (some body) rest F1 h1 hs1 with
        | some (e, F2, h2, hs2, c2) => some (e, F2, h2, hs2, c1 ++ c2)
        | none => none
      | none => some (.goto l, F1, h1, hs1, c1)
    | r => r
  | k + 1, none, c, F, h, hs =>
    match c with
    | .skip => some (.normal, F, h, hs, [])
    | .label _ => some (.normal, F, h, hs, [])
    | .region q ops draw =>
      cond (Nat.ble base h.next && (!draw || drawOk ops))
      (match prun P E q ops draw n h.next ops.toList 0 F { h with next := h.next + ops.size } hs with
      | some (F1, h1, hs1, c1, k1) => some (.normal, F1, h1, hs1, c1 ++ clashes k1)
      | none => none) none
    | .seq a b =>
      match pexec base R n k none a F h hs with
      | some (.normal, F1, h1, hs1, c1) =>
        match pexec base R n k none b F1 h1 hs1 with
        | some (e, F2, h2, hs2, c2) => some (e, F2, h2, hs2, c1 ++ c2)
        | none => none
      | r => r
    | .cond x a b =>
      match hs with
      | .cut F1 h1 e :: r => some (e, F1, h1, r, [R (.cond x a b) F h e F1 h1])
      | .test t q :: r =>
        match x with
        | .tmp t' =>
          cond (Nat.beq t t' && knownF F (.tmp t'))
          (match pexec base R n k none (cond q a b) F h r with
          | some (e, F2, h2, hs2, c2) => some (e, F2, h2, hs2, (getF F x = .bool q) :: c2)
          | none => none) none
        | _ => none
      | _ =>
        cond (knownF F x)
        (match getF F x with
        | .bool true => pexec base R n k none a F h hs
        | .bool false => pexec base R n k none b F h hs
        | _ => none) none
    | .block id c =>
      match hs with
      | .cut F1 h1 e :: r => some (e, F1, h1, r, [R (.block id c) F h e F1 h1])
      | _ =>
        match pexec base R n k none c F h hs with
        | some (.exit j, F1, h1, hs1, c1) => some (cond (Nat.beq j id) .normal (.exit j), F1, h1, hs1, c1)
        | r => r
    | .loop c =>
      match hs with
      | .keep l :: .loop F1 h1 e :: r => some (e, F1, h1, r, [R (.loop c) (onlyF F l) h e F1 h1])
      | .loop F1 h1 e :: r => some (e, F1, h1, r, [R (.loop c) F h e F1 h1])
      | _ => none
    | .scope c => pexec base R n k (some c) c F h hs
    | .goto l => some (.goto l, F, h, hs, [])
    | .exit id => some (.exit id, F, h, hs, [])
    | .ret => some (.ret, F, h, hs, [])
    | _ => none
end
end
end Go.Lift
