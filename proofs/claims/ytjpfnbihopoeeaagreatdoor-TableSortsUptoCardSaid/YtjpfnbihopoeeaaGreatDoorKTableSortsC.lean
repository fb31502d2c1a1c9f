/-
  Parts of the proof, one behind the other:
  THE LIFT, PART S: runs of the abstract machine over values that are not known: a path through a function is run with hints (what an operation answers that cannot be worked out, which way a test goes), and what the hints ask is told.
  THE LIFT, PART T: paths (part S) are sound: what a path answers the model does, wherever the rows lie; loops; functions.
  THE LIFT, PART V: canonical memories; rows forgotten at a loop's head; a call told of a small memory, in every memory; what hints ask, paid.
  THE LIFT, PART Q: runs over values that are not known, as a tree: where a test cannot be worked out both ways are gone; what is left to show comes out as one proposition.
  THE LIFT, PART W: a call told of a small memory whose rows name rows of it, in every memory.
  A CALL TOLD OF A SMALL MEMORY, IN EVERY MEMORY: the rows lie where they lie, what is new lies behind.
  Numbers of the table: strconv.ParseUint's loop, table.number, the document's Number: the walks.
  A text parted at a byte, plainly.
  strings.Count, strings.Index at one byte by the kit's contracts; strings.genSplit at one byte: the trees.
  strings.Count, strings.Index at one byte: by the kit's contracts.
  THE LIFT, PART X: at a loop's head or end rows get other numbers; rows that nobody names are added.
  strings.genSplit at a byte, as the model has it.
  strings.Split at a byte.
  strings.Split at a byte, in every memory; how a text lies in parts: the slices' rows in turn.
  internal/strconv.ParseUint at base 10 and 63 bits, of at most 15 bytes; strconv.ParseUint.
  The library's calls in table.number, in every memory: stringslite.Index at one byte, strings.Repeat, strconv.toError, bytealg.CompareString.
  table.number, table.field, the function that By makes, and the document's: the walks.
  The document's Number, in plain Lean, and its walk.
  The document's Number: what it gives.
-/
import Derived.Lib.Bytealg
import Derived.Shelf.Strings.Count
import Derived.Shelf.Strings.Search3
import Derived.Shelf.Strings.Search2
import Derived.Shelf.Small.Strs
import Derived.Test.YtjpfnbihopoeeaaGreatDoorKTableSortsB
set_option linter.unusedVariables false
set_option linter.unusedSimpArgs false
set_option linter.unusedSectionVars false
namespace Go.Lift
noncomputable section
abbrev Facts:=List (Nat×AVal)
def lookF:Facts→Nat→Option AVal
  | [],_=>none
  | (k,v)::r,t=>cond (Nat.beq k t) (some v) (lookF r t)
def dropF(t:Nat):Facts→Facts
  | []=> []
  | (k,v)::r=>cond (Nat.beq k t) (dropF t r) ((k,v)::dropF t r)
def setF(F:Facts)(d:Option Tmp)(v:AVal):Facts :=
  match d with
  | some d=>(d,v)::dropF d F
  | none=>F
def onlyF(F:Facts):List Nat→Facts
  | []=> []
  | t::r=>match lookF F t with | some v=>(t,v)::onlyF F r | none=>onlyF F r
def Has(F:Facts)(s:List AVal):Prop:= ∀ t v,lookF F t=some v→s[t]? =some v
theorem beq_cases(a b:Nat):(a=b∧Nat.beq a b=true)∨(a≠b∧Nat.beq a b=false):=by
  by_cases h:a=b
  · exact .inl ⟨h,beq_true h⟩
  · exact .inr ⟨h,beq_false h⟩
theorem lookF_cons(k:Nat)(v:AVal)(r:Facts)(t:Nat):lookF ((k,v)::r) t=if k=t then some v else lookF r t:=by
  simp only [lookF]
  rcases beq_cases k t with ⟨h,e⟩ | ⟨h,e⟩<;>simp [h,e]
theorem lookF_drop(d t:Nat)(h:d≠t): ∀ (F:Facts),lookF (dropF d F) t=lookF F t
  | []=>rfl
  | (k,v)::r=>by
    simp only [dropF]
    rcases beq_cases k d with ⟨hk,e⟩ | ⟨hk,e⟩
    · rw [e,cond_true,lookF_cons,if_neg (by omega),lookF_drop d t h r]
    · rw [e,cond_false,lookF_cons,lookF_cons,lookF_drop d t h r]
theorem Has.set {F:Facts}{s:List AVal}(hs:Has F s){d:Option Tmp}(hd: ∀ t,d=some t→t<s.length)(v:AVal):Has (setF F d v) (aput s d v):=by
  cases d with
  | none=>exact hs
  | some d =>
    intro t u hu
    have hd':=hd d rfl
    simp only [setF,lookF_cons]at hu
    simp only [aput,List.getElem?_set]
    by_cases h:d=t
    · subst h
      rw [if_pos rfl]at hu
      rw [if_pos rfl,if_pos hd'];exact hu
    · rw [if_neg h,lookF_drop d t h]at hu
      rw [if_neg h];exact hs t u hu
theorem lookF_only {F:Facts}{t:Nat}{v:AVal} : ∀ {l:List Nat},lookF (onlyF F l) t=some v→lookF F t=some v
  | [],h=>by cases h
  | k ::r,h=>by
    simp only [onlyF]at h
    split at h
    · rename_i u hu
      rw [lookF_cons]at h
      split at h
      · rename_i e;subst e;rw [hu];exact h
      · exact lookF_only h
    · exact lookF_only h
def getF(F:Facts):Operand→AVal
  | .tmp t=>match lookF F t with | some v=>v | none=> .undef
  | .const v=>ofConst v
  | .global _=> .undef
  | .func f=> .func (.func f) [] []
def knownF(F:Facts):Operand→Bool
  | .tmp t=>match lookF F t with | some _=>true | none=>false
  | _=>true
theorem Has.get {F:Facts}{s:List AVal}(hs:Has F s){o:Operand}(hk:knownF F o=true):getF F o=agetOp s o:=by
  cases o with
  | tmp t =>
    simp only [knownF]at hk
    split at hk
    · rename_i v hv
      simp only [getF,agetOp,hv,List.getD_eq_getElem?_getD,hs t v hv,Option.getD_some]
    · cases hk
  | const v=>rfl
  | global g=>rfl
  | func f=>rfl
def awantedF (ops:Array Oper) (F:Facts) (o:Oper):Option Bool :=
  match o.guard with
  | none=>some true
  | some (j,want) =>
    match (ops[j]?).bind (·.dst)with
    | some d =>
      match lookF F d with
      | some (.bool b)=>some (b == want)
      | some (.tuple [])=>some false
      | _=>none
    | none=>none
theorem awantedF_eq {ops:Array Oper}{F:Facts}{s:List AVal}(hs:Has F s){o:Oper}{b:Bool}(h:awantedF ops F o=some b):awanted ops s o=some b:=by
  unfold awantedF at h
  unfold awanted
  split at h
  · rename_i hg;simp only [hg];exact h
  · rename_i j want hg
    simp only [hg]
    split at h
    · rename_i d hd
      simp only [hd]
      split at h
      · rename_i b' hb;simp only [hs _ _ hb];exact h
      · rename_i hb;simp only [hs _ _ hb];exact h
      · cases h
    · cases h
inductive Hint where
  | val (i:Nat) (v:AVal)
  | act (i:Nat) (v:AVal) (g:AHeap→AHeap)
  | far (i:Nat) (v:AVal) (g:AHeap→AHeap)
  | farV (i:Nat) (v:AVal)
  | near (i:Nat) (v:AVal) (g:AHeap→AHeap) (k:Nat)
  | go (i:Nat)
  | ld (i:Nat) (e:AVal)
  | st (i:Nat) (e:AVal)
  | guard (i:Nat) (b:Bool)
  | test (t:Nat) (b:Bool)
  | keep (l:List Nat)
  | loop (F:Facts) (h:AHeap) (e:AExit)
  | cut (F:Facts) (h:AHeap) (e:AExit)
  | cell (v:AVal)
  | cv (i:Nat) (v:AVal) (g:AHeap→AHeap)
  | cvF (i:Nat) (v:AVal) (g:AHeap→AHeap)
  | run (i m:Nat)
  | runF (i m:Nat)
  | rounds (n:Nat)
  | enter (i:Nat)
def noCall:ACall:=fun _ _ _=>none
structure CallT(P:Program)(C:(Nat→Prop)→World→Prop)(f:FuncId)(args:List AVal)(h:AHeap)(v:AVal)(h':AHeap):Prop where
  does:FDoes P C f args h v h'
structure CFact where
  f:FuncId
  args:List AVal
  h:AHeap
  v:AVal
  h':AHeap
def CFact.holds(call:ACall)(k:CFact):Prop:=call k.f k.args k.h=some (k.v,k.h')
abbrev Fit64(n:Int):Prop:= -9223372036854775808≤n∧n≤9223372036854775807
def FitK(k:IntKind)(n:Int):Prop :=
  match k with
  | .i64=>Fit64 n
  | .i8=> -128≤n∧n≤127
  | .i32=> -2147483648≤n∧n≤2147483647
  | .u8=>0≤n∧n≤255
  | k=>k.min≤n∧n≤k.max
theorem wrap_fit {k:IntKind}{n:Int}(h:FitK k n):k.wrap n=n:=by
  cases k<;>simp only [FitK,Fit64,IntKind.min,IntKind.max,IntKind.signed,IntKind.bits,IntKind.wrap]at h ⊢ <;>simp at h ⊢ <;>omega
def iand(k:IntKind)(x y:Int):Int:=k.wrap (BitVec.ofInt k.bits x &&& BitVec.ofInt k.bits y).toNat
def ior(k:IntKind)(x y:Int):Int:=k.wrap (BitVec.ofInt k.bits x ||| BitVec.ofInt k.bits y).toNat
def ixor(k:IntKind)(x y:Int):Int:=k.wrap (BitVec.ofInt k.bits x ^^^ BitVec.ofInt k.bits y).toNat
def iandNot(k:IntKind)(x y:Int):Int:=k.wrap (BitVec.ofInt k.bits x &&& ~~~(BitVec.ofInt k.bits y)).toNat
def ishl(k:IntKind)(x y:Int):Int:=k.wrap (x*2^(min y.toNat k.bits))
def ishr(k:IntKind)(x y:Int):Int:=x.fdiv (2^(min y.toNat k.bits))
section
variable(P:Program)(E:AEnv)
def goOp (nid : Nat) (ρ:Operand→AVal) (h:AHeap) (o:Op):Option (AVal×AHeap×Prop) :=
  match o with
  | .binOp op t x y _ =>
    match ρ x,ρ y with
    | .int k a,.int k' b =>
      match op with
      | .shl=>some (.int k (ishl k a b),h,0≤b)
      | .shr=>some (.int k (ishr k a b),h,0≤b)
      | _ =>
      match decEq k k' with
      | isTrue _ =>
        match op with
        | .and=>some (.int k (iand k a b),h,True)
        | .or=>some (.int k (ior k a b),h,True)
        | .xor=>some (.int k (ixor k a b),h,True)
        | .andNot=>some (.int k (iandNot k a b),h,True)
        | .add=>some (.int k (a+b),h,FitK k (a+b))
        | .sub=>some (.int k (a-b),h,FitK k (a-b))
        | .mul=>some (.int k (a*b),h,FitK k (a*b))
        | .quo=>some (.int k (a.tdiv b),h,b≠0∧FitK k (a.tdiv b))
        | .rem=>some (.int k (a.tmod b),h,b≠0)
        | _=>none
      | isFalse _=>none
    | .str a,.str b =>
      match op with
      | .add=>some (.str (a++b),h,a.length+b.length<2^62)
      | _=>none
    | _,_=>none
  | .unOp op t x =>
    match op,ρ x with
    | .xor,.int k n=>some (.int k (ixor k (if k.signed then-1 else k.max) n),h,True)
    | .neg,.int k n=>some (.int k (0-n),h,FitK k (0-n))
    | _,_=>none
  | .index t x i =>
    match E.D t,ρ x,ρ i with
    | some d,.str s,.int _ i =>
      match d.kind with
      | .string=>some (.int .u8 (s.getD i.toNat 0).toNat,h,0≤i∧i<s.length)
      | _=>none
    | _,_,_=>none
  | .slice t x lo hi mx =>
    match mx with
    | some _=>none
    | none =>
      match E.D t,ρ x with
      | some d,.str s =>
        match d.kind with
        | .string =>
          match lo.map ρ,hi.map ρ with
          | none,none=>some (.str s,h,True)
          | some (.int _ l),none=>some (.str (s.drop l.toNat),h,0≤l∧l≤s.length)
          | none,some (.int _ u)=>some (.str (s.take u.toNat),h,0≤u∧u≤s.length)
          | some (.int _ l),some (.int _ u)=>some (.str ((s.take u.toNat).drop l.toNat),h,0≤l∧l≤u∧u≤s.length)
          | _,_=>none
        | _=>none
      | some d,.slice (some a) len cap =>
        match d.kind with
        | .slice e =>
          match E.D e with
          | some xd =>
            cond (Nat.beq a.fld 0 && Nat.beq a.es xd.size)
            (match lo.map ρ,hi.map ρ with
            | none,none=>some (.slice (some a) len cap,h,len≤cap)
            | some (.int _ l),none=>some (.slice (some {a with idx:=a.idx+l.toNat}) (len-l.toNat) (cap-l.toNat),h,0≤l∧l≤len∧len≤cap)
            | none,some (.int _ u)=>some (.slice (some a) u.toNat cap,h,0≤u∧u≤cap)
            | some (.int _ l),some (.int _ u)=>some (.slice (some {a with idx:=a.idx+l.toNat}) (u.toNat-l.toNat) (cap-l.toNat),h,0≤l∧l≤u∧u≤cap)
            | _,_=>none) none
          | none=>none
        | _=>none
      | _,_=>none
  | .indexAddr t x i =>
    match E.D t,ρ x,ρ i with
    | some d,.slice (some a) len _,.int _ i =>
      match d.kind with
      | .slice e =>
        match E.D e with
        | some xd=>cond (Nat.beq a.fld 0 && Nat.beq a.es xd.size) (some (.ptr (some {a with idx:=a.idx+i.toNat}),h,0≤i∧i<len)) none
        | none=>none
      | _=>none
    | _,_,_=>none
  | .convert s d x =>
    match E.D s,E.D d,ρ x with
    | some _,some dd,.int _ n=>match dd.kind with | .int k=>some (.int k n,h,FitK k n) | _=>none
    | _,_,_=>none
  | .call c =>
    match c.callee with
    | .builtin .append =>
      match c.args.toList.map ρ,c.argTypes[0]?,c.argTypes[1]? with
      | [.slice (some a) len cap,x],some t,some u =>
        match E.D u,E.D t,h.get a.id with
        | some ud,some d,some b =>
          match d.kind with
          | .slice e =>
            match E.D e with
            | some xd =>
              match elemsOf xd.size x h with
              | some (n1::ns) =>
                cond ((match ud.kind with | .slice _=>true | .string=>true | _=>false) && Nat.blt 0 xd.size && xd.zeroFits && Nat.beq a.fld 0 && Nat.beq a.es xd.size && !b.exact && !b.ro && (match b.ty with | none=>true | some q=>Nat.beq q.1 e && Nat.beq q.2 0))
                  (some (.slice (some {a with ver:=a.ver+1}) (len+(n1::ns).length) (len+(n1::ns).length),h.set a.id (b.grow (n1::ns)),
                    a.ver=b.ver∧a.idx+len=b.elems.length∧cap<len+(n1::ns).length∧(len+(n1::ns).length+(len+(n1::ns).length) / 4+512)*xd.bytes≤2^48∧len+(n1::ns).length<2^62)) none
              | _=>none
            | none=>none
          | _=>none
        | _,_,_=>none
      | _,_,_=>none
    | _=>none
  | .makeSlice t l c =>
    match E.D t,ρ l,ρ c with
    | some d, .int _ l,.int _ c =>
      match d.kind with
      | .slice e =>
        match E.D e with
        | some x =>
          match x.zero with
          | some z =>
            cond (Nat.blt 0 x.size && z.fits x.kind.isAgg x.size)
              (some (newSlice nid x.size l.toNat c.toNat,h.set nid (.made (List.replicate c.toNat z) x.size true),0≤l∧l≤c∧c<2^62∧x.bytes*c≤2^48)) none
          | none=>none
        | none=>none
      | _=>none
    | _,_,_=>none
  | _=>none
theorem goOp_spec {nid:Nat} {ρ:Operand→AVal} {h h':AHeap} {o:Op} {v:AVal} {p:Prop} (k:goOp E nid ρ h o=some (v,h',p)) (hp:p) (call:ACall):aop E call nid ρ h o=some (v,h'):=by
  cases o<;>simp only [goOp]at k<;>try (cases k;done)
  case binOp op t x y ty =>
    split at k
    · rename_i k1 a k2 b hx hy
      split at k
      · simp only [Option.some.injEq,Prod.mk.injEq]at k
        obtain⟨rfl,rfl,rfl⟩:=k
        simp only [aop,hx,hy,abin,ashift]
        rw [if_neg (by omega)];rfl
      · simp only [Option.some.injEq,Prod.mk.injEq]at k
        obtain⟨rfl,rfl,rfl⟩:=k
        simp only [aop,hx,hy,abin,ashift]
        rw [if_neg (by omega)];rfl
      split at k
      · rename_i hk _
        subst hk
        simp only [aop,hx,hy,abin]
        split at k<;>first | (cases k;done) | (simp only [Option.some.injEq,Prod.mk.injEq]at k)
        all_goals (obtain⟨rfl,rfl,rfl⟩:=k)
        · simp [aint,iand]
        · simp [aint,ior]
        · simp [aint,ixor]
        · simp [aint,iandNot]
        · simp [aint,wrap_fit hp]
        · simp [aint,wrap_fit hp]
        · simp [aint,wrap_fit hp]
        · simp [aint,wrap_fit hp.2,hp.1]
        · simp [aint,hp]
      · cases k
    · rename_i a b hx hy
      split at k
      · simp only [Option.some.injEq,Prod.mk.injEq]at k
        obtain⟨rfl,rfl,rfl⟩:=k
        simp only [aop,hx,hy,abin,astr]
        rw [if_pos hp];rfl
      · cases k
    · cases k
  case unOp op t x =>
    split at k
    · rename_i kk n hx
      simp only [Option.some.injEq,Prod.mk.injEq]at k
      obtain⟨rfl,rfl,rfl⟩:=k
      simp [aop,hx,aunary,aint,ixor]
    · rename_i kk n hx
      simp only [Option.some.injEq,Prod.mk.injEq]at k
      obtain⟨rfl,rfl,rfl⟩:=k
      simp only [aop,hx,aunary,wrap_fit hp];rfl
    · cases k
  case index t x i =>
    split at k
    · rename_i d s kk i hd hx hi
      split at k
      · rename_i hk
        simp only [Option.some.injEq,Prod.mk.injEq]at k
        obtain⟨rfl,rfl,rfl⟩:=k
        simp only [aop,hx,hi,aindex,hd,hk]
        rw [if_pos hp.1]
        have hlt:i.toNat<s.length:=by have:=hp.2;omega
        simp [List.getD_eq_getElem?_getD,List.getElem?_eq_getElem hlt]
      · cases k
    · cases k
  case slice t x lo hi mx =>
    split at k
    · cases k
    · split at k
      · rename_i d s hd hx
        split at k
        · rename_i hk
          split at k<;>first | (cases k;done) | (simp only [Option.some.injEq,Prod.mk.injEq]at k)
          all_goals (obtain⟨rfl,rfl,rfl⟩:=k)
          · rename_i h1 h2
            simp [aop,hx,h1,h2,aslice,hd,hk,abound]
          · rename_i k1 l h1 h2
            simp only [aop,hx,h1,h2,aslice,hd,hk,abound,Option.map_none,Option.isSome_none,Bool.false_eq_true,if_false]
            rw [if_pos ⟨hp.1,hp.2⟩]
            simp
          · rename_i k1 u h1 h2
            simp only [aop,hx,h1,h2,aslice,hd,hk,abound,Option.map_none,Option.isSome_none,Bool.false_eq_true,if_false]
            rw [if_pos ⟨hp.1,hp.2⟩]
            simp
          · rename_i k1 l k2 u h1 h2
            simp only [aop,hx,h1,h2,aslice,hd,hk,abound,Option.map_none,Option.isSome_none,Bool.false_eq_true,if_false]
            rw [if_pos ⟨by omega,hp.2.2⟩]
            simp only
            rw [if_pos ⟨hp.1,by omega⟩]
            simp
        · cases k
      · rename_i d a len cap hd hx
        split at k
        · rename_i e hk
          split at k
          · rename_i xd hxd
            cases hq:(Nat.beq a.fld 0 && Nat.beq a.es xd.size)with
            | false=>rw [hq]at k;cases k
            | true =>
              rw [hq,cond_true]at k
              simp only [Bool.and_eq_true]at hq
              have q1:=Nat.eq_of_beq_eq_true hq.1
              have q2:=Nat.eq_of_beq_eq_true hq.2
              split at k<;>first | (cases k;done) | (simp only [Option.some.injEq,Prod.mk.injEq]at k)
              all_goals (obtain⟨rfl,rfl,rfl⟩:=k)
              · rename_i h1 h2
                have:len≤cap:=hp
                cases a
                simp only at q1 q2
                simp [aop,hx,h1,h2,aslice,hd,hk,abound,hxd,q1,q2]
              · rename_i k1 l h1 h2
                simp only [aop,hx,h1,h2,aslice,hd,hk,abound,hxd,Option.map_none,Option.isSome_none,Bool.false_eq_true,if_false]
                rw [if_pos ⟨hp.1,hp.2.1⟩]
                simp [q1,q2]
              · rename_i k1 u h1 h2
                simp only [aop,hx,h1,h2,aslice,hd,hk,abound,hxd,Option.map_none,Option.isSome_none,Bool.false_eq_true,if_false]
                rw [if_pos ⟨hp.1,hp.2⟩]
                cases a
                simp only at q1 q2
                simp [q1,q2]
              · rename_i k1 l k2 u h1 h2
                simp only [aop,hx,h1,h2,aslice,hd,hk,abound,hxd,Option.map_none,Option.isSome_none,Bool.false_eq_true,if_false]
                rw [if_pos ⟨by omega,hp.2.2⟩]
                simp only
                rw [if_pos ⟨hp.1,by omega⟩]
                simp [q1,q2]
          · cases k
        · cases k
      · cases k
  case indexAddr t x i =>
    split at k
    · rename_i d a len c kk i hd hx hi
      split at k
      · rename_i e he
        split at k
        · rename_i xd hxd
          cases hq:(Nat.beq a.fld 0 && Nat.beq a.es xd.size)with
          | false=>rw [hq]at k;cases k
          | true =>
            rw [hq,cond_true]at k
            simp only [Bool.and_eq_true]at hq
            simp only [Option.some.injEq,Prod.mk.injEq]at k
            obtain⟨rfl,rfl,rfl⟩:=k
            simp only [aop,hx,hi,aindexAddr,hd,he,hxd]
            rw [if_pos ⟨hp.1,hp.2,Nat.eq_of_beq_eq_true hq.2,Nat.eq_of_beq_eq_true hq.1⟩];rfl
        · cases k
      · cases k
    · cases k
  case convert s d x =>
    split at k
    · rename_i sd dd kk n hs hd hx
      split at k
      · rename_i k2 hk2
        simp only [Option.some.injEq,Prod.mk.injEq]at k
        obtain⟨rfl,rfl,rfl⟩:=k
        simp [aop,hx,aconvert,hs,hd,hk2,wrap_fit hp]
      · cases k
    · cases k
  case call c =>
    split at k
    · rename_i hb
      split at k
      · rename_i a len cap x t u hargs ht hu
        split at k
        · rename_i ud d b hud hd hg
          split at k
          · rename_i e hk
            split at k
            · rename_i xd hxd
              split at k
              · rename_i n1 ns hel
                generalize hnew:n1::ns=new at k hel
                have hne:new≠ []:=by rw [← hnew];simp
                generalize hq:((match ud.kind with | .slice _=>true | .string=>true | _=>false) && Nat.blt 0 xd.size && xd.zeroFits && Nat.beq a.fld 0 && Nat.beq a.es xd.size && !b.exact && !b.ro && (match b.ty with | none=>true | some q=>Nat.beq q.1 e && Nat.beq q.2 0))=qq at k
                cases qq with
                | false=>cases k
                | true =>
                  rw [cond_true]at k
                  simp only [Option.some.injEq,Prod.mk.injEq]at k
                  obtain⟨rfl,rfl,rfl⟩:=k
                  simp only [Bool.and_eq_true,Bool.not_eq_true']at hq
                  obtain⟨⟨⟨⟨⟨⟨⟨c1,c2⟩,c3⟩,c4⟩,c5⟩,c6⟩,c7⟩,c8⟩:=hq
                  obtain⟨p1,p2,p3,p4,p5⟩:=hp
                  have q1:=Nat.eq_of_beq_eq_true c4
                  have q2:=Nat.eq_of_beq_eq_true c5
                  have hty:b.ty=none∨b.ty=some (e,0):=by
                    cases hbt:b.ty with
                    | none=>exact .inl rfl
                    | some q =>
                      rw [hbt]at c8
                      simp only [Bool.and_eq_true]at c8
                      exact .inr (by rw [← Nat.eq_of_beq_eq_true c8.1,← Nat.eq_of_beq_eq_true c8.2])
                  have happ:aappend E.D t (.slice (some a) len cap) x nid h=some (.slice (some {a with ver:=a.ver+1}) (len+new.length) (len+new.length),h.set a.id (b.grow new)):=by
                    simp only [aappend,hd,hk,hxd,hel]
                    rw [if_pos ⟨Nat.blt_eq.mp c2,p4,p5,c3⟩,if_pos ⟨q2,q1⟩]
                    simp only [hg]
                    rw [if_neg (by omega),if_neg (by rw [c6];simp),if_pos ⟨c7,p1,p2,hne,hty⟩]
                  simp only [aop,hb,hargs,abuiltin,ht,hu,hud]
                  cases huk:ud.kind<;>rw [huk]at c1<;>simp only [Bool.false_eq_true]at c1<;>exact happ
              · cases k
            · cases k
          · cases k
        · cases k
      · cases k
    · cases k
  case makeSlice t l c =>
    split at k
    · rename_i d k1 l' k2 c' hd hl hc
      split at k
      · rename_i e he
        split at k
        · rename_i x hx
          split at k
          · rename_i z hz
            cases hb:(Nat.blt 0 x.size && z.fits x.kind.isAgg x.size)with
            | false=>rw [hb]at k;cases k
            | true =>
              rw [hb,cond_true]at k
              simp only [Option.some.injEq,Prod.mk.injEq]at k
              obtain⟨rfl,rfl,rfl⟩:=k
              simp only [Bool.and_eq_true]at hb
              simp only [aop,hl,hc,amakeSlice,hd,he,hx,hz]
              rw [if_pos ⟨hp.1,hp.2.1,hp.2.2.1,hp.2.2.2,Nat.blt_eq.mp hb.1,hb.2⟩]
          · cases k
        · cases k
      · cases k
    · cases k
def ldOp (ρ:Operand→AVal) (h:AHeap) (o:Op) (e:AVal):Option (AVal×Prop) :=
  match o with
  | .load t x =>
    match ρ x with
    | .ptr (some a) =>
      match E.D t,h.get a.id with
      | some d,some b =>
        match loadElem d.kind.isAgg d.size a.fld e with
        | some v=>some (v,b.elem? a.ver a.idx=some e)
        | none=>none
      | _,_=>none
    | _=>none
  | _=>none
theorem ldOp_spec {nid:Nat} {ρ:Operand→AVal} {h:AHeap} {o:Op} {e v:AVal} {p:Prop} (k:ldOp E ρ h o e=some (v,p)) (hp:p) (call:ACall):aop E call nid ρ h o=some (v,h):=by
  unfold ldOp at k
  split at k
  · rename_i t x
    split at k
    · rename_i a ha
      split at k
      · rename_i d b hd hb
        split at k
        · rename_i v' hv
          simp only [Option.some.injEq,Prod.mk.injEq]at k
          obtain⟨rfl,rfl⟩:=k
          simp [aop,ha,aload,hd,hb,hp,hv]
        · cases k
      · cases k
    · cases k
  · cases k
def stOp (ρ:Operand→AVal) (h:AHeap) (o:Op) (e:AVal):Option (AHeap×Prop) :=
  match o with
  | .store t x y =>
    match ρ x with
    | .ptr (some a) =>
      match E.D t,h.get a.id with
      | some d,some b =>
        cond ((ρ y).fits d.kind.isAgg d.size && !b.ro)
          (match storeElem a.fld (ρ y) e with
          | some e'=>some (h.set a.id {b with elems:=b.elems.set a.idx e',minVer:=b.ver},a.ver=b.ver∧b.elems[a.idx]? =some e)
          | none=>none) none
      | _,_=>none
    | _=>none
  | _=>none
theorem stOp_spec {nid:Nat} {ρ:Operand→AVal} {h h':AHeap} {o:Op} {e:AVal} {p:Prop} (k:stOp E ρ h o e=some (h',p)) (hp:p) (call:ACall):aop E call nid ρ h o=some (skipped,h'):=by
  unfold stOp at k
  split at k
  · rename_i t x y
    split at k
    · rename_i a ha
      split at k
      · rename_i d b hd hb
        cases hc:((ρ y).fits d.kind.isAgg d.size && !b.ro)with
        | false=>rw [hc]at k;cases k
        | true =>
          rw [hc,cond_true]at k
          split at k
          · rename_i e' he
            simp only [Option.some.injEq,Prod.mk.injEq]at k
            obtain⟨rfl,rfl⟩:=k
            simp [aop,ha,astore,hd,hb,hp.1,hp.2,he,hc]
          · cases k
      · cases k
    · cases k
  · cases k
def actCond (nid:Nat) (ρ:Operand→AVal) (h:AHeap) (o:Op) (v:AVal) (h':AHeap):Prop×List CFact :=
  match o with
  | .call c =>
    match c.callee with
    | .value f=>match ρ f with | .func (.func g) fs cs=>(CallT P E.cond g (fs++c.args.toList.map ρ++cs) h v h',[⟨g,fs++c.args.toList.map ρ++cs,h,v,h'⟩]) | _=>(False,[])
    | .builtin b=>(abuiltin E b c.argTypes (c.args.toList.map ρ) nid h=some (v,h'),[])
    | _=>(False,[])
  | o=>(aop E noCall nid ρ h o=some (v,h'),[])
def valCond(nid:Nat)(ρ:Operand→AVal)(h:AHeap)(o:Op)(v:AVal):Prop×List CFact :=
  match o with
  | .load t x=>(match ρ x with | .ptr (some a)=>aload E.D t a h=some v | _=>False,[])
  | .indexAddr t x i=>(aindexAddr E.D t (ρ x) (ρ i)=some v,[])
  | .index t x i=>(aindex E.D t (ρ x) (ρ i)=some v,[])
  | .slice t x lo hi mx=>(aslice E.D t (ρ x) (lo.map ρ) (hi.map ρ) (mx.map ρ)=some v,[])
  | .binOp op t x y _=>(abin E.D E.eqT (isLit x || isLit y) op t (ρ x) (ρ y)=some v,[])
  | o=>actCond P E nid ρ h o v h
def plainOp:Op→Bool
  | .call c=>match c.callee with | .value _=>false | _=>true
  | _=>true
theorem aop_noCall {nid:Nat}{ρ:Operand→AVal}{h:AHeap}{o:Op}(hp:plainOp o=true)(call:ACall):aop E noCall nid ρ h o=aop E call nid ρ h o:=by
  cases o
  case call c =>
    simp only [plainOp]at hp
    cases hc:c.callee<;>simp only [hc]at hp<;>simp only [aop,hc]
    cases hp
  case makeFunc f a b=>cases f<;>rfl
  all_goals rfl
theorem actCond_spec {nid:Nat} {ρ:Operand→AVal} {h:AHeap} {o:Op} {v:AVal} {h':AHeap} (k:(actCond P E nid ρ h o v h').1) {call:ACall} (hc: ∀ c∈(actCond P E nid ρ h o v h').2,c.holds call) :
    aop E call nid ρ h o=some (v,h'):=by
  cases o
  case call c =>
    simp only [actCond]at k hc
    split at k
    · rename_i f hf
      simp only [hf]at hc
      split at k
      · rename_i g fs cs hg
        simp only [hg]at hc
        simp only [aop,hf,hg,acallVal]
        exact hc _ (List.mem_singleton.2 rfl)
      · exact k.elim
    · rename_i b hb
      simp only [aop,hb];exact k
    · exact k.elim
  all_goals exact(aop_noCall E rfl call).symm.trans k
theorem valCond_spec {nid:Nat}{ρ:Operand→AVal}{h:AHeap}{o:Op}{v:AVal}(k:(valCond P E nid ρ h o v).1){call:ACall}(hc: ∀ c∈(valCond P E nid ρ h o v).2,c.holds call) :
    aop E call nid ρ h o=some (v,h):=by
  cases o
  case load t x =>
    simp only [valCond]at k
    split at k
    · rename_i a ha;simp only [aop,ha,k];rfl
    · exact k.elim
  case indexAddr t x i=>simp only [valCond]at k;simp only [aop,k];rfl
  case index t x i=>simp only [valCond]at k;simp only [aop,k];rfl
  case slice t x lo hi mx=>simp only [valCond]at k;simp only [aop,k];rfl
  case binOp op t x y z=>simp only [valCond]at k;simp only [aop,k];rfl
  all_goals exact actCond_spec P E k hc
theorem actCond_does {nid:Nat} {ρ:Operand→AVal} {h:AHeap} {o:Op} {v:AVal} {h':AHeap} (k:(actCond P E nid ρ h o v h').1): ∀ c∈(actCond P E nid ρ h o v h').2,FDoes P E.cond c.f c.args c.h c.v c.h':=by
  cases o
  case call c0 =>
    simp only [actCond]at k ⊢
    cases hcc:c0.callee with
    | value f =>
      rw [hcc]at k
      simp only at k ⊢
      cases hf:ρ f with
      | func fn fs cs =>
        rw [hf]at k
        cases fn with
        | func g =>
          simp only at k ⊢
          intro c hc
          simp only [List.mem_singleton]at hc
          subst hc;exact k.does
        | _=>exact k.elim
      | _=>rw [hf]at k;exact k.elim
    | invoke r m=>rw [hcc]at k;exact k.elim
    | builtin b=>intro c hc;simp at hc
  all_goals (intro c hc;simp [actCond]at hc)
theorem valCond_does {nid:Nat}{ρ:Operand→AVal}{h:AHeap}{o:Op}{v:AVal}(k:(valCond P E nid ρ h o v).1): ∀ c∈(valCond P E nid ρ h o v).2,FDoes P E.cond c.f c.args c.h c.v c.h':=by
  cases o
  case load t x=>intro c hc;simp [valCond]at hc
  case indexAddr t x i=>intro c hc;simp [valCond]at hc
  case index t x i=>intro c hc;simp [valCond]at hc
  case slice t x lo hi mx=>intro c hc;simp [valCond]at hc
  case binOp op t x y z=>intro c hc;simp [valCond]at hc
  all_goals exact actCond_does P E k
def All(l:List Prop):Prop:= ∀ p∈l,p
theorem All.head {p:Prop}{l:List Prop}(h:All (p::l)):p:=h p (by simp)
theorem All.tail {p:Prop}{l:List Prop}(h:All (p::l)):All l:=fun q hq=>h q (by simp [hq])
theorem All.left {a b:List Prop}(h:All (a++b)):All a:=fun p hp=>h p (by simp [hp])
theorem All.right {a b:List Prop}(h:All (a++b)):All b:=fun p hp=>h p (by simp [hp])
def drawCond(ops:Array Oper)(n0 i:Nat)(ρ:Operand→AVal)(h:AHeap)(o:Op)(h':AHeap):List Prop :=
  match cls o with
  | .load=>match loadId ρ o with | some b=>cond (loadSolo ops i || (Nat.blt b n0 || (Nat.blt b (n0+ops.size) && (ordered (aheads ops) (b-n0) i && !looseStore ops (aheads ops) i)))) [] [False] | none=> [False]
  | .store=>match storeId ρ o with | some b=>cond (looseCall ops (aheads ops) i && Nat.blt b n0) [False] [] | none=> [False]
  | .call=>cond (looseCall ops (aheads ops) i) [sameOld (n0+ops.size) h h'=true] []
  | .app=>cond (appOk ops n0 i (appIds ρ o)) [] [False]
  | _=> []
def farL(n0 N:Nat):List Nat→List Prop
  | []=> []
  | b::r=>(b<n0∨N≤b)::farL n0 N r
def farCond(ops:Array Oper)(n0:Nat)(ρ:Operand→AVal)(o:Op):List Prop :=
  match cls o with
  | .load=>match loadId ρ o with | some b=> [b<n0] | none=> [False]
  | .app=>farL n0 (n0+ops.size) (appIds ρ o)
  | _=> [False]
theorem farL_spec {n0 N:Nat} : ∀ {l:List Nat},All (farL n0 N l)→ ∀ b∈l,b<n0∨N≤b
  | [],_,b,hb=>by cases hb
  | a::r,h,b,hb=>by
    rcases List.mem_cons.1 hb with rfl | hb
    · exact h.head
    · exact farL_spec h.tail b hb
theorem far_draw {ops:Array Oper}{n0 i:Nat}{ρ:Operand→AVal}{h h':AHeap}{o:Op}(k:All (farCond ops n0 ρ o)):All (drawCond ops n0 i ρ h o h'):=by
  unfold farCond at k
  unfold drawCond
  split at k
  · rename_i hc
    rw [hc]
    simp only
    split at k
    · rename_i b hb
      have:Nat.blt b n0=true:=Nat.blt_eq.mpr k.head
      rw [this,Bool.true_or,Bool.or_true]
      intro p hp;cases hp
    · exact k.head.elim
  · rename_i hc
    rw [hc]
    simp only
    have:appOk ops n0 i (appIds ρ o)=true:=by
      unfold appOk
      rw [List.all_eq_true]
      intro b hb
      rcases farL_spec k b hb with h | h
      · simp [h]
      · simp [h]
    rw [this]
    intro p hp;cases hp
  · exact k.head.elim
def nearL(n0 N k:Nat):List Nat→List Prop
  | []=> []
  | b::r=>(b<n0∨N≤b∨b=n0+k)::nearL n0 N k r
def nearCond(ops:Array Oper)(n0 i k:Nat)(ρ:Operand→AVal)(o:Op):List Prop :=
  match cls o with
  | .app=>cond (Nat.blt k ops.size && ordered (aheads ops) k i) (nearL n0 (n0+ops.size) k (appIds ρ o)) [False]
  | _=> [False]
theorem nearL_spec {n0 N k:Nat} : ∀ {l:List Nat},All (nearL n0 N k l)→ ∀ b∈l,b<n0∨N≤b∨b=n0+k
  | [],_,b,hb=>by cases hb
  | a::r,h,b,hb=>by
    rcases List.mem_cons.1 hb with rfl | hb
    · exact h.head
    · exact nearL_spec h.tail b hb
theorem near_draw {ops:Array Oper} {n0 i k0:Nat} {ρ:Operand→AVal} {h h':AHeap} {o:Op} (k:All (nearCond ops n0 i k0 ρ o)):All (drawCond ops n0 i ρ h o h'):=by
  unfold nearCond at k
  unfold drawCond
  split at k
  · rename_i hc
    rw [hc]
    simp only
    have:appOk ops n0 i (appIds ρ o)=true:=by
      unfold appOk
      rw [List.all_eq_true]
      intro b hb
      cases hq:(Nat.blt k0 ops.size && ordered (aheads ops) k0 i)with
      | false=>rw [hq]at k;exact k.head.elim
      | true =>
        rw [hq,cond_true]at k
        rw [Bool.and_eq_true]at hq
        have h1:k0<ops.size:=Nat.blt_eq.mp hq.1
        rcases nearL_spec k b hb with h | h | h
        · simp [h]
        · simp [h]
        · have h2:b-n0=k0:=by omega
          rw [h2,hq.2]
          have h3:b<n0+ops.size:=by omega
          simp [h3]
    rw [this]
    intro p hp;cases hp
  · exact k.head.elim
def cvCond(ops:Array Oper)(n0 i:Nat)(ρ:Operand→AVal)(o:Op):List Prop :=
  match convSrc ρ o with
  | some x=>cond ((List.range ops.size).all fun k=>(k == i) || ordered (aheads ops) k i || ordered (aheads ops) i k ||
      match ops[k]? with
      | some y=>decide (cls y.op= .pure) || decide (cls y.op= .load) || decide (cls y.op= .alloc)
      | none=>true) ((idOf x).map fun b=>b<n0) [False]
  | none=> [False]
theorem cvCond_spec {ops:Array Oper}{n0 i:Nat}{ρ:Operand→AVal}{o:Op}(k:All (cvCond ops n0 i ρ o)):readOk ops n0 i ρ o=true:=by
  unfold cvCond at k
  unfold readOk
  split at k
  · rename_i x hx
    cases hq:((List.range ops.size).all fun k=>(k == i) || ordered (aheads ops) k i || ordered (aheads ops) i k ||
      match ops[k]? with
      | some y=>decide (cls y.op= .pure) || decide (cls y.op= .load) || decide (cls y.op= .alloc)
      | none=>true)with
    | false=>rw [hq]at k;exact k.head.elim
    | true =>
      rw [hq,cond_true]at k
      rw [hx]
      simp only
      rw [Bool.and_eq_true]
      refine⟨List.all_eq_true.2 fun b hb=> ?_,rfl⟩
      have:b<n0:=k _ (List.mem_map.2 ⟨b,hb,rfl⟩)
      simp [this]
  · exact k.head.elim
abbrev PRes:=Option (AVal×AHeap×List Hint×List Prop×List CFact)
def popPlain (draw:Bool) (ops:Array Oper) (n0 i:Nat) (F:Facts) (h:AHeap) (o:Op) (hs:List Hint):PRes :=
  cond (plainOp o)
    (match aop E noCall (n0+i) (getF F) h o with
    | some (v,h')=>some (v,h',hs,cond draw (drawCond ops n0 i (getF F) h o h') [],[])
    | none=>cond (!draw || (isConv o && (soloOk ops i || readOk ops n0 i (getF F) o))) (match xop E (n0+i) (getF F) h o with | some (v,h')=>some (v,h',hs,[],[]) | none=>none) none) none
abbrev Enter:=FuncId→List AVal→AHeap→List Hint→Option (AVal×AHeap×List Hint×List Prop)
def popHint (en:Enter) (draw:Bool) (ops:Array Oper) (n0 i:Nat) (F:Facts) (h:AHeap) (o:Op) (x:Hint) (hs:List Hint):PRes :=
  match x with
  | .enter _ =>
    match o with
    | .call c =>
      match c.callee with
      | .value f =>
        match getF F f with
        | .func (.func g) fs cs =>
          match en g (fs++c.args.toList.map (getF F)++cs) h hs with
          | some (v,h',hs',cc)=>some (v,h',hs',cond draw (drawCond ops n0 i (getF F) h o h') []++cc,[⟨g,fs++c.args.toList.map (getF F)++cs,h,v,h'⟩])
          | none=>none
        | _=>none
      | _=>none
    | _=>none
  | .val _ v=>some (v,h,hs,(valCond P E (n0+i) (getF F) h o v).1::cond draw (drawCond ops n0 i (getF F) h o h) [],(valCond P E (n0+i) (getF F) h o v).2)
  | .act _ v g=>some (v,g h,hs,(actCond P E (n0+i) (getF F) h o v (g h)).1::cond draw (drawCond ops n0 i (getF F) h o (g h)) [],(actCond P E (n0+i) (getF F) h o v (g h)).2)
  | .far _ v g=>some (v,g h,hs,(actCond P E (n0+i) (getF F) h o v (g h)).1::cond draw (farCond ops n0 (getF F) o) [],(actCond P E (n0+i) (getF F) h o v (g h)).2)
  | .near _ v g k=>some (v,g h,hs,(actCond P E (n0+i) (getF F) h o v (g h)).1::cond draw (nearCond ops n0 i k (getF F) o) [],(actCond P E (n0+i) (getF F) h o v (g h)).2)
  | .farV _ v=>some (v,h,hs,(valCond P E (n0+i) (getF F) h o v).1::cond draw (farCond ops n0 (getF F) o) [],(valCond P E (n0+i) (getF F) h o v).2)
  | .go _ =>
    match goOp E (n0+i) (getF F) h o with
    | some (v,h',p)=>some (v,h',hs,p::cond draw (drawCond ops n0 i (getF F) h o h') [],[])
    | none=>none
  | .ld _ e =>
    match ldOp E (getF F) h o e with
    | some (v,p)=>some (v,h,hs,p::cond draw (drawCond ops n0 i (getF F) h o h) [],[])
    | none=>none
  | .st _ e =>
    match stOp E (getF F) h o e with
    | some (h',p)=>some (skipped,h',hs,p::cond draw (drawCond ops n0 i (getF F) h o h') [],[])
    | none=>none
  | .cv _ v g =>
    cond (isConv o && (!draw || (soloOk ops i || readOk ops n0 i (getF F) o)))
    (match aop E noCall (n0+i) (getF F) h o with
    | none=>some (v,g h,hs,[xop E (n0+i) (getF F) h o=some (v,g h)],[])
    | some _=>none) none
  | .cvF _ v g =>
    cond (isConv o)
    (match aop E noCall (n0+i) (getF F) h o with
    | none=>some (v,g h,hs,(xop E (n0+i) (getF F) h o=some (v,g h))::cond draw (cvCond ops n0 i (getF F) o) [],[])
    | some _=>none) none
  | .run _ m =>
    match o with
    | .call c =>
      match c.callee with
      | .value f =>
        match getF F f with
        | .func (.func g) fs cs =>
          match acall P E m g (fs++c.args.toList.map (getF F)++cs) h with
          | some (v,h')=>some (v,h',hs,cond draw (drawCond ops n0 i (getF F) h o h') [],[⟨g,fs++c.args.toList.map (getF F)++cs,h,v,h'⟩])
          | none=>none
        | _=>none
      | _=>none
    | _=>none
  | .runF _ m =>
    match o with
    | .call c =>
      match c.callee with
      | .value f =>
        match getF F f with
        | .func (.func g) fs cs =>
          match fcall P E m g (fs++c.args.toList.map (getF F)++cs) h with
          | some (v,h')=>some (v,h',hs,cond draw (drawCond ops n0 i (getF F) h o h') [],[⟨g,fs++c.args.toList.map (getF F)++cs,h,v,h'⟩])
          | none=>none
        | _=>none
      | _=>none
    | _=>none
  | _=>none
def Hint.at:Hint→Option Nat
  | .val i _=>some i
  | .act i _ _=>some i
  | .far i _ _=>some i
  | .farV i _=>some i
  | .near i _ _ _=>some i
  | .go i=>some i
  | .ld i _=>some i
  | .st i _=>some i
  | .cv i _ _=>some i
  | .cvF i _ _=>some i
  | .run i _=>some i
  | .runF i _=>some i
  | .enter i=>some i
  | _=>none
def pop (en:Enter) (q:Nat) (ops:Array Oper) (draw:Bool) (n0 i:Nat) (F:Facts) (h:AHeap) (o:Op) (hs:List Hint):PRes :=
  match hs with
  | x::r =>
    match x.at with
    | some j=>cond (Nat.beq (1000*q+i) j) (popHint P E en draw ops n0 i F h o x r) (popPlain E draw ops n0 i F h o hs)
    | none=>popPlain E draw ops n0 i F h o hs
  | []=>popPlain E draw ops n0 i F h o hs
def runOp(call:ACall)(ops:Array Oper)(draw:Bool)(n0 i:Nat)(ρ:Operand→AVal)(h:AHeap)(o:Op):Option (AVal×AHeap) :=
  if draw then dop E call ops n0 i ρ h o else aopX E call (n0+i) ρ h o
theorem xop_congr {nid:Nat}{ρ ρ':Operand→AVal}{h:AHeap}{o:Op}(hρ: ∀ x∈o.operands.toList,ρ x=ρ' x):xop E nid ρ h o=xop E nid ρ' h o:=by
  cases o
  case call c =>
    simp only [Op.operands,Call.operands,Array.toList_append,List.mem_append]at hρ
    simp only [xop]
    have ha:=map_congr_ops (xs:=c.args) (fun x hx=>hρ x (.inr hx))
    cases hcal:c.callee with
    | value f =>
      rw [hcal]at hρ
      simp only [ha,hρ f (.inl (by simp))]
    | invoke r m=>rfl
    | builtin b=>rfl
  case convert s d x =>
    simp only [Op.operands]at hρ
    simp only [xop]
    rw [hρ x (by simp)]
  all_goals rfl
theorem conv_cls {o:Op}(h:isConv o=true):cls o= .pure:=by
  cases o<;>simp only [isConv,Bool.false_eq_true]at h<;>rfl
theorem runOp_ofX {call:ACall}{ops:Array Oper}{draw:Bool}{n0 i:Nat}{ρ:Operand→AVal}{h h':AHeap}{o:Op}{v:AVal}(ha:aop E call (n0+i) ρ h o=none)(hx:xop E (n0+i) ρ h o=some (v,h'))
    (hd:draw=true→isConv o=true∧(soloOk ops i=true∨readOk ops n0 i ρ o=true)):runOp E call ops draw n0 i ρ h o=some (v,h'):=by
  unfold runOp
  cases draw with
  | false=>simp only [Bool.false_eq_true,if_false,aopX,ha,hx]
  | true =>
    obtain⟨h1,h2⟩:=hd rfl
    simp only [if_true]
    unfold dop
    simp only [conv_cls h1,ha,h1,h2,and_self,if_true,hx]
theorem runOp_of {call:ACall} {ops:Array Oper} {draw:Bool} {n0 i:Nat} {ρ:Operand→AVal} {h h':AHeap} {o:Op} {v:AVal} (ha:aop E call (n0+i) ρ h o=some (v,h')) (hd:All (cond draw (drawCond ops n0 i ρ h o h') [])) :
    runOp E call ops draw n0 i ρ h o=some (v,h'):=by
  unfold runOp
  cases draw with
  | false=>simp only [Bool.false_eq_true,if_false,aopX,ha]
  | true =>
    have hd:All (drawCond ops n0 i ρ h o h'):=hd
    simp only [if_true]
    unfold dop
    unfold drawCond at hd
    cases hcl:cls o<;>simp only [hcl]at hd ⊢ <;>try exact ha
    · rw [ha]
    · split
      · rename_i b hb
        rw [hb]at hd
        simp only at hd
        cases hq:(loadSolo ops i || (Nat.blt b n0 || (Nat.blt b (n0+ops.size) && (ordered (aheads ops) (b-n0) i && !looseStore ops (aheads ops) i))))with
        | false=>rw [hq]at hd;exact hd.head.elim
        | true =>
          simp only [Bool.or_eq_true,Bool.and_eq_true,Bool.not_eq_true']at hq
          rw [if_pos]
          · exact ha
          · rcases hq with hq | hq | ⟨hq,hq',hq''⟩
            · exact .inl hq
            · exact .inr (.inl (Nat.blt_eq.mp hq))
            · exact .inr (.inr ⟨Nat.blt_eq.mp hq,hq',hq''⟩)
      · rename_i hb;rw [hb]at hd;exact hd.head.elim
    · split
      · rename_i b hb
        rw [hb]at hd
        simp only at hd
        cases hq:(looseCall ops (aheads ops) i && Nat.blt b n0)with
        | true=>rw [hq]at hd;exact hd.head.elim
        | false =>
          rw [if_neg]
          · exact ha
          · rintro ⟨h1,h2⟩
            rw [h1,Nat.blt_eq.mpr h2]at hq;cases hq
      · rename_i hb;rw [hb]at hd;exact hd.head.elim
    · simp only [ha]
      cases hl:looseCall ops (aheads ops) i with
      | false=>simp
      | true =>
        rw [hl,cond_true]at hd
        simp only [if_true]
        rw [if_pos hd.head]
    · cases hq:appOk ops n0 i (appIds ρ o)with
      | true=>simp [ha]
      | false=>rw [hq]at hd;exact hd.head.elim
theorem popPlain_spec {ops:Array Oper} {draw:Bool} {n0 i:Nat} {F:Facts} {h h':AHeap} {o:Op} {hs hs':List Hint} {v:AVal} {cs:List Prop} {ks:List CFact} (hp:popPlain E draw ops n0 i F h o hs=some (v,h',hs',cs,ks)) (hc:All cs) (call:ACall) :
    runOp E call ops draw n0 i (getF F) h o=some (v,h'):=by
  unfold popPlain at hp
  cases hb:plainOp o
  · rw [hb]at hp;cases hp
  · rw [hb,cond_true]at hp
    split at hp
    · rename_i v1 h1 ha
      simp only [Option.some.injEq,Prod.mk.injEq]at hp
      obtain⟨rfl,rfl,_,rfl,_⟩:=hp
      exact runOp_of E ((aop_noCall E hb call).symm.trans ha) hc
    · rename_i ha
      cases hq:(!draw || (isConv o && (soloOk ops i || readOk ops n0 i (getF F) o)))with
      | false=>rw [hq]at hp;cases hp
      | true =>
        rw [hq,cond_true]at hp
        split at hp
        · rename_i v1 h1 hx
          simp only [Option.some.injEq,Prod.mk.injEq]at hp
          obtain⟨rfl,rfl,_,rfl,_⟩:=hp
          refine runOp_ofX E ((aop_noCall E hb call).symm.trans ha) hx fun hdr=> ?_
          rw [hdr]at hq;simpa using hq
        · cases hp
theorem popHint_spec {en:Enter} {ops:Array Oper} {draw:Bool} {n0 i:Nat} {F:Facts} {h h':AHeap} {o:Op} {x:Hint} {hs hs':List Hint} {v:AVal} {cs:List Prop} {ks:List CFact} (hp:popHint P E en draw ops n0 i F h o x hs=some (v,h',hs',cs,ks)) (hc:All cs) {call:ACall}
    (hk: ∀ c∈ks,c.holds call):runOp E call ops draw n0 i (getF F) h o=some (v,h'):=by
  unfold popHint at hp
  split at hp
  · split at hp
    · rename_i c
      split at hp
      · rename_i f hf
        split at hp
        · rename_i g fs cs' hg
          split at hp
          · rename_i v1 h1 hs1 cc hcall
            simp only [Option.some.injEq,Prod.mk.injEq]at hp
            obtain⟨rfl,rfl,_,rfl,rfl⟩:=hp
            refine runOp_of E ?_ hc.left
            simp only [aop,hf,hg,acallVal]
            exact hk _ (List.mem_singleton.2 rfl)
          · cases hp
        · cases hp
      · cases hp
    · cases hp
  · simp only [Option.some.injEq,Prod.mk.injEq]at hp
    obtain⟨rfl,rfl,_,rfl,rfl⟩:=hp
    exact runOp_of E (valCond_spec P E hc.head hk) hc.tail
  · simp only [Option.some.injEq,Prod.mk.injEq]at hp
    obtain⟨rfl,rfl,_,rfl,rfl⟩:=hp
    exact runOp_of E (actCond_spec P E hc.head hk) hc.tail
  · simp only [Option.some.injEq,Prod.mk.injEq]at hp
    obtain⟨rfl,rfl,_,rfl,rfl⟩:=hp
    refine runOp_of E (actCond_spec P E hc.head hk) ?_
    have ht:=hc.tail
    cases draw with
    | false=>intro p hp;cases hp
    | true=>exact far_draw ht
  · simp only [Option.some.injEq,Prod.mk.injEq]at hp
    obtain⟨rfl,rfl,_,rfl,rfl⟩:=hp
    refine runOp_of E (actCond_spec P E hc.head hk) ?_
    have ht:=hc.tail
    cases draw with
    | false=>intro p hp;cases hp
    | true=>exact near_draw ht
  · simp only [Option.some.injEq,Prod.mk.injEq]at hp
    obtain⟨rfl,rfl,_,rfl,rfl⟩:=hp
    refine runOp_of E (valCond_spec P E hc.head hk) ?_
    have ht:=hc.tail
    cases draw with
    | false=>intro p hp;cases hp
    | true=>exact far_draw ht
  · split at hp
    · rename_i v1 h1 p hg
      simp only [Option.some.injEq,Prod.mk.injEq]at hp
      obtain⟨rfl,rfl,_,rfl,_⟩:=hp
      exact runOp_of E (goOp_spec E hg hc.head call) hc.tail
    · cases hp
  · split at hp
    · rename_i v1 p hg
      simp only [Option.some.injEq,Prod.mk.injEq]at hp
      obtain⟨rfl,rfl,_,rfl,_⟩:=hp
      exact runOp_of E (ldOp_spec E hg hc.head call) hc.tail
    · cases hp
  · split at hp
    · rename_i h1 p hg
      simp only [Option.some.injEq,Prod.mk.injEq]at hp
      obtain⟨rfl,rfl,_,rfl,_⟩:=hp
      exact runOp_of E (stOp_spec E hg hc.head call) hc.tail
    · cases hp
  · cases hq:(isConv o && (!draw || (soloOk ops i || readOk ops n0 i (getF F) o)))with
    | false=>rw [hq]at hp;cases hp
    | true =>
      rw [hq,cond_true]at hp
      simp only [Bool.and_eq_true]at hq
      split at hp
      · rename_i ha
        simp only [Option.some.injEq,Prod.mk.injEq]at hp
        obtain⟨rfl,rfl,_,rfl,_⟩:=hp
        have hpl:plainOp o=true:=by
          cases o<;>first | rfl | (simp [isConv]at hq)
        refine runOp_ofX E ((aop_noCall E hpl call).symm.trans ha) hc.head fun hdr=>⟨hq.1,?_⟩
        have:=hq.2;rw [hdr]at this;simpa using this
      · cases hp
  · cases hq:isConv o with
    | false=>rw [hq]at hp;cases hp
    | true =>
      rw [hq,cond_true]at hp
      split at hp
      · rename_i ha
        simp only [Option.some.injEq,Prod.mk.injEq]at hp
        obtain⟨rfl,rfl,_,rfl,_⟩:=hp
        have hpl:plainOp o=true:=by
          cases o<;>first | rfl | (simp [isConv]at hq)
        refine runOp_ofX E ((aop_noCall E hpl call).symm.trans ha) hc.head fun hdr=>⟨hq,.inr ?_⟩
        have ht:=hc.tail
        rw [hdr]at ht
        exact cvCond_spec ht
      · cases hp
  · split at hp
    · rename_i c
      split at hp
      · rename_i f hf
        split at hp
        · rename_i g fs cs' hg
          split at hp
          · rename_i v1 h1 hcall
            simp only [Option.some.injEq,Prod.mk.injEq]at hp
            obtain⟨rfl,rfl,_,rfl,rfl⟩:=hp
            refine runOp_of E ?_ hc
            simp only [aop,hf,hg,acallVal]
            exact hk _ (List.mem_singleton.2 rfl)
          · cases hp
        · cases hp
      · cases hp
    · cases hp
  · split at hp
    · rename_i c
      split at hp
      · rename_i f hf
        split at hp
        · rename_i g fs cs' hg
          split at hp
          · rename_i v1 h1 hcall
            simp only [Option.some.injEq,Prod.mk.injEq]at hp
            obtain⟨rfl,rfl,_,rfl,rfl⟩:=hp
            refine runOp_of E ?_ hc
            simp only [aop,hf,hg,acallVal]
            exact hk _ (List.mem_singleton.2 rfl)
          · cases hp
        · cases hp
      · cases hp
    · cases hp
  · cases hp
theorem pop_spec {en:Enter}{q:Nat}{ops:Array Oper}{draw:Bool}{n0 i:Nat}{F:Facts}{h h':AHeap}{o:Op}{hs hs':List Hint}{v:AVal}{cs:List Prop}{ks:List CFact}(hp:pop P E en q ops draw n0 i F h o hs=some (v,h',hs',cs,ks))(hc:All cs){call:ACall}
    (hk: ∀ c∈ks,c.holds call):runOp E call ops draw n0 i (getF F) h o=some (v,h'):=by
  unfold pop at hp
  split at hp
  · split at hp
    · rename_i j hj
      cases hb:Nat.beq (1000*q+i) j
      · rw [hb,cond_false]at hp;exact popPlain_spec E hp hc call
      · rw [hb,cond_true]at hp;exact popHint_spec P E hp hc hk
    · exact popPlain_spec E hp hc call
  · exact popPlain_spec E hp hc call
def EnterOk(en:Enter):Prop:= ∀ f args h hs v h' hs' cs,en f args h hs=some (v,h',hs',cs)→All cs→FDoes P E.cond f args h v h'
theorem pop_does (hE:EnvOk P E) (hmix:P.follows .mixedOrders=true) {en:Enter} (hen:EnterOk P E en) {q:Nat} {ops:Array Oper} {draw:Bool} {n0 i:Nat} {F:Facts} {h h':AHeap} {o:Op} {hs hs':List Hint} {v:AVal} {cs:List Prop} {ks:List CFact} (hp:pop P E en q ops draw n0 i F h o hs=some (v,h',hs',cs,ks)) (hc:All cs) :
    ∀ c∈ks,FDoes P E.cond c.f c.args c.h c.v c.h':=by
  have plain: ∀ {hs0:List Hint},popPlain E draw ops n0 i F h o hs0=some (v,h',hs',cs,ks)→ ∀ c∈ks,FDoes P E.cond c.f c.args c.h c.v c.h':=by
    intro hs0 hp
    unfold popPlain at hp
    cases hb:plainOp o
    · rw [hb]at hp;cases hp
    · rw [hb,cond_true]at hp
      split at hp
      · simp only [Option.some.injEq,Prod.mk.injEq]at hp
        obtain⟨_,_,_,_,rfl⟩:=hp
        intro c hc;simp at hc
      · cases hq:(!draw || (isConv o && (soloOk ops i || readOk ops n0 i (getF F) o)))with
        | false=>rw [hq]at hp;cases hp
        | true =>
          rw [hq,cond_true]at hp
          split at hp
          · simp only [Option.some.injEq,Prod.mk.injEq]at hp
            obtain⟨_,_,_,_,rfl⟩:=hp
            intro c hc;simp at hc
          · cases hp
  unfold pop at hp
  split at hp
  · split at hp
    · rename_i j hj
      cases hb:Nat.beq (1000*q+i) j
      · rw [hb,cond_false]at hp;exact plain hp
      · rw [hb, cond_true]at hp
        unfold popHint at hp
        split at hp
        · split at hp
          · split at hp
            · split at hp
              · split at hp
                · rename_i hcall
                  simp only [Option.some.injEq,Prod.mk.injEq]at hp
                  obtain⟨_,_,_,rfl,rfl⟩:=hp
                  intro c hm
                  simp only [List.mem_singleton]at hm
                  subst hm
                  exact hen _ _ _ _ _ _ _ _ hcall hc.right
                · cases hp
              · cases hp
            · cases hp
          · cases hp
        · simp only [Option.some.injEq,Prod.mk.injEq]at hp
          obtain⟨rfl,rfl,_,rfl,rfl⟩:=hp
          exact valCond_does P E hc.head
        · simp only [Option.some.injEq,Prod.mk.injEq]at hp
          obtain⟨rfl,rfl,_,rfl,rfl⟩:=hp
          exact actCond_does P E hc.head
        · simp only [Option.some.injEq,Prod.mk.injEq]at hp
          obtain⟨rfl,rfl,_,rfl,rfl⟩:=hp
          exact actCond_does P E hc.head
        · simp only [Option.some.injEq,Prod.mk.injEq]at hp
          obtain⟨rfl,rfl,_,rfl,rfl⟩:=hp
          exact actCond_does P E hc.head
        · simp only [Option.some.injEq,Prod.mk.injEq]at hp
          obtain⟨rfl,rfl,_,rfl,rfl⟩:=hp
          exact valCond_does P E hc.head
        all_goals first
          | (split at hp
             · simp only [Option.some.injEq,Prod.mk.injEq]at hp
               obtain⟨_,_,_,_,rfl⟩:=hp
               intro c hc;simp at hc
             · cases hp
             done)
          | (cases hp;done)
          | skip
        · cases hq:(isConv o && (!draw || (soloOk ops i || readOk ops n0 i (getF F) o)))with
          | false=>rw [hq]at hp;cases hp
          | true =>
            rw [hq,cond_true]at hp
            split at hp
            · simp only [Option.some.injEq,Prod.mk.injEq]at hp
              obtain⟨_,_,_,_,rfl⟩:=hp
              intro c hc;simp at hc
            · cases hp
        · cases hq:isConv o with
          | false=>rw [hq]at hp;cases hp
          | true =>
            rw [hq,cond_true]at hp
            split at hp
            · simp only [Option.some.injEq,Prod.mk.injEq]at hp
              obtain⟨_,_,_,_,rfl⟩:=hp
              intro c hc;simp at hc
            · cases hp
        · split at hp
          · split at hp
            · split at hp
              · split at hp
                · rename_i hcall
                  simp only [Option.some.injEq,Prod.mk.injEq]at hp
                  obtain⟨_,_,_,_,rfl⟩:=hp
                  intro c hc
                  simp only [List.mem_singleton]at hc
                  subst hc
                  exact FDoes.of_acall hE hmix hcall
                · cases hp
              · cases hp
            · cases hp
          · cases hp
        · split at hp
          · split at hp
            · split at hp
              · split at hp
                · rename_i hcall
                  simp only [Option.some.injEq,Prod.mk.injEq]at hp
                  obtain⟨_,_,_,_,rfl⟩:=hp
                  intro c hc
                  simp only [List.mem_singleton]at hc
                  subst hc
                  rw [fcall_eq]at hcall
                  exact FDoes.of_acall hE hmix hcall
                · cases hp
              · cases hp
            · cases hp
          · cases hp
    · exact plain hp
  · exact plain hp
def ltDst(n:Nat)(o:Oper):Bool :=
  match o.dst with
  | some d=>Nat.blt d n
  | none=>true
def runL(E:AEnv)(call:ACall)(ops:Array Oper)(draw:Bool)(n0:Nat)(l:List Nat)(s:ASt):Option ASt :=
  if draw then drun E call ops n0 l s else arun E call ops n0 l s
theorem runL_cons_true {call:ACall}{ops:Array Oper}{draw:Bool}{n0 i:Nat}{l:List Nat}{s:List AVal}{h h':AHeap}{o:Oper}{v:AVal}(ho:ops[i]? =some o)(hw:awanted ops s o=some true)
    (ha:runOp E call ops draw n0 i (agetOp s) h o.op=some (v,h')):runL E call ops draw n0 (i::l) ⟨s,h⟩=runL E call ops draw n0 l ⟨aput s o.dst v,h'⟩:=by
  unfold runL runOp at *
  cases draw with
  | false=>simp only [Bool.false_eq_true,if_false]at ha ⊢; simp only [arun,astep,ho,hw,ha]
  | true=>simp only [if_true]at ha ⊢; simp only [drun,dstep,ho,hw,ha]
theorem runL_cons_false {call:ACall}{ops:Array Oper}{draw:Bool}{n0 i:Nat}{l:List Nat}{s:List AVal}{h:AHeap}{o:Oper}(ho:ops[i]? =some o)(hw:awanted ops s o=some false) :
    runL E call ops draw n0 (i::l) ⟨s,h⟩=runL E call ops draw n0 l ⟨aput s o.dst skipped,h⟩:=by
  unfold runL
  cases draw with
  | false=>simp only [Bool.false_eq_true,if_false,arun,astep,ho,hw]
  | true=>simp only [if_true,drun,dstep,ho,hw]
theorem length_aput(s:List AVal)(d:Option Tmp)(v:AVal):(aput s d v).length=s.length:=by cases d<;>simp [aput]
structure Agree(a b:List AVal)(h k:AHeap)(v u:AVal)(h' k':AHeap):Prop where
  agree:a=b→h=k→v=u∧h'=k'
def clash(a b:CFact):List Prop:=cond (Nat.beq a.f b.f) [Agree a.args b.args a.h b.h a.v b.v a.h' b.h'] []
def clashes:List CFact→List Prop
  | []=> []
  | a::r=>r.flatMap (clash a)++clashes r
open Classical in
def callK:List CFact→ACall
  | [],_,_,_=>none
  | k::r,f,args,h=>if k.f=f∧k.args=args∧k.h=h then some (k.v,k.h')else callK r f args h
theorem callK_mem: ∀ {ks:List CFact} {f:FuncId} {args:List AVal} {h:AHeap} {v:AVal} {h':AHeap},callK ks f args h=some (v,h')→ ∃ k∈ks,k.f=f∧k.args=args∧k.h=h∧k.v=v∧k.h'=h'
  | [],f,args,h,v,h',hc=>by cases hc
  | k ::r,f,args,h,v,h',hc=>by
    simp only [callK]at hc
    split at hc
    · rename_i e
      simp only [Option.some.injEq,Prod.mk.injEq]at hc
      exact⟨k,by simp,e.1,e.2.1,e.2.2,hc.1,hc.2⟩
    · obtain⟨k',hm,q⟩:=callK_mem hc
      exact⟨k',by simp [hm],q⟩
theorem callK_holds: ∀ {ks:List CFact},All (clashes ks)→ ∀ c∈ks,c.holds (callK ks)
  | [],_,c,hc=>by simp at hc
  | k ::r,hu,c,hc=>by
    simp only [clashes]at hu
    unfold CFact.holds
    simp only [callK]
    split
    · rename_i e
      rcases List.mem_cons.1 hc with rfl | hm
      · rfl
      · have:=hu.left
        have hq:k.v=c.v∧k.h'=c.h':=by
          have h1:Agree k.args c.args k.h c.h k.v c.v k.h' c.h':=this _ (List.mem_flatMap.2 ⟨c,hm,by unfold clash;rw [beq_true e.1];simp⟩)
          exact h1.agree e.2.1 e.2.2
        rw [hq.1,hq.2]
    · rename_i e
      rcases List.mem_cons.1 hc with rfl | hm
      · exact absurd ⟨rfl,rfl,rfl⟩ e
      · exact callK_holds hu.right c hm
theorem callK_ok {ks:List CFact}(hk: ∀ c∈ks,FDoes P E.cond c.f c.args c.h c.v c.h'){N0:Nat→Prop}{w0:World}(hN:Low N0 w0.heap.size)(hC:E.cond N0 w0):CallOk P N0 w0 (callK ks):=by
  intro f args h v h' hc φ w args' hH hB hA
  obtain⟨k,hm,rfl,rfl,rfl,rfl,rfl⟩:=callK_mem hc
  exact hk k hm N0 w0 hN hC φ w args' hH hB hA
def factsFrom:Nat→List AVal→Facts
  | _,[]=> []
  | i,v::r=>(i,v)::factsFrom (i+1) r
def presults (D:Tys) (F:Facts) (h:AHeap):List ResultVar→List Hint→Option (List AVal×List Prop)
  | [],[]=>some ([],[])
  | [],_=>none
  | .tmp t::r,hs=>match lookF F t,presults D F h r hs with | some v,some (l,cs)=>some (v::l,cs) | _,_=>none
  | .cell a t::r,.cell v::hs=>match lookF F a,presults D F h r hs with | some (.ptr (some p)),some (l,cs)=>some (v::l,(aload D t p h=some v)::cs) | _,_=>none
  | .cell a t::r,hs =>
    match lookF F a with
    | some (.ptr (some p)) =>
      match aload D t p h with
      | some v=>match presults D F h r hs with | some (l,cs)=>some (v::l,cs) | none=>none
      | none=>none
    | _=>none
end
end
end Go.Lift
namespace Go.Lift
noncomputable section
open Go.RowKit
section
variable {P:Program}{E:AEnv}
def FRel(φ:Map)(S:Nat→Prop)(w0:World)(n:Nat)(F:Facts)(h:AHeap)(a:Act)(w:World):Prop:= ∃ s:List AVal,s.length=n∧Has F s∧SRel φ S w0 ⟨s,h⟩ a w
def Tri (P:Program) (C:(Nat→Prop)→World→Prop) (base n:Nat) (goal:(Exit→Act→World→Prop)→Act→World→Prop) (F:Facts) (h:AHeap) (e:AExit) (F':Facts) (h':AHeap):Prop :=
  ∀ (S:Nat→Prop) (w0:World),Low S w0.heap.size→C S w0→ ∀ (φ0 φ:Map) (a:Act) (w:World),(∀ i v p,φ0 i v=some p→i<base)→Keep φ0 φ base→FRel φ S w0 n F h a w →
    ∀ Q:Exit→Act→World→Prop,(∀ φ' a' w',Keep φ0 φ' base→FRel φ' S w0 n F' h' a' w'→Q (toExit e) a' w')→goal Q a w
def Runs(P:Program)(C:(Nat→Prop)→World→Prop)(base n:Nat)(c:Code)(F:Facts)(h:AHeap)(e:AExit)(F':Facts)(h':AHeap):Prop:=Tri P C base n (fun Q a w=>c.wp P Q a w) F h e F' h'
def Loops(P:Program)(C:(Nat→Prop)→World→Prop)(base n:Nat)(c:Code)(F:Facts)(h:AHeap)(e:AExit)(F':Facts)(h':AHeap):Prop:=Tri P C base n (fun Q a w=>LoopW P c Q a w) F h e F' h'
def goalOf(P:Program)(body:Option Code)(c:Code):(Exit→Act→World→Prop)→Act→World→Prop :=
  match body with
  | none=>fun Q a w=>c.wp P Q a w
  | some b=>fun Q a w=>ScopeW P b c Q a w
theorem Runs.of_loops {C:(Nat→Prop)→World→Prop}{base n:Nat}{c:Code}{F F':Facts}{h h':AHeap}{e:AExit}(k:Loops P C base n c F h e F' h'):Runs P C base n (.loop c) F h e F' h' :=
  fun S w0 hS hC φ0 φ a w h0 hk r Q hQ=>wp_of_loopW (k S w0 hS hC φ0 φ a w h0 hk r Q hQ)
theorem Loops.step {C:(Nat→Prop)→World→Prop}{base n:Nat}{c:Code}{F F1 F2:Facts}{h h1 h2:AHeap}{e:AExit}(k1:Runs P C base n c F h .normal F1 h1)(k2:Loops P C base n c F1 h1 e F2 h2):Loops P C base n c F h e F2 h2 :=
  fun S w0 hS hC φ0 φ a w h0 hk r Q hQ=>loopW_round (k1 S w0 hS hC φ0 φ a w h0 hk r _ fun φ' a' w' hk' r'=>k2 S w0 hS hC φ0 φ' a' w' h0 hk' r' Q hQ)
theorem Loops.last {C:(Nat→Prop)→World→Prop}{base n:Nat}{c:Code}{F F1:Facts}{h h1:AHeap}{e:AExit}(he:e≠ .normal)(k1:Runs P C base n c F h e F1 h1):Loops P C base n c F h e F1 h1 :=
  fun S w0 hS hC φ0 φ a w h0 hk r Q hQ=>loopW_round (k1 S w0 hS hC φ0 φ a w h0 hk r _ fun φ' a' w' hk' r'=>by
    have:=hQ φ' a' w' hk' r'
    cases e with
    | normal=>exact absurd rfl he
    | _=>exact this)
def Ent(base n:Nat)(F:Facts)(h:AHeap)(F1:Facts)(h1:AHeap):Prop :=
  ∀ (S:Nat→Prop) (w0:World) (φ0 φ:Map) (a:Act) (w:World),(∀ i v p,φ0 i v=some p→i<base)→Keep φ0 φ base→FRel φ S w0 n F h a w→ ∃ φ1,Keep φ0 φ1 base∧FRel φ1 S w0 n F1 h1 a w
theorem Tri.pre {C:(Nat→Prop)→World→Prop}{base n:Nat}{goal:(Exit→Act→World→Prop)→Act→World→Prop}{F G F':Facts}{h g h':AHeap}{e:AExit}(k:Tri P C base n goal F h e F' h')(i:Ent base n G g F h):Tri P C base n goal G g e F' h' :=
  fun S w0 hS hC φ0 φ a w h0 hk r Q hQ=>by
    obtain⟨φ1,hk1,r1⟩:=i S w0 φ0 φ a w h0 hk r
    exact k S w0 hS hC φ0 φ1 a w h0 hk1 r1 Q hQ
theorem Tri.post {C:(Nat→Prop)→World→Prop}{base n:Nat}{goal:(Exit→Act→World→Prop)→Act→World→Prop}{F F' G':Facts}{h h' g':AHeap}{e:AExit}(k:Tri P C base n goal F h e F' h')(i:Ent base n F' h' G' g'):Tri P C base n goal F h e G' g' :=
  fun S w0 hS hC φ0 φ a w h0 hk r Q hQ=>k S w0 hS hC φ0 φ a w h0 hk r Q fun φ' a' w' hk' r'=>by
    obtain⟨φ1,hk1,r1⟩:=i S w0 φ0 φ' a' w' h0 hk' r'
    exact hQ φ1 a' w' hk1 r1
def Facts.le(G F:Facts):Prop:= ∀ t v,lookF G t=some v→lookF F t=some v
theorem Facts.only_le(F:Facts)(l:List Nat):Facts.le (onlyF F l) F:=fun _ _ h=>lookF_only h
theorem Ent.facts {base n:Nat}{F G:Facts}{h:AHeap}(k:Facts.le G F):Ent base n F h G h :=
  fun S w0 φ0 φ a w h0 hk ⟨s,hn,hF,r⟩=>⟨φ,hk,s,hn,fun t v hv=>hF t v (k t v hv),r⟩
theorem lookF_from: ∀ (l:List AVal) (i t:Nat) (v:AVal),lookF (factsFrom i l) t=some v→i≤t∧l[t-i]? =some v
  | [],i,t,v,h=>by cases h
  | a ::r,i,t,v,h=>by
    simp only [factsFrom,lookF_cons]at h
    split at h
    · rename_i e;subst e;exact⟨Nat.le_refl _,by simpa using h⟩
    · rename_i e
      obtain⟨h1,h2⟩:=lookF_from r (i+1) t v h
      refine⟨by omega,?_⟩
      rw [show t-i=(t- (i+1))+1 by omega,List.getElem?_cons_succ];exact h2
theorem presults_spec {D:Tys} {F:Facts} {h:AHeap} {s:List AVal} (hF:Has F s): ∀ {rs:List ResultVar} {hs:List Hint} {l:List AVal} {cs:List Prop},presults D F h rs hs=some (l,cs)→All cs→aresults D rs ⟨s,h⟩=some l
  | [],hs,l,cs,hp,hc=>by
    cases hs with
    | nil=>simp only [presults,Option.some.injEq,Prod.mk.injEq]at hp;obtain⟨rfl,_⟩:=hp;rfl
    | cons a r=>simp [presults]at hp
  | .tmp t::r,hs,l,cs,hp,hc=>by
    simp only [presults]at hp
    split at hp
    · rename_i v l' cs' hv hx
      simp only [Option.some.injEq,Prod.mk.injEq]at hp
      obtain⟨rfl,rfl⟩:=hp
      simp only [aresults,presults_spec hF hx hc,List.getD_eq_getElem?_getD,hF t v hv];rfl
    · cases hp
  | .cell a t::r,hs,l,cs,hp,hc=>by
    have go : ∀ {hs:List Hint} {l:List AVal} {cs:List Prop},(match lookF F a with
        | some (.ptr (some p)) =>
          match aload D t p h with
          | some v=>match presults D F h r hs with | some (l,cs)=>some (v::l,cs) | none=>none
          | none=>none
        | _=>none)=some (l,cs)→All cs→aresults D (.cell a t::r) ⟨s,h⟩=some l:=by
      intro hs l cs hp hc
      split at hp
      · rename_i p hv
        split at hp
        · rename_i v hl
          split at hp
          · rename_i l' cs' hx
            simp only [Option.some.injEq,Prod.mk.injEq]at hp
            obtain⟨rfl,rfl⟩:=hp
            simp only [aresults,presults_spec hF hx hc,List.getD_eq_getElem?_getD,hF a _ hv,Option.getD_some,hl]
          · cases hp
        · cases hp
      · cases hp
    cases hs with
    | nil=>exact go (hs:= []) hp hc
    | cons q hs =>
      cases q with
      | cell v =>
        simp only [presults]at hp
        split at hp
        · rename_i p l' cs' hv hx
          simp only [Option.some.injEq,Prod.mk.injEq]at hp
          obtain⟨rfl,rfl⟩:=hp
          have hrest:All cs':=fun p hp=>hc p (by simp [hp])
          simp only [aresults,presults_spec hF hx hrest,List.getD_eq_getElem?_getD,hF a _ hv,Option.getD_some,hc.head]
        · cases hp
      | _=>exact go (hs:=_::hs) hp hc
theorem FDoes.of_runs(hE:EnvOk P E){f:FuncId}{fn:Func}{c:Code}(hf:P.funcs[f]? =some fn)(hb:fn.body=some c){args:List AVal}{h h':AHeap}{e:AExit}(he:e= .normal∨e= .ret){F':Facts}{rs:List Hint}{l:List AVal}{cs:List Prop}
    (hr:Runs P E.cond h.next (args.length+(fn.ntmps-args.length)) c (factsFrom 0 args) h e F' h') (hp:presults E.D F' h' fn.results.toList rs=some (l,cs)) (hc:All cs) (hn:h.next≤h'.next):FDoes P E.cond f args h (aresult l) h':=by
  intro S w0 hS hC0 φ w args' hH hsafe hA
  refine⟨⟨fn,c,hf,hb⟩,calls_of_wp hf hb ?_⟩
  have hlen:args'.size=args.length:=by have:=hA.length;rwa [Array.length_toList]at this
  have hF:Has (factsFrom 0 args) (args++List.replicate (fn.ntmps-args.length) skipped):=by
    intro t u hu
    obtain⟨_,h2⟩:=lookF_from args 0 t u hu
    simp only [Nat.sub_zero]at h2
    obtain⟨hlt,_⟩:=List.getElem?_eq_some_iff.1 h2
    rw [List.getElem?_append_left hlt];exact h2
  have r:SRel φ S w0 ⟨args++List.replicate (fn.ntmps-args.length) skipped,h⟩ {tmps:=args'++Array.replicate (fn.ntmps-args'.size) undef,defers:= []} w:=by
    refine⟨?_,hH,hsafe,rfl⟩
    simp only [Array.toList_append,Array.toList_replicate,hlen]
    exact hA.append (VRels.replicate (VRel.skipped φ) _)
  refine hr S w0 hS hC0 φ φ _ w (fun i v p hp=>(hH.dom i v p hp).1) (Keep.refl _ _) ⟨_,by simp,hF,r⟩ _ fun φ' a' w' hk ⟨s',n1,f1,r1⟩=> ?_
  have hl:=presults_spec f1 hp hc
  obtain⟨v',k1,k2⟩:=results_sound hE.tys r1 hl
  rcases he with rfl | rfl
  · exact⟨r1.defers,v',k1,v',φ',rfl,hk,k2,r1.heap,r1.below,hn⟩
  · exact⟨r1.defers,v',k1,v',φ',rfl,hk,k2,r1.heap,r1.below,hn⟩
theorem Ent.refl(base n:Nat)(F:Facts)(h:AHeap):Ent base n F h F h:=fun S w0 φ0 φ a w h0 hk r=>⟨φ,hk,r⟩
theorem Ent.ren {base n:Nat}{F F1:Facts}{h h1:AHeap}{r:Nat→Nat}(hw:Within r h1 h)(hf: ∀ t v,lookF F1 t=some v→t<n∧lookF F t=some (v.ren r)∧Clo (In h1) v)
    (b1: ∀ i,i<base→In h i→In h1 i) (b2: ∀ i,i<base→In h1 i→r i=i) (b3: ∀ i,In h1 i→r i<base→i<base):Ent base n F h F1 h1:=by
  intro S w0 φ0 φ a w h0 hk ⟨s,hn,hF,rl⟩
  have hsize:a.tmps.toList.length=n:=by rw [rl.slots.length];exact hn
  refine⟨pull φ r h1,⟨?_,?_,?_⟩,(List.range n).map (fun t=>(lookF F1 t).getD .undef),by simp,?_,⟨?_,rl.heap.pull hw ?_,rl.below,rl.defers⟩⟩
  · intro i v p hp
    have hi:=h0 i v p hp
    have hp':=hk.le i v p hp
    obtain⟨_,b,hb,_⟩:=rl.heap.dom i v p hp'
    have hin:=b1 i hi (by unfold In;rw [hb];rfl)
    rw [pull_of hin,b2 i hi hin];exact hp'
  · intro i hi hnone u
    have:=hk.new i hi hnone
    unfold pull
    split
    · rename_i hin;rw [b2 i hi hin];exact this u
    · rfl
  · intro i v p hp hro
    obtain⟨hin,hp'⟩:=pull_some hp
    have h1:=hk.ro _ _ _ hp' hro
    have h2:=b3 i hin (h0 _ _ _ h1)
    rw [b2 i h2 hin]at h1;exact h1
  · intro t v hv
    obtain⟨ht,_,_⟩:=hf t v hv
    simp [ht,hv]
  · refine VRels.of_get (by simp [hsize]) fun t x V hx hV=> ?_
    have ht:t<n:=by
      have:=(List.getElem?_eq_some_iff.1 hx).1;simpa using this
    simp only [List.getElem?_map,List.getElem?_range ht,Option.map_some,Option.some.injEq]at hx
    cases hl:lookF F1 t with
    | none=>rw [hl]at hx;simp at hx;subst hx;simp [VRel]
    | some v =>
      rw [hl]at hx;simp at hx;subst hx
      obtain⟨_,g1,g2⟩:=hf t v hl
      obtain⟨V',e1,e2⟩:=rl.slots.get (hF t _ g1)
      rw [hV]at e1;simp at e1;subst e1
      exact VRel.unren (fun i hi v p hp=>by rw [pull_of hi];exact hp) g2 e2
  · intro i v p hp hro
    obtain⟨_,hp'⟩:=pull_some hp
    obtain⟨_,B,_,_,_,_,_,_,hrow⟩:=rl.heap.dom _ _ _ hp'
    exact hrow.base hro
def loops:Code→List Code
  | .seq a b=>loops a++loops b
  | .cond _ a b=>loops a++loops b
  | .block _ c=>loops c
  | .scope c=>loops c
  | .loop c=>c::loops c
  | _=> []
def bodyOf(P:Program)(f:FuncId):Code :=
  match P.funcs[f]? with
  | some fn=>match fn.body with | some c=>c | none=> .skip
  | none=> .skip
def loopAt(P:Program)(f:FuncId)(k:Nat):Code:=(loops (bodyOf P f))[k]?.getD .skip
theorem FDoes.ren {C:(Nat→Prop)→World→Prop}{f:FuncId}{args:List AVal}{h h' h2:AHeap}{v v2:AVal}{r:Nat→Nat}(k:FDoes P C f args h v h')(hw:Within r h2 h')(hv:v=v2.ren r)(hcl:Clo (In h2) v2)
    (b1: ∀ i,i<h.next→In h' i→In h2 i) (b2: ∀ i,i<h.next→In h2 i→r i=i) (b3: ∀ i,In h2 i→r i<h.next→i<h.next) (hn:h.next≤h2.next):FDoes P C f args h v2 h2:=by
  subst hv
  intro S w0 hS hC0 φ w args' hH hsafe hA
  obtain⟨g1,g2⟩:=k S w0 hS hC0 φ w args' hH hsafe hA
  refine⟨g1,g2.mono fun e w' ⟨v',φ',he,kp,hv,hr,hs,hn'⟩=> ?_⟩
  refine⟨v',pull φ' r h2,he,⟨?_,?_,?_⟩,VRel.unren (fun i hi v p hp=>by rw [pull_of hi];exact hp) hcl hv,hr.pull hw ?_,hs,hn⟩
  · intro i u p hp
    have hi:=(hH.dom i u p hp).1
    have hp':=kp.le i u p hp
    obtain⟨_,b,hb,_⟩:=hr.dom i u p hp'
    have hin:=b1 i hi (by unfold In;rw [hb];rfl)
    rw [pull_of hin,b2 i hi hin];exact hp'
  · intro i hi hnone u
    have:=kp.new i hi hnone
    unfold pull
    split
    · rename_i hin;rw [b2 i hi hin];exact this u
    · rfl
  · intro i u p hp hro
    obtain⟨hin,hp'⟩:=pull_some hp
    have h1:=kp.ro _ _ _ hp' hro
    have h2:=b3 i hin (hH.dom _ _ _ h1).1
    rw [b2 i h2 hin]at h1;exact h1
  · intro i u p hp hro
    obtain⟨_,hp'⟩:=pull_some hp
    obtain⟨_,B,_,_,_,_,_,_,hrow⟩:=hr.dom _ _ _ hp'
    exact hrow.base hro
theorem All.nil:All []:=fun p hp=>by simp at hp
theorem All.cons {p:Prop}{l:List Prop}(h:p)(k:All l):All (p::l):=fun q hq=>by
  rcases List.mem_cons.1 hq with rfl | hq
  · exact h
  · exact k q hq
def Bare(v:AVal):Prop:=(∀ r,v.ren r=v)∧Clo (fun _=>False) v
theorem Bare.bool(b:Bool):Bare (.bool b):=⟨fun _=>rfl,trivial⟩
theorem Bare.int(k:IntKind)(n:Int):Bare (.int k n):=⟨fun _=>rfl,trivial⟩
theorem Bare.str(s:List UInt8):Bare (.str s):=⟨fun _=>rfl,trivial⟩
mutual
theorem Clo.mono {D D':Nat→Prop}(h: ∀ i,D i→D' i): ∀ {v:AVal},Clo D v→Clo D' v
  | .ptr (some a),k=>by simp only [Clo]at k ⊢; exact h _ k
  | .slice (some a) _ _,k=>by simp only [Clo]at k ⊢; exact h _ k
  | .func _ f c,k=>by simp only [Clo]at k ⊢; exact⟨Clos.mono h k.1,Clos.mono h k.2⟩
  | .iface _ v,k=>by simp only [Clo]at k ⊢; exact Clo.mono h k
  | .agg cs,k=>by simp only [Clo]at k ⊢; exact Clos.mono h k
  | .tuple vs,k=>by simp only [Clo]at k ⊢; exact Clos.mono h k
  | .undef,_=>by simp [Clo]
  | .bool _,_=>by simp [Clo]
  | .int _ _,_=>by simp [Clo]
  | .str _,_=>by simp [Clo]
  | .ptr none,_=>by simp [Clo]
  | .slice none _ _,_=>by simp [Clo]
  | .nilFunc,_=>by simp [Clo]
  | .nilIface,_=>by simp [Clo]
theorem Clos.mono {D D':Nat→Prop}(h: ∀ i,D i→D' i): ∀ {l:List AVal},Clos D l→Clos D' l
  | [],_=>by simp [Clos]
  | a::l,k=>by simp only [Clos]at k ⊢; exact⟨Clo.mono h k.1,Clos.mono h k.2⟩
end
theorem FDoes.bare {C:(Nat→Prop)→World→Prop}[CondOk C]{f:FuncId}{args:List AVal}{v:AVal}{h':AHeap}(k:FDoes P C f args ⟨0,.nil⟩ v h')(ha: ∀ a∈args,Bare a)(hv:Bare v)(H:AHeap):FDoes P C f args H v H:=by
  have k1:FDoes P C f args ⟨0,.nil⟩ v ⟨0,.nil⟩:=by
    refine k.ren (r:=fun i=>i) (v2:=v) ⟨?_,?_,?_⟩ (hv.1 _).symm (Clo.mono (fun i hi=>hi.elim) hv.2) ?_ ?_ ?_ (Nat.le_refl _)
    · intro i b hb;cases hb
    · intro i j hi;cases hi
    · intro i b hb;cases hb
    · intro i hi;simp at hi
    · intro i hi;simp at hi
    · intro i hi;cases hi
  have k2:=k1.frame (r:=fun i=>H.next+i) (H:=H) (H':=H) ⟨?_,?_,?_⟩ (Clos_iff.2 fun a hm=>Clo.mono (fun i hi=>hi.elim) (ha a hm).2) (fun i _=>by simp) ?_ (by simp) (fun _ _ _=>rfl)
  · rw [hv.1]at k2
    have:args.map (AVal.ren fun i=>H.next+i)=args:=by
      conv=>rhs;rw [← List.map_id args]
      exact List.map_congr_left fun a hm=>(ha a hm).1 _
    rw [this]at k2;exact k2
  · intro i b hb;cases hb
  · intro i j hi;cases hi
  · intro i b hb;cases hb
  · intro i b hb;cases hb
mutual
def AVal.bareB:AVal→Bool
  | .ptr (some _)=>false
  | .slice (some _) _ _=>false
  | .func _ f c=>AVal.baresB f && AVal.baresB c
  | .iface _ v=>AVal.bareB v
  | .agg cs=>AVal.baresB cs
  | .tuple vs=>AVal.baresB vs
  | _=>true
def AVal.baresB:List AVal→Bool
  | []=>true
  | a::l=>AVal.bareB a && AVal.baresB l
end
mutual
theorem bareB_spec: ∀ {v:AVal},v.bareB=true→(∀ r,v.ren r=v)∧Clo (fun _=>False) v
  | .ptr (some a),k=>by simp [AVal.bareB]at k
  | .slice (some a) _ _,k=>by simp [AVal.bareB]at k
  | .func fn f c,k=>by
    simp only [AVal.bareB,Bool.and_eq_true]at k
    have h1:=baresB_spec k.1
    have h2:=baresB_spec k.2
    exact⟨fun r=>by simp only [AVal.ren,h1.1 r,h2.1 r],by simp only [Clo];exact⟨h1.2,h2.2⟩⟩
  | .iface t v,k=>by
    simp only [AVal.bareB]at k
    have h1:=bareB_spec k
    exact⟨fun r=>by simp only [AVal.ren,h1.1 r],by simp only [Clo];exact h1.2⟩
  | .agg cs,k=>by
    simp only [AVal.bareB]at k
    have h1:=baresB_spec k
    exact⟨fun r=>by simp only [AVal.ren,h1.1 r],by simp only [Clo];exact h1.2⟩
  | .tuple vs,k=>by
    simp only [AVal.bareB]at k
    have h1:=baresB_spec k
    exact⟨fun r=>by simp only [AVal.ren,h1.1 r],by simp only [Clo];exact h1.2⟩
  | .undef,_=>⟨fun _=>rfl,by simp [Clo]⟩
  | .bool _,_=>⟨fun _=>rfl,by simp [Clo]⟩
  | .int _ _,_=>⟨fun _=>rfl,by simp [Clo]⟩
  | .str _,_=>⟨fun _=>rfl,by simp [Clo]⟩
  | .ptr none,_=>⟨fun _=>rfl,by simp [Clo]⟩
  | .slice none _ _,_=>⟨fun _=>rfl,by simp [Clo]⟩
  | .nilFunc,_=>⟨fun _=>rfl,by simp [Clo]⟩
  | .nilIface,_=>⟨fun _=>rfl,by simp [Clo]⟩
theorem baresB_spec: ∀ {l:List AVal},AVal.baresB l=true→(∀ r,AVal.rens r l=l)∧Clos (fun _=>False) l
  | [],_=>⟨fun _=>rfl,by simp [Clos]⟩
  | a::l,k=>by
    simp only [AVal.baresB,Bool.and_eq_true]at k
    have h1:=bareB_spec k.1
    have h2:=baresB_spec k.2
    exact⟨fun r=>by simp only [AVal.rens,h1.1 r,h2.1 r],by simp only [Clos];exact⟨h1.2,h2.2⟩⟩
end
theorem Bare.of {v:AVal}(h:v.bareB=true):Bare v:=bareB_spec h
end
end
end Go.Lift
namespace Go.Lift
noncomputable section
open Go.RowKit
def AHeap.rows(n:Nat)(l:List (Nat×ABlk)):AHeap:=l.foldl (fun h p=>h.set p.1 p.2) ⟨n,.nil⟩
theorem AHeap.foldl_get(l:List (Nat×ABlk)): ∀ (h:AHeap) (i:Nat) (b:ABlk),(l.foldl (fun h p=>h.set p.1 p.2) h).get i=some b→h.get i=some b∨(i,b)∈l:=by
  induction l with
  | nil=>intro h i b k;exact .inl k
  | cons p r ih =>
    intro h i b k
    rcases ih _ i b k with k | k
    · rw [AHeap.get_set]at k
      split at k
      · rename_i e;simp only [Option.some.injEq]at k;exact .inr (by rw [← e,← k];exact List.mem_cons_self ..)
      · exact .inl k
    · exact .inr (by simp [k])
theorem AHeap.foldl_in (l:List (Nat×ABlk)): ∀ (h:AHeap) (i:Nat),(In h i∨i∈l.map (·.1))→In (l.foldl (fun h p=>h.set p.1 p.2) h) i:=by
  induction l with
  | nil=>intro h i k;rcases k with k | k;exact k;simp at k
  | cons p r ih =>
    intro h i k
    refine ih _ i ?_
    by_cases e:p.1=i
    · left;unfold In;rw [AHeap.get_set,if_pos e];rfl
    · rcases k with k | k
      · left;unfold In;rw [AHeap.get_set,if_neg e];exact k
      · simp only [List.map_cons,List.mem_cons]at k
        rcases k with k | k
        · exact absurd k.symm e
        · exact .inr k
theorem AHeap.foldl_next(l:List (Nat×ABlk)): ∀ (h:AHeap),(l.foldl (fun h p=>h.set p.1 p.2) h).next=h.next:=by
  induction l with
  | nil=>intro h;rfl
  | cons p r ih=>intro h;rw [List.foldl_cons,ih];rfl
@[simp] theorem AHeap.rows_next (n : Nat) (l : List (Nat × ABlk)) : (AHeap.rows n l).next = n := AHeap.foldl_next _ _
theorem AHeap.rows_get {n:Nat}{l:List (Nat×ABlk)}{i:Nat}{b:ABlk}(h:(AHeap.rows n l).get i=some b):(i,b)∈l:=by
  rcases AHeap.foldl_get l _ i b h with k | k
  · cases k
  · exact k
theorem AHeap.rows_in {n:Nat}{l:List (Nat×ABlk)}{i:Nat}(h:i∈l.map (·.1)):In (AHeap.rows n l) i:=AHeap.foldl_in l _ i (.inr h)
theorem AHeap.rows_in_of {n:Nat}{l:List (Nat×ABlk)}{i:Nat}(h:In (AHeap.rows n l) i):i∈l.map (·.1):=by
  obtain⟨b,hb⟩:=Option.isSome_iff_exists.1 h
  exact List.mem_map.2 ⟨_,AHeap.rows_get hb,rfl⟩
mutual
theorem AVal.ren_id: ∀ (v:AVal),v.ren (fun i=>i)=v
  | .ptr (some a)=>rfl
  | .slice (some a) _ _=>rfl
  | .func fn f c=>by simp only [AVal.ren,AVal.rens_id]
  | .iface t v=>by simp only [AVal.ren,AVal.ren_id v]
  | .agg cs=>by simp only [AVal.ren,AVal.rens_id]
  | .tuple vs=>by simp only [AVal.ren,AVal.rens_id]
  | .undef=>rfl
  | .bool _=>rfl
  | .int _ _=>rfl
  | .str _=>rfl
  | .ptr none=>rfl
  | .slice none _ _=>rfl
  | .nilFunc=>rfl
  | .nilIface=>rfl
theorem AVal.rens_id: ∀ (l:List AVal),AVal.rens (fun i=>i) l=l
  | []=>rfl
  | a::l=>by simp only [AVal.rens,AVal.ren_id a,AVal.rens_id l]
end
theorem ABlk.ren_id(b:ABlk):b.ren (fun i=>i)=b:=by
  unfold ABlk.ren
  have:b.elems.map (AVal.ren fun i=>i)=b.elems:=by
    conv=>rhs;rw [← List.map_id b.elems]
    exact List.map_congr_left fun e he=>AVal.ren_id e
  rw [this]
def BareB(b:ABlk):Prop:= ∀ e∈b.elems,Bare e
theorem Bare.clo {v:AVal}(h:Bare v)(D:Nat→Prop):Clo D v:=Clo.mono (fun _ k=>k.elim) h.2
def Ids(l:List Nat):Nat→Prop:=fun i=>i∈l
theorem Ent.drop {base n:Nat} {F:Facts} {h:AHeap} {K:Nat} {l:List (Nat×ABlk)} (hl:l.map (fun p=>h.get p.1)=l.map (fun p=>some p.2)) (hK:l.all (fun p=>Nat.blt p.1 K)=true)
    (hb:(List.range base).all (fun i=>(l.map (·.1)).contains i)=true) (hn:F.all (fun p=>Nat.blt p.1 n)=true) (hF:All (F.map fun p=>Clo (Ids (l.map (·.1))) p.2))
    (hc:All (l.map fun p=> ∀ e∈p.2.elems,Clo (Ids (l.map (·.1))) e)):Ent base n F h F (AHeap.rows K l):=by
  have hget: ∀ i b,(AHeap.rows K l).get i=some b→i<K∧h.get i=some b:=by
    intro i b k
    have hm:=AHeap.rows_get k
    refine⟨Nat.blt_eq.mp (List.all_eq_true.1 hK _ hm),?_⟩
    obtain⟨j,hj,e⟩:=List.mem_iff_getElem.1 hm
    have h1:=congrArg (fun(x:List (Option ABlk))=>x[j]?) hl
    simp only [List.getElem?_map,List.getElem?_eq_getElem hj,Option.map_some,e,Option.some.injEq]at h1
    exact h1
  have hmono: ∀ {v:AVal},Clo (Ids (l.map (·.1))) v→Clo (In (AHeap.rows K l)) v:=Clo.mono fun i hi=>AHeap.rows_in hi
  refine Ent.ren (r:=fun i=>i) ⟨fun i b k=>⟨by rw [AHeap.rows_next];exact(hget i b k).1,by rw [ABlk.ren_id];exact(hget i b k).2⟩,fun i j _ _ e=>e,?_⟩ ?_ ?_ ?_ ?_
  · intro i b k e he
    have hm:=AHeap.rows_get k
    exact hmono (hc _ (List.mem_map.2 ⟨_,hm,rfl⟩) e he)
  · intro t v hv
    have hm:(t,v)∈F:=by
      clear hn hF
      induction F with
      | nil=>cases hv
      | cons p r ih =>
        obtain⟨k,u⟩:=p
        rw [lookF_cons]at hv
        split at hv
        · rename_i e;simp only [Option.some.injEq]at hv;subst e;subst hv;simp
        · exact List.mem_cons_of_mem _ (ih hv)
    exact⟨Nat.blt_eq.mp (List.all_eq_true.1 hn _ hm),by rw [AVal.ren_id];exact hv,hmono (hF _ (List.mem_map.2 ⟨_,hm,rfl⟩))⟩
  · intro i hi _
    exact AHeap.rows_in (by simpa using List.all_eq_true.1 hb i (List.mem_range.2 hi))
  · intro i _ _;rfl
  · intro i _ k;exact k
def AHeap.ofFrom:Nat→List ABlk→AHeap→AHeap
  | _,[],h=>h
  | i,b::r,h=>AHeap.ofFrom (i+1) r (h.set i b)
def AHeap.of(l:List ABlk):AHeap:=AHeap.ofFrom 0 l ⟨l.length,.nil⟩
theorem AHeap.ofFrom_get: ∀ (l:List ABlk) (i:Nat) (h:AHeap) (j:Nat),(AHeap.ofFrom i l h).get j=if i≤j∧j<i+l.length then l[j-i]? else h.get j
  | [],i,h,j=>by simp only [AHeap.ofFrom,List.length_nil];rw [if_neg (by omega)]
  | b ::r,i,h,j=>by
    simp only [AHeap.ofFrom,AHeap.ofFrom_get r,List.length_cons,AHeap.get_set]
    by_cases e:i=j
    · subst e
      rw [if_neg (by omega),if_pos rfl,if_pos (by omega)];simp
    · by_cases c:i+1≤j∧j<i+1+r.length
      · rw [if_pos c,if_pos (by omega),show j-i=(j- (i+1))+1 by omega];simp
      · rw [if_neg c,if_neg e,if_neg (by omega)]
theorem AHeap.ofFrom_next: ∀ (l:List ABlk) (i:Nat) (h:AHeap),(AHeap.ofFrom i l h).next=h.next
  | [],i,h=>rfl
  | b::r,i,h=>by simp only [AHeap.ofFrom,AHeap.ofFrom_next r];rfl
@[simp] theorem AHeap.of_next (l : List ABlk) : (AHeap.of l).next = l.length := AHeap.ofFrom_next _ _ _
theorem AHeap.of_get(l:List ABlk)(j:Nat):(AHeap.of l).get j=l[j]? :=by
  unfold AHeap.of
  rw [AHeap.ofFrom_get]
  split
  · simp
  · rw [List.getElem?_eq_none (by omega)];rfl
theorem sameOld_refl(n:Nat)(h:AHeap):sameOld n h h=true:=Trie.sameBelow_of ABlk.same_refl n h.blks h.blks 0 1 fun _ _=>rfl
def SlArg(o:Option AAddr)(n c id ver off es:Nat):Prop:=o=some ⟨id,ver,off,0,es⟩∨(o=none∧n=0∧c=0)
theorem SlArg.index {o:Option AAddr}{n c id ver off es:Nat}(h:SlArg o n c id ver off es){D:Tys}{t e:TypeId}{d xd:TyD}(hd:D t=some d)(hk:d.kind= .slice e)(hx:D e=some xd)(hes:es=xd.size){k:IntKind}{i:Int}(h0:0≤i)(hi:i<n) :
    aindexAddr D t (.slice o n c) (.int k i)=some (.ptr (some ⟨id,ver,off+i.toNat,0,es⟩)):=by
  rcases h with rfl | ⟨_,rfl,_⟩
  · simp only [aindexAddr,hd,hk,hx]
    rw [if_pos ⟨h0,hi,hes,trivial⟩]
  · omega
structure SlTy(D:Tys)(t e:TypeId)(sz by':Nat):Prop where
  ty: ∃ d xd,D t=some d∧d.kind= .slice e∧D e=some xd∧xd.size=sz∧xd.bytes=by'∧0<sz∧xd.zeroFits=true
section
variable {E:AEnv}{t e:TypeId}{sz by' nid:Nat}{h:AHeap}{x:AVal}{new:List AVal}
theorem app_start(hs:SlTy E.D t e sz by')(s:AVal):abuiltin E .append #[t,t] [s,x] nid h=aappend E.D t s x nid h:=by
  obtain⟨d,xd,h1,h2,h3,rfl,rfl,h4,h5⟩:=hs.ty
  simp only [abuiltin,List.getElem?_toArray,List.getElem?_cons_zero,List.getElem?_cons_succ,h1,h2]
theorem app_new(hs:SlTy E.D t e sz by')(hx:elemsOf sz x h=some new)(hne:new≠ [])(hb:(new.length+new.length / 4+512)*by'≤2^48)(hl:new.length<2^62) :
    abuiltin E .append #[t,t] [.slice none 0 0,x] nid h=some (newSlice nid sz new.length new.length,h.set nid (.made new sz false (some (e,0)))):=by
  rw [app_start hs]
  obtain⟨d,xd,h1,h2,h3,rfl,rfl,h4,h5⟩:=hs.ty
  have hn: ¬ 0+new.length=0:=by rw [Nat.zero_add];intro c;exact hne (List.eq_nil_of_length_eq_zero c)
  simp only [aappend,h1,h2,h3,hx]
  rw [if_pos ⟨h4,by simpa using hb,by simpa using hl,h5⟩]
  rw [if_neg hn,if_pos ⟨trivial,trivial⟩,Nat.zero_add]
theorem app_grow(hs:SlTy E.D t e sz by')(hx:elemsOf sz x h=some new)(hne:new≠ []){a:AAddr}{len cap:Nat}{b:ABlk}(hb:((len+new.length)+(len+new.length) / 4+512)*by'≤2^48)(hl:len+new.length<2^62)
    (hg:h.get a.id=some b) (hes:a.es=sz∧a.fld=0) (hcap: ¬ len+new.length≤cap) (h6:b.exact=false) (h7:b.ro=false) (h8:a.ver=b.ver) (h9:a.idx+len=b.elems.length) (h10:b.ty=none∨b.ty=some (e,0)) :
    abuiltin E .append #[t,t] [.slice (some a) len cap,x] nid h=some (.slice (some {a with ver:=a.ver+1}) (len+new.length) (len+new.length),h.set a.id (b.grow new)):=by
  rw [app_start hs]
  obtain⟨d,xd,h1,h2,h3,rfl,rfl,h4,h5⟩:=hs.ty
  simp only [aappend,h1,h2,h3,hx]
  rw [if_pos ⟨h4,hb,hl,h5⟩]
  rw [if_pos hes]
  simp only [hg]
  rw [if_neg hcap,if_neg (by rw [h6];simp),if_pos ⟨h7,h8,h9,hne,h10⟩]
theorem app_copy(hs:SlTy E.D t e sz by')(hx:elemsOf sz x h=some new){a:AAddr}{len cap:Nat}{b:ABlk}{old:List AVal}(hb:((len+new.length)+(len+new.length) / 4+512)*by'≤2^48)(hl:len+new.length<2^62)
    (hg:h.get a.id=some b) (hes:a.es=sz∧a.fld=0) (hcap: ¬ len+new.length≤cap) (h6:b.exact=true) (ho:elemsOf sz (.slice (some a) len cap) h=some old) :
    abuiltin E .append #[t,t] [.slice (some a) len cap,x] nid h=some (newSlice nid sz (len+new.length) (len+new.length),h.set nid (.made (old++new) sz false (some (e,0)))):=by
  rw [app_start hs]
  obtain⟨d,xd,h1,h2,h3,rfl,rfl,h4,h5⟩:=hs.ty
  simp only [aappend,h1,h2,h3,hx]
  rw [if_pos ⟨h4,hb,hl,h5⟩]
  rw [if_pos hes]
  simp only [hg]
  rw [if_neg hcap,if_pos h6]
  simp only [ho]
theorem app_put(hs:SlTy E.D t e sz by')(hx:elemsOf sz x h=some new)(hne:new≠ []){a:AAddr}{len cap:Nat}{b:ABlk}(hb:((len+new.length)+(len+new.length) / 4+512)*by'≤2^48)(hl:len+new.length<2^62)
    (hg:h.get a.id=some b) (hes:a.es=sz∧a.fld=0) (hcap:len+new.length≤cap) (h7:b.ro=false) (h8:a.ver=b.ver) (h9:a.idx+(len+new.length)≤b.elems.length) :
    abuiltin E .append #[t,t] [.slice (some a) len cap,x] nid h=some (.slice (some a) (len+new.length) cap,h.set a.id (b.put (a.idx+len) new)):=by
  rw [app_start hs]
  obtain⟨d,xd,h1,h2,h3,rfl,rfl,h4,h5⟩:=hs.ty
  simp only [aappend,h1,h2,h3,hx]
  rw [if_pos ⟨h4,hb,hl,h5⟩]
  rw [if_pos hes]
  simp only [hg]
  rw [if_pos hcap,if_neg hne,if_pos ⟨h7,h8,h9⟩]
theorem app_none(hs:SlTy E.D t e sz by')(hx:elemsOf sz x h=some []){o:Option AAddr}{len cap:Nat}{b:ABlk}(hb:(len+len / 4+512)*by'≤2^48)(hl:len<2^62)
    (hg: ∀ a,o=some a→h.get a.id=some b∧a.es=sz∧a.fld=0) (hcap:len≤cap) (hn:o=none→len=0):abuiltin E .append #[t,t] [.slice o len cap,x] nid h=some (.slice o len cap,h):=by
  rw [app_start hs]
  obtain⟨d,xd,h1,h2,h3,rfl,rfl,h4,h5⟩:=hs.ty
  simp only [aappend,h1,h2,h3,hx]
  rw [if_pos ⟨h4,by simpa using hb,by simpa using hl,h5⟩]
  cases o with
  | none=>have:=hn rfl;subst this;simp
  | some a =>
    obtain⟨k1,k2⟩:=hg a rfl
    simp only
    rw [if_pos k2]
    simp only [k1]
    rw [if_pos (by simpa using hcap),if_pos trivial]
    simp
end
theorem elemsOf_slice {h:AHeap} {o:Option AAddr} {n c id ver off sz:Nat} (hs:SlArg o n c id ver off sz) {b:ABlk} (hg:h.get id=some b) {f:Nat→AVal} (hx: ∀ j,j<n→b.elem? ver (off+j)=some (f j)) :
    elemsOf sz (.slice o n c) h=some ((List.range n).map f):=by
  rcases hs with rfl | ⟨rfl,rfl,rfl⟩
  · simp only [elemsOf,if_true,hg]
    by_cases hn:n=0
    · subst hn;simp
    · rw [if_neg hn]
      have key: ∀ j,j<n→off+j<b.lim ver∧b.elems[off+j]? =some (f j):=by
        intro j hj
        have:=hx j hj
        unfold ABlk.elem? at this
        split at this
        · exact⟨‹_›,this⟩
        · cases this
      have hlast:=key (n-1) (by omega)
      have hlen:=(List.getElem?_eq_some_iff.1 hlast.2).1
      rw [if_pos ⟨by omega,by omega⟩]
      congr 1
      apply List.ext_getElem?
      intro j
      by_cases hj:j<n
      · rw [List.getElem?_take,if_pos hj,List.getElem?_drop,(key j hj).2];simp [hj]
      · rw [List.getElem?_take,if_neg hj,List.getElem?_eq_none (by simp;omega)]
  · simp [elemsOf]
theorem Loops.round {P:Program}{C:(Nat→Prop)→World→Prop}{base n:Nat}{c:Code}{F F1 F2:Facts}{h h1 h1' h2:AHeap}{e:AExit}(k1:Runs P C base n c F h .normal F1 h1)(i:Ent base n F1 h1 F1 h1')(k2:Loops P C base n c F1 h1' e F2 h2):Loops P C base n c F h e F2 h2 :=
  Loops.step (k1.post i) k2
end
end Go.Lift
namespace Go.Lift
noncomputable section
open Go.RowKit
inductive HT:Type 1 where
  | nil
  | hint (x:Hint) (r:HT)
  | br (i:Nat) (y n:HT)
  | cases (i:Nat) (p:Prop) (y n:HT)
  | ex (i:Nat) {α:Type} (p:α→Prop) (f:α→HT)
  | skip (i:Nat) (r:HT)
def AllC:List Prop→Prop→Prop
  | [],k=>k
  | p::r,k=>p∧AllC r k
theorem AllC_spec: ∀ {l:List Prop} {k:Prop},AllC l k→All l∧k
  | [],k,h=>⟨All.nil,h⟩
  | p::r,k,h=>⟨All.cons h.1 (AllC_spec h.2).1,(AllC_spec h.2).2⟩
abbrev TPost:=AVal→AHeap→HT→List CFact→Prop
abbrev TEnter:=FuncId→List AVal→AHeap→HT→(AVal→AHeap→HT→Prop)→Prop
abbrev TX:=AExit→Facts→AHeap→HT→Prop
def brOp (ρ:Operand→AVal) (o:Op):Option (Prop×Bool) :=
  match o with
  | .binOp op t x y _ =>
    match ρ x,ρ y with
    | .int k a,.int k' b =>
      match decEq k k' with
      | isTrue _ =>
        match op with
        | .eql=>some (a=b,true)
        | .neq=>some (a=b,false)
        | .lss=>some (a<b,true)
        | .leq=>some (a≤b,true)
        | .gtr=>some (b<a,true)
        | .geq=>some (b≤a,true)
        | _=>none
      | isFalse _=>none
    | .str a,.str b =>
      match op with
      | .eql=>some (a=b,true)
      | .neq=>some (a=b,false)
      | _=>none
    | _,_=>none
  | _=>none
theorem brOp_spec {E:AEnv}{ρ:Operand→AVal}{o:Op}{p:Prop}{b:Bool}(k:brOp ρ o=some (p,b))(call:ACall)(nid:Nat)(h:AHeap):(p→aop E call nid ρ h o=some (.bool b,h))∧(¬ p→aop E call nid ρ h o=some (.bool (!b),h)):=by
  cases o<;>simp only [brOp]at k<;>try (cases k;done)
  rename_i op t x y ty
  split at k
  · rename_i k1 a k2 c hx hy
    split at k
    · rename_i hk _
      subst hk
      split at k<;>first | (cases k;done) | (simp only [Option.some.injEq,Prod.mk.injEq]at k)
      all_goals (obtain⟨rfl,rfl⟩:=k)
      all_goals (constructor<;>intro hp<;>simp [aop,hx,hy,abin,aint,hp])
      all_goals omega
    · cases k
  · rename_i a c hx hy
    split at k<;>first | (cases k;done) | (simp only [Option.some.injEq,Prod.mk.injEq]at k)
    all_goals (obtain⟨rfl,rfl⟩:=k)
    all_goals (constructor<;>intro hp<;>simp [aop,hx,hy,abin,astr,hp])
  · cases k
inductive Alts where
  | one (v:AVal) (h:AHeap) (ps:List Prop)
  | or (p:Prop) (a b:Alts)
  | some (v:AVal) (ps:List Prop) (p:AHeap→Prop)
def Alts.Ok(P:Program)(C:(Nat→Prop)→World→Prop)(f:FuncId)(args:List AVal)(h:AHeap):Alts→Prop
  | .one v h' ps=>All ps→FDoes P C f args h v h'
  | .or p a b=>(p→Alts.Ok P C f args h a)∧(¬ p→Alts.Ok P C f args h b)
  | .some v ps p=>All ps→ ∃ h',FDoes P C f args h v h'∧p h'
abbrev Specs:=FuncId→Option (List AVal→AHeap→Option Alts)
def SpecsOk(P:Program)(C:(Nat→Prop)→World→Prop)(S:Specs):Prop:= ∀ f g,S f=some g→ ∀ args h a,g args h=some a→a.Ok P C f args h
def noSpecs:Specs:=fun _=>none
theorem noSpecs_ok {P:Program}{C:(Nat→Prop)→World→Prop} :SpecsOk P C noSpecs:=fun _ _ h=>by cases h
def Specs.add(S:Specs)(f:FuncId)(g:List AVal→AHeap→Option Alts):Specs:=fun k=>_root_.cond (Nat.beq k f) (some g) (S k)
theorem SpecsOk.add {P:Program}{C:(Nat→Prop)→World→Prop}{S:Specs}(k:SpecsOk P C S){f:FuncId}{g:List AVal→AHeap→Option Alts}(hg: ∀ args h a,g args h=some a→a.Ok P C f args h):SpecsOk P C (S.add f g):=by
  intro f' g' hf
  unfold Specs.add at hf
  rcases beq_cases f' f with ⟨e,e'⟩ | ⟨e,e'⟩
  · rw [e',cond_true]at hf;simp only [Option.some.injEq]at hf;subst hf;subst e;exact hg
  · rw [e',cond_false]at hf;exact k f' g' hf
def bytesA(l:List UInt8):List AVal:=l.map fun b=> .int .u8 b.toNat
def strOf(l:List AVal):List UInt8:=(bytesOf l).getD []
def intAt(l:List AVal)(i:Nat):Int:=match l[i]? with | some (.int _ n)=>n | _=>0
def goX (E:AEnv) (draw:Bool) (ops:Array Oper) (n0 i:Nat) (ρ:Operand→AVal) (h:AHeap) (o:Op):Option (AVal×AHeap×List Prop) :=
  match o with
  | .convert s d x =>
    match ρ x with
    | .slice (some a) n c =>
      match E.D s,E.D d,h.get a.id with
      | some sd,some dd,some b =>
        match sd.kind,dd.kind with
        | .slice e,.string =>
          match E.D e with
          | some ed =>
            match ed.kind with
            | .int .u8 =>
              cond (Nat.beq a.fld 0 && Nat.beq a.es 1 && (!draw || (soloOk ops i || readOk ops n0 i ρ (.convert s d x))))
                (some (.str (strOf ((b.elems.drop a.idx).take n)),h,[a.ver=b.ver,a.idx+n≤b.elems.length,∃ l,(b.elems.drop a.idx).take n=bytesA l])) none
            | _=>none
          | none=>none
        | _,_=>none
      | _,_,_=>none
    | _=>none
  | .load t x =>
    match ρ x with
    | .ptr (some a) =>
      match E.D t,h.get a.id with
      | some d,some b =>
        match d.kind with
        | .int k =>
          cond (Nat.beq a.fld 0 && Nat.beq d.size 1)
            (some (.int k (intAt b.elems a.idx),h,[a.ver=b.ver,b.elems[a.idx]? =some (.int k (intAt b.elems a.idx))]++cond draw (drawCond ops n0 i ρ h o h) [])) none
        | _=>none
      | _,_=>none
    | _=>none
  | _=>none
theorem bytesOf_bytesA: ∀ (l:List UInt8),bytesOf (bytesA l)=some l
  | []=>rfl
  | b::r=>by
    have:=bytesOf_bytesA r
    unfold bytesA at this
    simp only [bytesA,List.map_cons,bytesOf,this,Option.map_some]
    simp
theorem strOf_bytesA(l:List UInt8):strOf (bytesA l)=l:=by unfold strOf;rw [bytesOf_bytesA];rfl
theorem goX_spec {P :Program} {E:AEnv} {draw:Bool} {ops:Array Oper} {n0 i:Nat} {ρ:Operand→AVal} {h h':AHeap} {o:Op} {v:AVal} {ps:List Prop} (k:goX E draw ops n0 i ρ h o=some (v,h',ps)) (hp:All ps) (call:ACall):runOp E call ops draw n0 i ρ h o=some (v,h'):=by
  cases o<;>simp only [goX]at k<;>try (cases k;done)
  case convert s d x =>
    split at k
    · rename_i a n c hx
      split at k
      · rename_i sd dd b hs hd hg
        split at k
        · rename_i e hk1 hk2
          split at k
          · rename_i ed he
            split at k
            · rename_i hek
              cases hq:(Nat.beq a.fld 0 && Nat.beq a.es 1 && (!draw || (soloOk ops i || readOk ops n0 i ρ (.convert s d x))))with
              | false=>rw [hq]at k;cases k
              | true =>
                rw [hq,cond_true]at k
                simp only [Option.some.injEq,Prod.mk.injEq]at k
                obtain⟨rfl,rfl,rfl⟩:=k
                simp only [Bool.and_eq_true]at hq
                have q1:=Nat.eq_of_beq_eq_true hq.1.1
                have q2:=Nat.eq_of_beq_eq_true hq.1.2
                have p1:a.ver=b.ver:=hp.head
                have p2:a.idx+n≤b.elems.length:=hp.tail.head
                obtain⟨l,p3⟩: ∃ l,(b.elems.drop a.idx).take n=bytesA l:=hp.tail.tail.head
                have hlim:b.lim a.ver=b.elems.length:=by rw [p1];simp [ABlk.lim]
                have hel:elemsOf 1 (.slice (some a) n c) h=some (bytesA l):=by
                  by_cases hn:n=0
                  · subst hn
                    simp only [elemsOf,q1,q2,if_true,hg]
                    rw [← p3];simp
                  · simp only [elemsOf,q1,q2,if_true,hg]
                    rw [if_neg hn,if_pos ⟨by rw [hlim];exact p2,p2⟩,p3]
                refine runOp_ofX E ?_ ?_ ?_
                · simp only [aop,hx,aconvert,hs,hd];rfl
                · simp only [xop,hx,aconvX,hs,hd,hk1,hk2,he,hek,hel,bytesOf_bytesA,Option.map_some]
                  rw [p3,strOf_bytesA]
                · intro hdr
                  refine⟨rfl,?_⟩
                  have:=hq.2;rw [hdr]at this;simpa using this
            · cases k
          · cases k
        · cases k
      · cases k
    · cases k
  case load t x =>
    split at k
    · rename_i a hx
      split at k
      · rename_i d b hd hg
        split at k
        · rename_i kk hk
          cases hq:(Nat.beq a.fld 0 && Nat.beq d.size 1)with
          | false=>rw [hq]at k;cases k
          | true =>
            rw [hq,cond_true]at k
            simp only [Option.some.injEq,Prod.mk.injEq]at k
            obtain⟨rfl,rfl,rfl⟩:=k
            simp only [Bool.and_eq_true]at hq
            have q1:=Nat.eq_of_beq_eq_true hq.1
            have p1:a.ver=b.ver:=hp.head
            have p2:b.elems[a.idx]? =some (.int kk (intAt b.elems a.idx)):=hp.tail.head
            refine runOp_of E ?_ hp.tail.tail
            have hlt:=(List.getElem?_eq_some_iff.1 p2).1
            have hel:b.elem? a.ver a.idx=some (.int kk (intAt b.elems a.idx)):=by
              unfold ABlk.elem?
              rw [if_pos (by rw [p1];simpa [ABlk.lim]using hlt)];exact p2
            simp only [aop,hx,aload,hd,hg,hel,hk,TK.isAgg,loadElem,q1,if_true,Option.map_some,Bool.false_eq_true,if_false]
        · cases k
      · cases k
    · cases k
section
variable(P:Program)(E:AEnv)(S:Specs)
def tbase (draw:Bool) (ops:Array Oper) (n0 i:Nat) (F:Facts) (h:AHeap) (o:Op):Option (AVal×AHeap×List Prop×List CFact) :=
  match o with
  | .call c =>
    match c.callee with
    | .value f =>
      match getF F f with
      | .func (.func g) fs cs =>
        match S g with
        | some pr =>
          match pr (fs++c.args.toList.map (getF F)++cs) h with
          | some (.one v h' ps)=>some (v,h',ps++cond draw (drawCond ops n0 i (getF F) h o h') [],[⟨g,fs++c.args.toList.map (getF F)++cs,h,v,h'⟩])
          | _=>none
        | none=>none
      | _=>none
    | _=>match popPlain E draw ops n0 i F h o []with | some (v,h',_,cs,ks)=>some (v,h',cs,ks) | none=>none
  | _=>match popPlain E draw ops n0 i F h o []with | some (v,h',_,cs,ks)=>some (v,h',cs,ks) | none=>none
def talts(draw:Bool)(ops:Array Oper)(n0 i:Nat)(F:Facts)(o:Op)(g:FuncId)(args:List AVal)(h:AHeap)(K:TPost):Alts→HT→Prop
  | .one v h' ps,hs=>AllC (ps++cond draw (drawCond ops n0 i (getF F) h o h') []) (K v h' hs [⟨g,args,h,v,h'⟩])
  | .or p a b,.br _ y n=>(p→talts draw ops n0 i F o g args h K a y)∧(¬ p→talts draw ops n0 i F o g args h K b n)
  | .or _ _ _,_=>False
  | .some v ps p,hs=>AllC ps (∀ h',p h'→AllC (cond draw (drawCond ops n0 i (getF F) h o h') []) (K v h' hs [⟨g,args,h,v,h'⟩]))
def tspec (F:Facts) (h:AHeap) (o:Op):Option (Alts×FuncId×List AVal) :=
  match o with
  | .call c =>
    match c.callee with
    | .value f =>
      match getF F f with
      | .func (.func g) fs cs =>
        match S g with
        | some pr=>match pr (fs++c.args.toList.map (getF F)++cs) h with | some a=>some (a,g,fs++c.args.toList.map (getF F)++cs) | none=>none
        | none=>none
      | _=>none
    | _=>none
  | _=>none
def tdo (draw:Bool) (ops:Array Oper) (n0 i:Nat) (F:Facts) (h:AHeap) (o:Op) (hs:HT) (K:TPost):Prop :=
  match tbase E S draw ops n0 i F h o with
  | some (v,h',cs,ks)=>AllC cs (K v h' hs ks)
  | none =>
    match tspec S F h o with
    | some (.some v ps p,g,args)=>talts draw ops n0 i F o g args h K (.some v ps p) hs
    | _=>False
def tbr (draw:Bool) (ops:Array Oper) (n0 i:Nat) (F:Facts) (h:AHeap) (o:Op) (y n:HT) (K:TPost):Prop :=
  match brOp (getF F) o with
  | some (p,b)=>(p→AllC (cond draw (drawCond ops n0 i (getF F) h o h) []) (K (.bool b) h y []))∧(¬ p→AllC (cond draw (drawCond ops n0 i (getF F) h o h) []) (K (.bool (!b)) h n []))
  | none =>
    match tbase E S draw ops n0 i F h o with
    | some (.bool b,h',cs,ks)=>AllC cs ((b=true→K (.bool true) h' y ks)∧(b=false→K (.bool false) h' n ks))
    | _=>False
def tbrX(draw:Bool)(ops:Array Oper)(n0 i:Nat)(F:Facts)(h:AHeap)(o:Op)(j:Nat)(y n:HT)(K:TPost):Prop :=
  match tspec S F h o with
  | some (.or p a b,g,args)=>talts draw ops n0 i F o g args h K (.or p a b) (.br j y n)
  | _=>tbr E S draw ops n0 i F h o y n K
def tact (en:TEnter) (draw:Bool) (ops:Array Oper) (n0 i:Nat) (F:Facts) (h:AHeap) (o:Op) (x:Hint) (r:HT) (K:TPost):Prop :=
  match x with
  | .enter _ =>
    match o with
    | .call c =>
      match c.callee with
      | .value f =>
        match getF F f with
        | .func (.func g) fs cs =>
          en g (fs++c.args.toList.map (getF F)++cs) h r fun v h' r'=>AllC (cond draw (drawCond ops n0 i (getF F) h o h') []) (K v h' r' [⟨g,fs++c.args.toList.map (getF F)++cs,h,v,h'⟩])
        | _=>False
      | _=>False
    | _=>False
  | _ =>
    match popHint P E (fun _ _ _ _=>none) draw ops n0 i F h o x []with
    | some (v,h',_,cs,ks)=>AllC cs (K v h' r ks)
    | none=>match goX E draw ops n0 i (getF F) h o with | some (v,h',cs)=>AllC cs (K v h' r []) | none=>False
def tpop(en:TEnter)(q:Nat)(ops:Array Oper)(draw:Bool)(n0 i:Nat)(F:Facts)(h:AHeap)(o:Op)(K:TPost):HT→Prop
  | .nil=>tdo E S draw ops n0 i F h o .nil K
  | .hint x r=>match x.at with | some j=>cond (Nat.beq (1000*q+i) j) (tact P E en draw ops n0 i F h o x r K) (tdo E S draw ops n0 i F h o (.hint x r) K) | none=>tdo E S draw ops n0 i F h o (.hint x r) K
  | .br j y n=>cond (Nat.beq (1000*q+i) j) (tbrX E S draw ops n0 i F h o j y n K) (tdo E S draw ops n0 i F h o (.br j y n) K)
  | .cases j p y n=>cond (Nat.beq (1000*q+i) j) ((p→tpop en q ops draw n0 i F h o K y)∧(¬ p→tpop en q ops draw n0 i F h o K n)) (tdo E S draw ops n0 i F h o (.cases j p y n) K)
  | .ex j p f=>cond (Nat.beq (1000*q+i) j) ((∃ x,p x)∧ ∀ x,p x→tpop en q ops draw n0 i F h o K (f x)) (tdo E S draw ops n0 i F h o (.ex j p f) K)
  | .skip j r=>cond (Nat.beq (1000*q+i) j) (tdo E S draw ops n0 i F h o r K) (tdo E S draw ops n0 i F h o (.skip j r) K)
def TDoes(ops:Array Oper)(draw:Bool)(n0 i:Nat)(F:Facts)(h:AHeap)(o:Op)(K:TPost):Prop :=
  ∃ v h' hs' ks,K v h' hs' ks∧(∀ c∈ks,FDoes P E.cond c.f c.args c.h c.v c.h')∧ ∀ call:ACall,(∀ c∈ks,c.holds call)→runOp E call ops draw n0 i (getF F) h o=some (v,h')
def TEnterOk(en:TEnter):Prop:= ∀ f args h hs K,en f args h hs K→ ∃ v h' hs',FDoes P E.cond f args h v h'∧K v h' hs'
variable {P E S}
theorem tbase_spec (hE:EnvOk P E) (hmix:P.follows .mixedOrders=true) (hS:SpecsOk P E.cond S) {draw:Bool} {ops:Array Oper} {n0 i:Nat} {F:Facts} {h h':AHeap} {o:Op} {v:AVal} {cs:List Prop} {ks:List CFact} (k:tbase E S draw ops n0 i F h o=some (v,h',cs,ks)) (hc:All cs) :
    (∀ c∈ks,FDoes P E.cond c.f c.args c.h c.v c.h')∧ ∀ call:ACall,(∀ c∈ks,c.holds call)→runOp E call ops draw n0 i (getF F) h o=some (v,h'):=by
  have plain: ∀ {r:Option (AVal×AHeap×List Prop×List CFact)},(match popPlain E draw ops n0 i F h o []with | some (v,h',_,cs,ks)=>some (v,h',cs,ks) | none=>none)=some (v,h',cs,ks) →
      (∀ c∈ks,FDoes P E.cond c.f c.args c.h c.v c.h')∧ ∀ call:ACall,(∀ c∈ks,c.holds call)→runOp E call ops draw n0 i (getF F) h o=some (v,h'):=by
    intro r k
    split at k
    · rename_i v1 h1 hs1 c1 k1 hp
      simp only [Option.some.injEq,Prod.mk.injEq]at k
      obtain⟨rfl,rfl,rfl,rfl⟩:=k
      have hen:EnterOk P E (fun _ _ _ _=>none):=fun _ _ _ _ _ _ _ _ h=>by cases h
      have hp':pop P E (fun _ _ _ _=>none) 0 ops draw n0 i F h o []=some (v1,h1,hs1,c1,k1):=hp
      exact⟨pop_does P E hE hmix hen hp' hc,fun call hk=>pop_spec P E hp' hc hk⟩
    · cases k
  unfold tbase at k
  split at k
  · rename_i c
    split at k
    · rename_i f hf
      split at k
      · rename_i g fs cs' hg
        split at k
        · rename_i pr hpr
          split at k
          · rename_i v1 h1 ps hcall
            simp only [Option.some.injEq,Prod.mk.injEq]at k
            obtain⟨rfl,rfl,rfl,rfl⟩:=k
            refine⟨fun c hm=> ?_,fun call hk=> ?_⟩
            · rw [List.mem_singleton.1 hm];exact hS _ _ hpr _ _ _ hcall hc.left
            · refine runOp_of E ?_ hc.right
              simp only [aop,hf,hg,acallVal]
              exact hk _ (List.mem_singleton.2 rfl)
          · cases k
        · cases k
      · cases k
    · exact plain (r:=none) k
  · exact plain (r:=none) k
theorem talts_spec {draw:Bool}{ops:Array Oper}{n0 i:Nat}{F:Facts}{h:AHeap}{c:Call}{f:Operand}(hf:c.callee= .value f){g:FuncId}{fs cs:List AVal}(hg:getF F f= .func (.func g) fs cs){K:TPost} :
    ∀ (a:Alts) (hs:HT),a.Ok P E.cond g (fs++c.args.toList.map (getF F)++cs) h→talts draw ops n0 i F (.call c) g (fs++c.args.toList.map (getF F)++cs) h K a hs→TDoes P E ops draw n0 i F h (.call c) K
  | .one v h' ps,hs,ok,k=>by
    obtain⟨hc,hK⟩:=AllC_spec (by simpa only [talts]using k)
    refine⟨v,h',hs,_,hK,fun c hm=> ?_,fun call hk=> ?_⟩
    · rw [List.mem_singleton.1 hm];exact ok hc.left
    · refine runOp_of E ?_ hc.right
      simp only [aop,hf,hg,acallVal]
      exact hk _ (List.mem_singleton.2 rfl)
  | .some v ps p,hs,ok,k=>by
    obtain⟨hc,hK⟩:=AllC_spec (by simpa only [talts]using k)
    obtain⟨h',hd,hp⟩:=ok hc
    obtain⟨hc2,hK⟩:=AllC_spec (hK h' hp)
    refine⟨v,h',hs,_,hK,fun c hm=> ?_,fun call hk=> ?_⟩
    · rw [List.mem_singleton.1 hm];exact hd
    · refine runOp_of E ?_ hc2
      simp only [aop,hf,hg,acallVal]
      exact hk _ (List.mem_singleton.2 rfl)
  | .or p a b,.br j y n,ok,k=>by
    simp only [talts]at k
    by_cases hp:p
    · exact talts_spec hf hg a y (ok.1 hp) (k.1 hp)
    · exact talts_spec hf hg b n (ok.2 hp) (k.2 hp)
  | .or p a b,.nil,ok,k=>k.elim
  | .or p a b,.hint _ _,ok,k=>k.elim
  | .or p a b,.cases _ _ _ _,ok,k=>k.elim
  | .or p a b,.ex _ _ _,ok,k=>k.elim
  | .or p a b,.skip _ _,ok,k=>k.elim
theorem tspec_spec (hS:SpecsOk P E.cond S) {draw:Bool} {ops:Array Oper} {n0 i:Nat} {F:Facts} {h:AHeap} {o:Op} {a:Alts} {g:FuncId} {args:List AVal} (ht:tspec S F h o=some (a,g,args)) {K:TPost} {hs:HT} (k:talts draw ops n0 i F o g args h K a hs):TDoes P E ops draw n0 i F h o K:=by
  unfold tspec at ht
  split at ht
  · rename_i c
    split at ht
    · rename_i f hf
      split at ht
      · rename_i g' fs cs hg
        split at ht
        · rename_i pr hpr
          split at ht
          · rename_i a' hcall
            simp only [Option.some.injEq,Prod.mk.injEq]at ht
            obtain⟨rfl,rfl,rfl⟩:=ht
            exact talts_spec hf hg _ _ (hS _ _ hpr _ _ _ hcall) k
          · cases ht
        · cases ht
      · cases ht
    · cases ht
  · cases ht
theorem tdo_spec(hE:EnvOk P E)(hmix:P.follows .mixedOrders=true)(hS:SpecsOk P E.cond S){draw:Bool}{ops:Array Oper}{n0 i:Nat}{F:Facts}{h:AHeap}{o:Op}{hs:HT}{K:TPost}(k:tdo E S draw ops n0 i F h o hs K):TDoes P E ops draw n0 i F h o K:=by
  unfold tdo at k
  split at k
  · rename_i v h' cs ks hb
    obtain⟨hc,hK⟩:=AllC_spec k
    obtain⟨k1,k2⟩:=tbase_spec hE hmix hS hb hc
    exact⟨v,h',hs,ks,hK,k1,k2⟩
  · split at k
    · rename_i ht;exact tspec_spec hS ht k
    · exact k.elim
theorem tbr_spec(hE:EnvOk P E)(hmix:P.follows .mixedOrders=true)(hS:SpecsOk P E.cond S){draw:Bool}{ops:Array Oper}{n0 i:Nat}{F:Facts}{h:AHeap}{o:Op}{y n:HT}{K:TPost}(k:tbr E S draw ops n0 i F h o y n K):TDoes P E ops draw n0 i F h o K:=by
  unfold tbr at k
  split at k
  · rename_i p b hb
    by_cases hp:p
    · obtain⟨hc,hK⟩:=AllC_spec (k.1 hp)
      exact⟨_,_,_,_,hK,fun c hm=>by simp at hm,fun call _=>runOp_of E ((brOp_spec hb call (n0+i) h).1 hp) hc⟩
    · obtain⟨hc,hK⟩:=AllC_spec (k.2 hp)
      exact⟨_,_,_,_,hK,fun c hm=>by simp at hm,fun call _=>runOp_of E ((brOp_spec hb call (n0+i) h).2 hp) hc⟩
  · split at k
    · rename_i b h' cs ks hb
      obtain⟨hc,hK⟩:=AllC_spec k
      obtain⟨k1,k2⟩:=tbase_spec hE hmix hS hb hc
      cases b with
      | true=>exact⟨_,_,_,_,hK.1 rfl,k1,k2⟩
      | false=>exact⟨_,_,_,_,hK.2 rfl,k1,k2⟩
    · exact k.elim
theorem tbrX_spec(hE:EnvOk P E)(hmix:P.follows .mixedOrders=true)(hS:SpecsOk P E.cond S){draw:Bool}{ops:Array Oper}{n0 i:Nat}{F:Facts}{h:AHeap}{o:Op}{j:Nat}{y n:HT}{K:TPost}(k:tbrX E S draw ops n0 i F h o j y n K):TDoes P E ops draw n0 i F h o K:=by
  unfold tbrX at k
  split at k
  · rename_i ht;exact tspec_spec hS ht k
  · exact tbr_spec hE hmix hS k
theorem tact_spec (hE:EnvOk P E) (hmix:P.follows .mixedOrders=true) (hS:SpecsOk P E.cond S) {en:TEnter} (hen:TEnterOk P E en) {q:Nat} {draw:Bool} {ops:Array Oper} {n0 i:Nat} {F:Facts} {h:AHeap} {o:Op} {x:Hint} (hx:x.at=some (1000*q+i)) {r:HT} {K:TPost} (k:tact P E en draw ops n0 i F h o x r K) :
    TDoes P E ops draw n0 i F h o K:=by
  unfold tact at k
  split at k
  · split at k
    · rename_i c
      split at k
      · rename_i f hf
        split at k
        · rename_i g fs cs hg
          obtain⟨v,h',hs',hd,hK⟩:=hen _ _ _ _ _ k
          obtain⟨hc,hK⟩:=AllC_spec hK
          refine⟨v,h',hs',_,hK,fun c hm=> ?_,fun call hk=> ?_⟩
          · rw [List.mem_singleton.1 hm];exact hd
          · refine runOp_of E ?_ hc
            simp only [aop,hf,hg,acallVal]
            exact hk _ (List.mem_singleton.2 rfl)
        · exact k.elim
      · exact k.elim
    · exact k.elim
  · split at k
    · rename_i v h' hs1 cs ks hp
      obtain⟨hc,hK⟩:=AllC_spec k
      have hen':EnterOk P E (fun _ _ _ _=>none):=fun _ _ _ _ _ _ _ _ h=>by cases h
      have hp':pop P E (fun _ _ _ _=>none) q ops draw n0 i F h o [x]=some (v,h',hs1,cs,ks):=by
        unfold pop
        simp only [hx]
        rw [beq_true rfl,cond_true];exact hp
      exact⟨v,h',r,ks,hK,pop_does P E hE hmix hen' hp' hc,fun call hk=>pop_spec P E hp' hc hk⟩
    · split at k
      · rename_i v h' cs hp
        obtain⟨hc,hK⟩:=AllC_spec k
        exact⟨v,h',r,[],hK,fun c hm=>by simp at hm,fun call _=>goX_spec (P:=P) hp hc call⟩
      · exact k.elim
theorem tpop_spec(hE:EnvOk P E)(hmix:P.follows .mixedOrders=true)(hS:SpecsOk P E.cond S){en:TEnter}(hen:TEnterOk P E en){q:Nat}{draw:Bool}{ops:Array Oper}{n0 i:Nat}{F:Facts}{h:AHeap}{o:Op}{K:TPost} : ∀ (hs:HT),tpop P E S en q ops draw n0 i F h o K hs→TDoes P E ops draw n0 i F h o K
  | .nil,k=>tdo_spec hE hmix hS k
  | .hint x r,k=>by
    simp only [tpop]at k
    split at k
    · rename_i j hj
      rcases beq_cases (1000*q+i) j with ⟨e,e'⟩ | ⟨e,e'⟩
      · rw [e',cond_true]at k;exact tact_spec hE hmix hS hen (by rw [hj,e]) k
      · rw [e',cond_false]at k;exact tdo_spec hE hmix hS k
    · exact tdo_spec hE hmix hS k
  | .br j y n,k=>by
    simp only [tpop]at k
    rcases beq_cases (1000*q+i) j with ⟨e,e'⟩ | ⟨e,e'⟩
    · rw [e',cond_true]at k;exact tbrX_spec hE hmix hS k
    · rw [e',cond_false]at k;exact tdo_spec hE hmix hS k
  | .cases j p y n,k=>by
    simp only [tpop]at k
    rcases beq_cases (1000*q+i) j with ⟨e,e'⟩ | ⟨e,e'⟩
    · rw [e',cond_true]at k
      by_cases hp:p
      · exact tpop_spec hE hmix hS hen y (k.1 hp)
      · exact tpop_spec hE hmix hS hen n (k.2 hp)
    · rw [e',cond_false]at k;exact tdo_spec hE hmix hS k
  | .ex j p f,k=>by
    simp only [tpop]at k
    rcases beq_cases (1000*q+i) j with ⟨e,e'⟩ | ⟨e,e'⟩
    · rw [e',cond_true]at k
      obtain⟨⟨x,hx⟩,k⟩:=k
      exact tpop_spec hE hmix hS hen (f x) (k x hx)
    · rw [e',cond_false]at k;exact tdo_spec hE hmix hS k
  | .skip j r,k=>by
    simp only [tpop]at k
    rcases beq_cases (1000*q+i) j with ⟨e,e'⟩ | ⟨e,e'⟩
    · rw [e',cond_true]at k;exact tdo_spec hE hmix hS k
    · rw [e',cond_false]at k;exact tdo_spec hE hmix hS k
variable(P E S)
def trun (en:TEnter) (q:Nat) (ops:Array Oper) (draw:Bool) (n n0:Nat):List Oper→Nat→Facts→AHeap→HT→List CFact→(Facts→AHeap→HT→List CFact→Prop)→Prop
  | [],_,F,h,hs,ks,K=>K F h hs ks
  | o::r,i,F,h,hs,ks,K =>
    cond (ltDst n o)
    (match awantedF ops F o with
    | some true=>cond (o.op.operands.toList.all (knownF F)) (tpop P E S en q ops draw n0 i F h o.op (fun v h' hs' k2=>trun en q ops draw n n0 r (i+1) (setF F o.dst v) h' hs' (ks++k2) K) hs) False
    | some false=>trun en q ops draw n n0 r (i+1) (setF F o.dst skipped) h hs ks K
    | none=>False) False
variable {P E S}
theorem trun_spec (hE:EnvOk P E) (hmix:P.follows .mixedOrders=true) (hS:SpecsOk P E.cond S) {en:TEnter} (hen:TEnterOk P E en) {q:Nat} {ops:Array Oper} {draw:Bool} {n n0:Nat} : ∀ (l:List Oper) (i:Nat) (F:Facts) (h:AHeap) (hs:HT) (ks:List CFact) {K:Facts→AHeap→HT→List CFact→Prop},(∀ j,l[j]? =ops[i+j]?) →
    trun P E S en q ops draw n n0 l i F h hs ks K→ ∃ F' h' hs' k2,K F' h' hs' (ks++k2)∧(∀ c∈k2,FDoes P E.cond c.f c.args c.h c.v c.h')∧ ∀ call:ACall,(∀ c∈k2,c.holds call)→ ∀ s:List AVal,s.length=n→Has F s→ ∃ s',s'.length=n∧Has F' s' ∧
      runL E call ops draw n0 (List.range' i l.length) ⟨s,h⟩=some ⟨s',h'⟩
  | [],i,F,h,hs,ks,K,hl,k=>⟨F,h,hs,[],by simpa [trun]using k,fun c hm=>by simp at hm,fun call _ s hn hF=>⟨s,hn,hF,by unfold runL;cases draw<;>rfl⟩⟩
  | o :: r, i,F,h,hs,ks,K,hl,k=>by
    have ho:ops[i]? =some o:=by have:=hl 0;simpa using this.symm
    have hr: ∀ j,r[j]? =ops[i+1+j]? :=fun j=>by have:=hl (j+1);simp at this;rw [this];congr 1;omega
    simp only [trun]at k
    cases hd:ltDst n o with
    | false=>rw [hd]at k;exact k.elim
    | true =>
      rw [hd,cond_true]at k
      have hdst: ∀ m,m=n→ ∀ t,o.dst=some t→t<m:=by
        intro m hm t ht
        unfold ltDst at hd
        rw [ht]at hd
        rw [hm];exact Nat.blt_eq.mp hd
      rw [List.length_cons,List.range'_succ]
      split at k
      · rename_i hg
        cases hall:o.op.operands.toList.all (knownF F)with
        | false=>rw [hall]at k;exact k.elim
        | true =>
          rw [hall,cond_true]at k
          obtain⟨v,h1,hs1,k1,hK,hd1,hrun1⟩:=tpop_spec hE hmix hS hen hs k
          obtain⟨F',h',hs',k2,hK2,hd2,hrun2⟩:=trun_spec hE hmix hS hen r (i+1) _ _ _ _ hr hK
          refine⟨F',h',hs',k1++k2,by rw [← List.append_assoc];exact hK2,fun c hm=>(List.mem_append.1 hm).elim (hd1 c) (hd2 c),fun call hk s hn hF=> ?_⟩
          have ha1:=hrun1 call fun c hm=>hk c (by simp [hm])
          obtain⟨s',e1,e2,hm2⟩:=hrun2 call (fun c hm=>hk c (by simp [hm])) (aput s o.dst v) (by rw [length_aput];exact hn) (hF.set (hdst s.length hn) v)
          refine⟨s',e1,e2,?_⟩
          have heq:runOp E call ops draw n0 i (agetOp s) h o.op=some (v,h1):=by
            rw [← ha1]
            have hcg: ∀ x∈o.op.operands.toList,agetOp s x=getF F x:=fun x hx=>(hF.get (List.all_eq_true.1 hall x hx)).symm
            have h0: ∀ nid,aop E call nid (agetOp s) h o.op=aop E call nid (getF F) h o.op:=fun nid=>aop_congr hcg
            have hlo:loadId (agetOp s) o.op=loadId (getF F) o.op:=by
              cases hoo:o.op<;>simp only [loadId]
              rename_i t x
              rw [hoo]at hcg
              rw [hcg x (by simp [Op.operands])]
            have hso:storeId (agetOp s) o.op=storeId (getF F) o.op:=by
              cases hoo:o.op<;>simp only [storeId]
              rename_i t x y
              rw [hoo]at hcg
              rw [hcg x (by simp [Op.operands])]
            have hxo: ∀ nid,xop E nid (agetOp s) h o.op=xop E nid (getF F) h o.op:=fun nid=>xop_congr E hcg
            have hap:appIds (agetOp s) o.op=appIds (getF F) o.op:=by
              cases hoo:o.op<;>simp only [appIds]
              rename_i c
              rw [hoo]at hcg
              rw [map_congr_ops (xs:=c.args) (fun x hx=>hcg x (by simp only [Op.operands,Call.operands,Array.toList_append,List.mem_append];exact .inr hx))]
            have hrd:readOk ops n0 i (agetOp s) o.op=readOk ops n0 i (getF F) o.op:=by
              have:convSrc (agetOp s) o.op=convSrc (getF F) o.op:=by
                cases hoo:o.op<;>simp only [convSrc]
                rename_i a b x
                rw [hoo]at hcg
                rw [hcg x (by simp [Op.operands])]
              unfold readOk;rw [this]
            unfold runOp dop aopX
            simp only [h0,hlo,hso,hxo,hap,hrd]
          exact(runL_cons_true E ho (awantedF_eq hF hg) heq).trans hm2
      · rename_i hg
        obtain⟨F',h',hs',k2,hK2,hd2,hrun2⟩:=trun_spec hE hmix hS hen r (i+1) _ _ _ _ hr k
        refine⟨F',h',hs',k2,hK2,hd2,fun call hk s hn hF=> ?_⟩
        obtain⟨s',e1,e2,hm2⟩:=hrun2 call hk (aput s o.dst skipped) (by rw [length_aput];exact hn) (hF.set (hdst s.length hn) skipped)
        exact⟨s',e1,e2,(runL_cons_false E ho (awantedF_eq hF hg)).trans hm2⟩
      · exact k.elim
def trounds(step:Facts→AHeap→HT→TX→Prop)(K:TX):Nat→Facts→AHeap→HT→Prop
  | 0,_,_,_=>False
  | m+1,F,h,hs=>step F h hs fun e F1 h1 hs1=>match e with | .normal=>trounds step K m F1 h1 hs1 | e=>K e F1 h1 hs1
def tres(D:Tys)(rs:List ResultVar)(e:AExit)(F:Facts)(h h':AHeap)(K:AVal→Prop):Prop :=
  match e with
  | .normal=>match presults D F h' rs []with | some (l,cs)=>AllC cs (cond (Nat.ble h.next h'.next) (K (aresult l)) False) | none=>False
  | .ret=>match presults D F h' rs []with | some (l,cs)=>AllC cs (cond (Nat.ble h.next h'.next) (K (aresult l)) False) | none=>False
  | _=>False
def frees(P:Program)(C:(Nat→Prop)→World→Prop):List CFact→List Prop
  | []=> []
  | [c]=> [c.h'=c.h,∀ h,CallT P C c.f c.args h c.v h]
  | _=> [False]
open Classical in
noncomputable def callF:List CFact→ACall
  | [],_,_,_=>none
  | c::_,f,args,h=>if c.f=f∧c.args=args then some (c.v,h)else none
theorem callF_free(ks:List CFact):FreeC (callF ks):=by
  intro f args h v h' e
  cases ks with
  | nil=>cases e
  | cons c r =>
    simp only [callF]at e ⊢
    split at e
    · rename_i q
      simp only [Option.some.injEq,Prod.mk.injEq]at e
      exact⟨e.2.symm,fun h2=>by rw [if_pos q,e.1]⟩
    · cases e
theorem callF_holds {P:Program}{C:(Nat→Prop)→World→Prop}{ks:List CFact}(h:All (frees P C ks)): ∀ c∈ks,c.holds (callF ks):=by
  match ks,h with
  | [],_=>intro c hc;cases hc
  | [k],h =>
    intro c hc
    obtain rfl:=List.mem_singleton.1 hc
    have e:c.h'=c.h:=h.head
    unfold CFact.holds
    simp only [callF]
    rw [if_pos ⟨trivial,trivial⟩,e]
  | a::b::r,h=>exact(h _ (List.mem_singleton.2 rfl):False).elim
theorem callF_ok {P:Program}{E:AEnv}{ks:List CFact}(hk:All (frees P E.cond ks)){N0:Nat→Prop}{w0:World}(hN:Low N0 w0.heap.size)(hC:E.cond N0 w0):CallOk P N0 w0 (callF ks):=by
  match ks,hk with
  | [],_=>intro f args h v h' hc;cases hc
  | a::b::r,h=>exact(h _ (List.mem_singleton.2 rfl):False).elim
  | [k],hk =>
    intro f args h v h' hc φ w args' hH hB hA
    simp only [callF]at hc
    split at hc
    · rename_i q
      simp only [Option.some.injEq,Prod.mk.injEq]at hc
      obtain⟨rfl,rfl⟩:=q
      obtain⟨rfl,rfl⟩:=hc
      have hd: ∀ h,CallT P E.cond k.f k.args h k.v h:=hk _ (by simp [frees])
      exact(hd h).does N0 w0 hN hC φ w args' hH hB hA
    · cases hc
variable(P E S)
def tenter (ex:Nat→Nat→Code→Facts→AHeap→HT→TX→Prop):TEnter:=fun f args h hs K =>
  match P.funcs[f]? with
  | some fn =>
    match fn.body with
    | some c=>ex h.next (args.length+(fn.ntmps-args.length)) c (factsFrom 0 args) h hs fun e F h' hs'=>tres E.D fn.results.toList e F h h' fun v=>K v h' hs'
    | none=>False
  | none=>False
def texec (R:Nat→Nat→Code→Facts→AHeap→AExit→Facts→AHeap→Prop):Nat→Nat→Nat→Option Code→Code→Facts→AHeap→HT→TX→Prop
  | 0,_,_,_,_,_,_,_,_=>False
  | k + 1,base,n,some body,c,F,h,hs,K =>
    texec R k base n none c F h hs fun e F1 h1 hs1 =>
      match e with
      | .goto l =>
        match findLabel body l with
        | some rest=>texec R k base n (some body) rest F1 h1 hs1 K
        | none=>K (.goto l) F1 h1 hs1
      | e=>K e F1 h1 hs1
  | k + 1,base,n,none,c,F,h,hs,K =>
    match c with
    | .skip=>K .normal F h hs
    | .label _=>K .normal F h hs
    | .region q ops draw =>
      cond (!draw || drawOk ops)
      (cond (Nat.ble base h.next && true)
      (trun P E S (tenter P E fun b m c F h hs K=>texec R k b m none c F h hs K) q ops draw n h.next ops.toList 0 F {h with next:=h.next+ops.size} hs [] fun F1 h1 hs1 ks=>AllC (clashes ks) (K .normal F1 h1 hs1)) False)
      (cond (Nat.ble base h.next && drawOkF ops)
      (trun P E S (tenter P E fun b m c F h hs K=>texec R k b m none c F h hs K) q ops true n h.next ops.toList 0 F {h with next:=h.next+ops.size} hs [] fun F1 h1 hs1 ks=>AllC (frees P E.cond ks) (K .normal F1 h1 hs1)) False)
    | .seq a b =>
      texec R k base n none a F h hs fun e F1 h1 hs1 =>
        match e with
        | .normal=>texec R k base n none b F1 h1 hs1 K
        | e=>K e F1 h1 hs1
    | .cond x a b =>
      cond (knownF F x)
      (match getF F x with
      | .bool true=>texec R k base n none a F h hs K
      | .bool false=>texec R k base n none b F h hs K
      | _=>False) False
    | .block id c =>
      texec R k base n none c F h hs fun e F1 h1 hs1 =>
        match e with
        | .exit j=>K (cond (Nat.beq j id) .normal (.exit j)) F1 h1 hs1
        | e=>K e F1 h1 hs1
    | .loop c =>
      match hs with
      | .hint (.keep l) (.hint (.loop F1 h1 e) r)=>R base n (.loop c) (onlyF F l) h e F1 h1∧K e F1 h1 r
      | .hint (.loop F1 h1 e) r=>R base n (.loop c) F h e F1 h1∧K e F1 h1 r
      | .hint (.rounds m) r=>trounds (fun F h hs K=>texec R k base n none c F h hs K) K m F h r
      | .cases _ p y n'=>(p→texec R k base n none (.loop c) F h y K)∧(¬ p→texec R k base n none (.loop c) F h n' K)
      | .ex _ p f=>(∃ x,p x)∧ ∀ x,p x→texec R k base n none (.loop c) F h (f x) K
      | _=>False
    | .scope c=>texec R k base n (some c) c F h hs K
    | .goto l=>K (.goto l) F h hs
    | .exit id=>K (.exit id) F h hs
    | .ret=>K .ret F h hs
    | _=>False
variable {P E S}
theorem tres_does (hE:EnvOk P E) {f:FuncId} {fn:Func} {c:Code} (hf:P.funcs[f]? =some fn) (hb:fn.body=some c) {args:List AVal} {h h':AHeap} {e:AExit} {F':Facts} {K:AVal→Prop}
    (hr:Runs P E.cond h.next (args.length+(fn.ntmps-args.length)) c (factsFrom 0 args) h e F' h') (k:tres E.D fn.results.toList e F' h h' K): ∃ v,FDoes P E.cond f args h v h'∧K v:=by
  have fin:(e= .normal∨e= .ret)→(match presults E.D F' h' fn.results.toList []with | some (l,cs)=>AllC cs (cond (Nat.ble h.next h'.next) (K (aresult l)) False) | none=>False)→ ∃ v,FDoes P E.cond f args h v h'∧K v:=by
    intro he k
    split at k
    · rename_i l cs hp
      obtain⟨hc,k⟩:=AllC_spec k
      cases hle:Nat.ble h.next h'.next with
      | false=>rw [hle]at k;exact k.elim
      | true =>
        rw [hle,cond_true]at k
        exact⟨_,FDoes.of_runs hE hf hb he hr hp hc (Nat.le_of_ble_eq_true hle),k⟩
    · exact k.elim
  cases e with
  | normal=>exact fin (.inl rfl) k
  | ret=>exact fin (.inr rfl) k
  | exit j=>exact k.elim
  | goto l=>exact k.elim
theorem texec_spec (hE:EnvOk P E) (hmix:P.follows .mixedOrders=true) (hS:SpecsOk P E.cond S): ∀ (k:Nat) {base n:Nat} (body:Option Code) (c:Code) (F:Facts) (h:AHeap) (hs:HT) {K:TX},
    texec P E S (Runs P E.cond) k base n body c F h hs K→ ∃ e F' h' hs',Tri P E.cond base n (goalOf P body c) F h e F' h'∧K e F' h' hs':=by
  intro k
  induction k with
  | zero=>intro base n body c F h hs K hp;exact hp.elim
  | succ k ih =>
    intro base n body c F h hs K hp
    cases body with
    | some body =>
      simp only [texec]at hp
      obtain⟨e,F1,h1,hs1,t1,hp⟩:=ih none c F h hs hp
      have pass:(∀ l,e≠ .goto l)→Tri P E.cond base n (goalOf P (some body) c) F h e F1 h1:=by
        intro hne S w0 hS hC0 φ0 φ a w h0 hk r Q hQ
        refine scopeW_of_wp (t1 S w0 hS hC0 φ0 φ a w h0 hk r _ fun φ' a' w' hk' r'=> ?_)
        have:=hQ φ' a' w' hk' r'
        cases e with
        | goto l=>exact absurd rfl (hne l)
        | _=>exact this
      cases e with
      | goto l =>
        simp only at hp
        cases hl:findLabel body l with
        | none =>
          rw [hl]at hp
          refine⟨.goto l,F1,h1,hs1,?_,hp⟩
          intro S w0 hS hC0 φ0 φ a w h0 hk r Q hQ
          refine scopeW_of_wp (t1 S w0 hS hC0 φ0 φ a w h0 hk r _ fun φ' a' w' hk' r'=> ?_)
          show scopePost P body Q (.goto l) a' w'
          simp only [scopePost,hl]
          exact hQ φ' a' w' hk' r'
        | some rest =>
          rw [hl]at hp
          obtain⟨e2,F2,h2,hs2,t2,hp⟩:=ih (some body) rest F1 h1 hs1 hp
          refine⟨e2,F2,h2,hs2,?_,hp⟩
          intro S w0 hS hC0 φ0 φ a w h0 hk r Q hQ
          refine scopeW_of_wp (t1 S w0 hS hC0 φ0 φ a w h0 hk r _ fun φ' a' w' hk' r'=> ?_)
          show scopePost P body Q (.goto l) a' w'
          simp only [scopePost,hl]
          exact t2 S w0 hS hC0 φ0 φ' a' w' h0 hk' r' Q hQ
      | normal=>exact⟨_,F1,h1,hs1,pass (fun l=>by simp),hp⟩
      | exit j=>exact⟨_,F1,h1,hs1,pass (fun l=>by simp),hp⟩
      | ret=>exact⟨_,F1,h1,hs1,pass (fun l=>by simp),hp⟩
    | none =>
      have stop: ∀ {e0:AExit},(∀ (Q:Exit→Act→World→Prop) (a:Act) (w:World),Q (toExit e0) a w→c.wp P Q a w)→K e0 F h hs→ ∃ e F' h' hs',Tri P E.cond base n (goalOf P none c) F h e F' h'∧K e F' h' hs':=by
        intro e0 h0 hp
        refine⟨e0,F,h,hs,?_,hp⟩
        intro S w0 hS hC0 φ0 φ a w hd hk r Q hQ
        exact h0 Q a w (hQ φ a w hk r)
      cases c
      case skip=>exact stop (e0:= .normal) (fun _ _ _ hq=>wp_skip hq) hp
      case label l=>exact stop (e0:= .normal) (fun _ _ _ hq=>wp_label hq) hp
      case goto l=>exact stop (e0:= .goto l) (fun _ _ _ hq=>wp_goto hq) hp
      case exit id=>exact stop (e0:= .exit id) (fun _ _ _ hq=>wp_exit hq) hp
      case ret=>exact stop (e0:= .ret) (fun _ _ _ hq=>wp_ret hq) hp
      case region id ops draw =>
        simp only [texec]at hp
        have hl: ∀ j:Nat,ops.toList[j]? =ops[0+j]? :=fun j=>by simp
        have hen:TEnterOk P E (tenter P E fun b m c F h hs K=>texec P E S (Runs P E.cond) k b m none c F h hs K):=by
          intro f args h hs K hq
          unfold tenter at hq
          split at hq
          · rename_i fn hf
            split at hq
            · rename_i c hb
              obtain⟨e,F',h',hs',t,hq⟩:=ih none c _ _ _ hq
              obtain⟨v,hd,hK⟩:=tres_does hE hf hb t hq
              exact⟨v,h',hs',hd,hK⟩
            · exact hq.elim
          · exact hq.elim
        cases hd0:(!draw || drawOk ops)with
        | true =>
          rw [hd0,cond_true]at hp
          cases hd:(Nat.ble base h.next && true)with
          | false=>rw [hd]at hp;exact hp.elim
          | true =>
          rw [hd,cond_true]at hp
          rw [Bool.and_true]at hd
          have hb:base≤h.next:=Nat.le_of_ble_eq_true hd
          obtain⟨F1,h1,hs1,k1,hK,hkd,hrun⟩:=trun_spec hE hmix hS hen ops.toList 0 F _ hs [] hl hp
          rw [List.nil_append]at hK
          obtain⟨hcl,hK⟩:=AllC_spec hK
          refine⟨.normal,F1,h1,hs1,?_,hK⟩
          intro S w0 hS hC0 φ0 φ a w h0 hk ⟨s,hn,hF,r⟩ Q hQ
          obtain⟨s',g1,g2,hm'⟩:=hrun (callK k1) (callK_holds hcl) s hn hF
          have hrg:List.range' 0 ops.toList.length=List.range ops.size:=by rw [List.range_eq_range',Array.length_toList]
          rw [hrg]at hm'
          have hreg:aregion E (callK k1) ops draw ⟨s,h⟩=some ⟨s',h1⟩:=by
            unfold aregion
            unfold runL at hm'
            cases draw with
            | false=>simpa using hm'
            | true =>
              have hd:drawOk ops=true:=by simpa using hd0
              simp only [if_true,hd]
              simpa using hm'
          exact aregion_sound hE hS (callK_ok P E hkd hS hC0) hmix r hreg fun a' w' φ' q1 q2 q3=>hQ φ' a' w' (hk.trans (q1.mono hb)) ⟨s',g1,g2,q2⟩
        | false =>
          rw [hd0,cond_false]at hp
          obtain rfl:draw=true:=by cases draw<;>simp_all
          cases hd:(Nat.ble base h.next && drawOkF ops)with
          | false=>rw [hd]at hp;exact hp.elim
          | true =>
          rw [hd,cond_true]at hp
          rw [Bool.and_eq_true]at hd
          have hb:base≤h.next:=Nat.le_of_ble_eq_true hd.1
          obtain⟨F1,h1,hs1,k1,hK,hkd,hrun⟩:=trun_spec hE hmix hS hen ops.toList 0 F _ hs [] hl hp
          rw [List.nil_append]at hK
          obtain⟨hcl,hK⟩:=AllC_spec hK
          refine⟨.normal,F1,h1,hs1,?_,hK⟩
          intro S w0 hS hC0 φ0 φ a w h0 hk ⟨s,hn,hF,r⟩ Q hQ
          obtain⟨s',g1,g2,hm'⟩:=hrun (callF k1) (callF_holds hcl) s hn hF
          have hrg:List.range' 0 ops.toList.length=List.range ops.size:=by rw [List.range_eq_range',Array.length_toList]
          rw [hrg]at hm'
          unfold runL at hm'
          simp only [if_true]at hm'
          exact aregionF_sound hE hS (callF_ok hcl hS hC0) (callF_free k1) hmix r hd.2 hm' fun a' w' φ' q1 q2 q3=>hQ φ' a' w' (hk.trans (q1.mono hb)) ⟨s',g1,g2,q2⟩
      case seq x y =>
        simp only [texec]at hp
        obtain⟨e,F1,h1,hs1,t1,hp⟩:=ih none x F h hs hp
        have pass:e≠ .normal→Tri P E.cond base n (goalOf P none (.seq x y)) F h e F1 h1:=by
          intro hne S w0 hS hC0 φ0 φ a w h0 hk r Q hQ
          refine wp_seq (t1 S w0 hS hC0 φ0 φ a w h0 hk r _ fun φ' a' w' hk' r'=> ?_)
          have:=hQ φ' a' w' hk' r'
          cases e with
          | normal=>exact absurd rfl hne
          | _=>exact this
        cases e with
        | normal =>
          obtain⟨e2,F2,h2,hs2,t2,hp⟩:=ih none y F1 h1 hs1 hp
          refine⟨e2,F2,h2,hs2,?_,hp⟩
          intro S w0 hS hC0 φ0 φ a w h0 hk r Q hQ
          exact wp_seq (t1 S w0 hS hC0 φ0 φ a w h0 hk r _ fun φ' a' w' hk' r'=>t2 S w0 hS hC0 φ0 φ' a' w' h0 hk' r' Q hQ)
        | exit j=>exact⟨_,F1,h1,hs1,pass (by simp),hp⟩
        | goto l=>exact⟨_,F1,h1,hs1,pass (by simp),hp⟩
        | ret=>exact⟨_,F1,h1,hs1,pass (by simp),hp⟩
      case cond x y z =>
        simp only [texec]at hp
        cases hk:knownF F x with
        | false=>rw [hk]at hp;exact hp.elim
        | true =>
          rw [hk,cond_true]at hp
          have go: ∀ {q:Bool},getF F x= .bool q→texec P E S (Runs P E.cond) k base n none (cond q y z) F h hs K→ ∃ e F' h' hs',Tri P E.cond base n (goalOf P none (.cond x y z)) F h e F' h'∧K e F' h' hs':=by
            intro q hq hp
            obtain⟨e,F1,h1,hs1,t1,hp⟩:=ih none (cond q y z) F h hs hp
            refine⟨e,F1,h1,hs1,?_,hp⟩
            intro S w0 hS hC0 φ0 φ a w h0 hk' r Q hQ
            have hw:=t1 S w0 hS hC0 φ0 φ a w h0 hk' r Q hQ
            obtain⟨s,hn,hF,r⟩:=r
            have hx:=r.eval x
            simp only at hx
            rw [← hF.get hk,hq]at hx
            simp only [VRel]at hx
            cases q
            · exact wp_cond_false hx hw
            · exact wp_cond_true hx hw
          split at hp
          · rename_i hq;exact go (q:=true) hq hp
          · rename_i hq;exact go (q:=false) hq hp
          · exact hp.elim
      case block id c =>
        simp only [texec]at hp
        obtain⟨e,F1,h1,hs1,t1,hp⟩:=ih none c F h hs hp
        have pass:(∀ j,e≠ .exit j)→Tri P E.cond base n (goalOf P none (.block id c)) F h e F1 h1:=by
          intro hne S w0 hS hC0 φ0 φ a w h0 hk r Q hQ
          refine wp_block (t1 S w0 hS hC0 φ0 φ a w h0 hk r _ fun φ' a' w' hk' r'=> ?_)
          have:=hQ φ' a' w' hk' r'
          cases e with
          | exit j=>exact absurd rfl (hne j)
          | _=>exact this
        cases e with
        | exit j =>
          refine⟨_,F1,h1,hs1,?_,hp⟩
          intro S w0 hS hC0 φ0 φ a w h0 hk r Q hQ
          refine wp_block (t1 S w0 hS hC0 φ0 φ a w h0 hk r _ fun φ' a' w' hk' r'=> ?_)
          have:=hQ φ' a' w' hk' r'
          simp only [toExit,Exit.inBlock]
          rcases beq_cases j id with ⟨hj,ej⟩ | ⟨hj,ej⟩
          · rw [ej,cond_true]at this;rw [if_pos hj];exact this
          · rw [ej,cond_false]at this;rw [if_neg hj];exact this
        | normal=>exact⟨_,F1,h1,hs1,pass (fun j=>by simp),hp⟩
        | goto l=>exact⟨_,F1,h1,hs1,pass (fun j=>by simp),hp⟩
        | ret=>exact⟨_,F1,h1,hs1,pass (fun j=>by simp),hp⟩
      case loop c =>
        simp only [texec]at hp
        split at hp
        · rename_i l F1 h1 e1 r1
          have hx:Tri P E.cond base n (goalOf P none (.loop c)) (onlyF F l) h e1 F1 h1:=hp.1
          exact⟨_,_,_,_,hx.pre (Ent.facts fun t v hv=>lookF_only hv),hp.2⟩
        · exact⟨_,_,_,_,hp.1,hp.2⟩
        · rename_i m r
          have key: ∀ (m:Nat) (F:Facts) (h:AHeap) (hs:HT),trounds (fun F h hs K=>texec P E S (Runs P E.cond) k base n none c F h hs K) K m F h hs→ ∃ e F' h' hs',Loops P E.cond base n c F h e F' h'∧K e F' h' hs':=by
            intro m
            induction m with
            | zero=>intro F h hs hp;exact hp.elim
            | succ m im =>
              intro F h hs hp
              simp only [trounds]at hp
              obtain⟨e,F1,h1,hs1,t1,hp⟩:=ih none c F h hs hp
              cases e with
              | normal =>
                obtain⟨e2,F2,h2,hs2,t2,hp⟩:=im F1 h1 hs1 hp
                exact⟨e2,F2,h2,hs2,Loops.step t1 t2,hp⟩
              | exit j=>exact⟨_,F1,h1,hs1,Loops.last (by simp) t1,hp⟩
              | goto j=>exact⟨_,F1,h1,hs1,Loops.last (by simp) t1,hp⟩
              | ret=>exact⟨_,F1,h1,hs1,Loops.last (by simp) t1,hp⟩
          obtain⟨e,F',h',hs',t,hK⟩:=key m F h r hp
          exact⟨e,F',h',hs',Runs.of_loops t,hK⟩
        · rename_i p y n'
          by_cases hq:p
          · exact ih none (.loop c) F h y (hp.1 hq)
          · exact ih none (.loop c) F h n' (hp.2 hq)
        · rename_i α p f
          obtain⟨⟨x,hx⟩,hp⟩:=hp
          exact ih none (.loop c) F h (f x) (hp x hx)
        · exact hp.elim
      case scope c =>
        simp only [texec]at hp
        obtain⟨e,F1,h1,hs1,t1,hp⟩:=ih (some c) c F h hs hp
        refine⟨e,F1,h1,hs1,?_,hp⟩
        intro S w0 hS hC0 φ0 φ a w h0 hk r Q hQ
        exact wp_of_scopeW (t1 S w0 hS hC0 φ0 φ a w h0 hk r Q hQ)
      all_goals exact hp.elim
variable(P E S)
def tcall(f:FuncId)(args:List AVal)(h:AHeap)(hs:HT)(K:AVal→AHeap→Prop):Prop :=
  tenter P E (fun b m c F h hs K=>texec P E S (Runs P E.cond) 1000 b m none c F h hs K) f args h hs fun v h' _=>K v h'
def tpath(base n:Nat)(c:Code)(F:Facts)(h:AHeap)(hs:HT)(keep:List Nat)(K:AExit→Facts→AHeap→Prop):Prop :=
  texec P E S (Runs P E.cond) 1000 base n none c F h hs fun e F' h' _=>K e (onlyF F' keep) h'
variable {P E S}
theorem tcall_does(hE:EnvOk P E)(hmix:P.follows .mixedOrders=true)(hS:SpecsOk P E.cond S){f:FuncId}{args:List AVal}{h:AHeap}{hs:HT}{K:AVal→AHeap→Prop}{p:Prop}(e:tcall P E S f args h hs K=p)(k:p): ∃ v h',FDoes P E.cond f args h v h'∧K v h':=by
  rw [← e]at k
  unfold tcall tenter at k
  split at k
  · rename_i fn hf
    split at k
    · rename_i c hb
      obtain⟨e,F',h',hs',t,hq⟩:=texec_spec hE hmix hS 1000 none c _ _ _ k
      obtain⟨v,hd,hK⟩:=tres_does hE hf hb t hq
      exact⟨v,h',hd,hK⟩
    · exact k.elim
  · exact k.elim
theorem tpath_runs(hE:EnvOk P E)(hmix:P.follows .mixedOrders=true)(hS:SpecsOk P E.cond S){base n:Nat}{c:Code}{F:Facts}{h:AHeap}{hs:HT}{keep:List Nat}{K:AExit→Facts→AHeap→Prop}{p:Prop}(e:tpath P E S base n c F h hs keep K=p)(k:p) :
    ∃ e F' h',Runs P E.cond base n c F h e F' h'∧K e F' h':=by
  rw [← e]at k
  obtain⟨e,F',h',hs',t,hq⟩:=texec_spec hE hmix hS 1000 none c _ _ _ k
  exact⟨e,_,h',t.post (Ent.facts (Facts.only_le _ _)),hq⟩
end
end
end Go.Lift
namespace Go.Lift
noncomputable section
open Go.RowKit
mutual
theorem AVal.ren_on {D:Nat→Prop}{r:Nat→Nat}(h: ∀ i,D i→r i=i): ∀ {v:AVal},Clo D v→v.ren r=v
  | .ptr (some a),k=>by simp only [Clo]at k;simp only [AVal.ren,AAddr.ren,h _ k]
  | .slice (some a) _ _,k=>by simp only [Clo]at k;simp only [AVal.ren,AAddr.ren,h _ k]
  | .func fn f c,k=>by simp only [Clo]at k;simp only [AVal.ren,AVal.rens_on h k.1,AVal.rens_on h k.2]
  | .iface t v,k=>by simp only [Clo]at k;simp only [AVal.ren,AVal.ren_on h k]
  | .agg cs,k=>by simp only [Clo]at k;simp only [AVal.ren,AVal.rens_on h k]
  | .tuple vs,k=>by simp only [Clo]at k;simp only [AVal.ren,AVal.rens_on h k]
  | .undef,_=>rfl
  | .bool _,_=>rfl
  | .int _ _,_=>rfl
  | .str _,_=>rfl
  | .ptr none,_=>rfl
  | .slice none _ _,_=>rfl
  | .nilFunc,_=>rfl
  | .nilIface,_=>rfl
theorem AVal.rens_on {D:Nat→Prop}{r:Nat→Nat}(h: ∀ i,D i→r i=i): ∀ {l:List AVal},Clos D l→AVal.rens r l=l
  | [],_=>rfl
  | a::l,k=>by simp only [Clos]at k;simp only [AVal.rens,AVal.ren_on h k.1,AVal.rens_on h k.2]
end
def CloB(D:Nat→Prop)(b:ABlk):Prop:= ∀ e∈b.elems,Clo D e
theorem ABlk.ren_on {D:Nat→Prop}{r:Nat→Nat}(h: ∀ i,D i→r i=i){b:ABlk}(k:CloB D b):b.ren r=b:=by
  unfold ABlk.ren
  have:b.elems.map (AVal.ren r)=b.elems:=by
    conv=>rhs;rw [← List.map_id b.elems]
    exact List.map_congr_left fun e he=>AVal.ren_on h (k e he)
  rw [this]
end
end Go.Lift
namespace Go.Lift
noncomputable section
open Go.RowKit
def find0:List (Nat×ABlk)→Option ABlk
  | []=>none
  | (k,b)::r=>_root_.cond (Nat.beq k 0) (some b) (find0 r)
def partL(o:Nat):List (Nat×ABlk)→List (Nat×ABlk)
  | []=> []
  | (k,b)::r=>_root_.cond (Nat.beq k 0) (partL o r) (_root_.cond (Nat.beq (Nat.mod k 2) o) (((k- (2-o)) / 2,b)::partL o r) (partL o r))
def ofLT:Nat→List (Nat×ABlk)→Trie ABlk
  | _,[]=> .nil
  | 0,_=> .nil
  | d+1,l=> .node (find0 l) (ofLT d (partL 1 l)) (ofLT d (partL 0 l))
def AHeap.rowsT(n:Nat)(l:List (Nat×ABlk)):AHeap:=⟨n,ofLT 20 l⟩
theorem FDoes.ofVC {P:Program}{C:(Nat→Prop)→World→Prop}[CondOk C]{f:FuncId}{args:List AVal}{v:AVal}(k: ∃ v1 h1,FDoes P C f args ⟨0,.nil⟩ v1 h1∧v1=v)(ha:AVal.baresB args=true)(hv:v.bareB=true)(H:AHeap):FDoes P C f args H v H:=by
  obtain⟨v1,h1,hd,rfl⟩:=k
  have hargs: ∀ {l:List AVal},AVal.baresB l=true→ ∀ a∈l,Bare a:=by
    intro l
    induction l with
    | nil=>intro _ a ha;cases ha
    | cons x r ih =>
      intro hl a ha
      simp only [AVal.baresB,Bool.and_eq_true]at hl
      rcases List.mem_cons.1 ha with rfl | hm
      · exact Bare.of hl.1
      · exact ih hl.2 a hm
  exact hd.bare (hargs ha) (Bare.of hv) H
def pureS(g:List AVal→Option (AVal×List Prop)):List AVal→AHeap→Option Alts:=fun args h=>match g args with | some (v,ps)=>some (.one v h ps) | none=>none
theorem pureS_ok {P:Program}{C:(Nat→Prop)→World→Prop}{f:FuncId}{g:List AVal→Option (AVal×List Prop)}(k: ∀ args v ps,g args=some (v,ps)→All ps→ ∀ H,FDoes P C f args H v H): ∀ args h a,pureS g args h=some a→a.Ok P C f args h:=by
  intro args h a e
  unfold pureS at e
  split at e
  · rename_i u qs hu
    simp only [Option.some.injEq]at e
    subst e
    exact fun hp=>k _ _ _ hu hp h
  · cases e
end
end Go.Lift
namespace Go.Proofs.YtjpfnbihopoeeaaGreatDoor
open Go.Lift
set_option maxRecDepth 1000000
abbrev Bytes:=List UInt8
instance:CondOk cnd where
  mono _ hC hs hn:=hC.keep hs hn
instance:CondOk env.cond:=inferInstanceAs (CondOk cnd)
abbrev bRow(l:List AVal):ABlk:=ABlk.made l 1 false
theorem puD_vp(m i n c:Nat)(l:List AVal)(K0:AExit→Facts→AHeap→Prop)(vc:some (AVal.bool (decide ((↑i:Int)<(↑m:Int))))=some (AVal.bool true)∧(0≤(↑i:Int)∧(↑i:Int)<(↑m:Int))∧aload (AEnv.D env) 5 ⟨37,0,0+Int.toNat (↑i:Int),0,1⟩ (AHeap.rowsT 44 [(37,(ABlk.made (l) 1 false))])=some (AVal.int IntKind.u8 (↑c:Int))∧some (AVal.bool ((↑c:Int) == 95))=some (AVal.bool false)∧some (AVal.bool (decide (48≤(↑c:Int))))=some (AVal.bool true)∧some (AVal.bool (decide ((↑c:Int)≤57)))=some (AVal.bool true)∧(0≤(↑c:Int)-48∧(↑c:Int)-48≤255)∧some (AVal.bool (decide ((↑c:Int)-48≥10)))=some (AVal.bool false)∧some (AVal.bool (decide ((↑n:Int)≥1844674407370955162)))=some (AVal.bool false)∧(0≤(↑n:Int)*10∧(↑n:Int)*10≤18446744073709551615)∧(0≤(↑c:Int)-48∧(↑c:Int)-48≤18446744073709551615)∧(0≤(↑n:Int)*10+((↑c:Int)-48)∧(↑n:Int)*10+((↑c:Int)-48)≤18446744073709551615)∧some (AVal.bool (decide ((↑n:Int)*10+((↑c:Int)-48)<(↑n:Int)*10)))=some (AVal.bool false)∧some (AVal.bool (decide ((↑n:Int)*10+((↑c:Int)-48)>9223372036854775807)))=some (AVal.bool false)∧(-9223372036854775808≤(↑i:Int)+1∧(↑i:Int)+1≤9223372036854775807)∧K0 AExit.normal [(1,AVal.int IntKind.i64 (10)),(8,AVal.bool false),(10,AVal.int IntKind.u64 (1844674407370955162)),(11,AVal.int IntKind.u64 (9223372036854775807)),(12,AVal.bool false),(13,AVal.int IntKind.u64 ((↑n:Int)*10+((↑c:Int)-48))),(99,AVal.slice (some ⟨37,0,0,0,1⟩) m m),(100,AVal.int IntKind.i64 (↑m:Int)),(101,AVal.int IntKind.i64 ((↑i:Int)+1))] (AHeap.rowsT 90 [(37,(ABlk.made (l) 1 false))])) :
    ∃ e F1 h1,Runs Tryz.prog cnd 0 172 (loopAt Tryz.prog 157 0) [(1,.int .i64 10),(8,.bool false),(10,.int .u64 1844674407370955162),(11,.int .u64 9223372036854775807),(12,.bool false),(13,.int .u64 n),(99,.slice (some ⟨37,0,0,0,1⟩) m m),(100,.int .i64 m),(101,.int .i64 i)] (AHeap.rows 40 [(37,bRow l)]) e F1 h1∧K0 e F1 h1 :=
  tpath_runs env_ok mixed noSpecs_ok (hs:= .hint (.val 36000 (AVal.bool true)) (.hint (.go 37000) (.hint (.val 37001 (AVal.int IntKind.u8 (↑c:Int))) (.hint (.val 40001 (AVal.bool false)) (.hint (.val 42001 (AVal.bool true)) (.hint (.val 42004 (AVal.bool true)) (.hint (.go 43001) (.hint (.val 46003 (AVal.bool false)) (.hint (.val 48002 (AVal.bool false)) (.hint (.go 50003) (.hint (.go 51002) (.hint (.go 51003) (.hint (.val 52002 (AVal.bool false)) (.hint (.val 52006 (AVal.bool false)) (.hint (.go 55000) .nil))))))))))))))) (keep:= [1,8,10,11,12,13,99,100,101,6,7]) (by kernel_rfl) vc
theorem puL_vp(m i n c:Nat)(l:List AVal)(K0:AExit→Facts→AHeap→Prop)(vc:some (AVal.bool (decide ((↑i:Int)<(↑m:Int))))=some (AVal.bool true)∧(0≤(↑i:Int)∧(↑i:Int)<(↑m:Int))∧aload (AEnv.D env) 5 ⟨37,0,0+Int.toNat (↑i:Int),0,1⟩ (AHeap.rowsT 44 [(37,(ABlk.made (l) 1 false))])=some (AVal.int IntKind.u8 (↑c:Int))∧some (AVal.bool ((↑c:Int) == 95))=some (AVal.bool false)∧some (AVal.bool (decide (48≤(↑c:Int))))=some (AVal.bool false)∧True∧(97≤ior IntKind.u8 (↑c:Int) (32)→True∧(ior IntKind.u8 (↑c:Int) (32)≤122→Agree [AVal.int IntKind.u8 (↑c:Int)] [AVal.int IntKind.u8 (↑c:Int)] (AHeap.rowsT 67 [(37,(ABlk.made (l) 1 false))]) (AHeap.rowsT 71 [(37,(ABlk.made (l) 1 false))]) (AVal.int IntKind.u8 (ior IntKind.u8 (↑c:Int) (32))) (AVal.int IntKind.u8 (ior IntKind.u8 (↑c:Int) (32))) (AHeap.rowsT 71 [(37,(ABlk.made (l) 1 false))]) (AHeap.rowsT 75 [(37,(ABlk.made (l) 1 false))])∧True∧(0≤ior IntKind.u8 (↑c:Int) 32-97∧ior IntKind.u8 (↑c:Int) 32-97≤255)∧(0≤ior IntKind.u8 (↑c:Int) 32-97+10∧ior IntKind.u8 (↑c:Int) 32-97+10≤255)∧some (AVal.bool (decide (ior IntKind.u8 (↑c:Int) 32-97+10≥10)))=some (AVal.bool true)∧K0 AExit.ret [(1,AVal.int IntKind.i64 (10)),(8,AVal.bool false),(10,AVal.int IntKind.u64 (1844674407370955162)),(11,AVal.int IntKind.u64 (9223372036854775807)),(12,AVal.bool false),(13,AVal.int IntKind.u64 (↑n:Int)),(99,AVal.slice (some ⟨37,0,0,0,1⟩) m m),(100,AVal.int IntKind.i64 (↑m:Int)),(101,AVal.int IntKind.i64 (↑i:Int)),(6,AVal.int IntKind.u64 (0)),(7,AVal.iface 211 (AVal.int IntKind.i64 (2)))] (AHeap.rowsT 91 [(37,(ABlk.made (l) 1 false))]))∧(¬ior IntKind.u8 (↑c:Int) (32)≤122→Agree [AVal.int IntKind.u8 (↑c:Int)] [AVal.int IntKind.u8 (↑c:Int)] (AHeap.rowsT 67 [(37,(ABlk.made (l) 1 false))]) (AHeap.rowsT 71 [(37,(ABlk.made (l) 1 false))]) (AVal.int IntKind.u8 (ior IntKind.u8 (↑c:Int) (32))) (AVal.int IntKind.u8 (ior IntKind.u8 (↑c:Int) (32))) (AHeap.rowsT 71 [(37,(ABlk.made (l) 1 false))]) (AHeap.rowsT 75 [(37,(ABlk.made (l) 1 false))])∧K0 AExit.ret [(1,AVal.int IntKind.i64 (10)),(8,AVal.bool false),(10,AVal.int IntKind.u64 (1844674407370955162)),(11,AVal.int IntKind.u64 (9223372036854775807)),(12,AVal.bool false),(13,AVal.int IntKind.u64 (↑n:Int)),(99,AVal.slice (some ⟨37,0,0,0,1⟩) m m),(100,AVal.int IntKind.i64 (↑m:Int)),(101,AVal.int IntKind.i64 (↑i:Int)),(6,AVal.int IntKind.u64 (0)),(7,AVal.iface 211 (AVal.int IntKind.i64 (2)))] (AHeap.rowsT 78 [(37,(ABlk.made (l) 1 false))])))∧(¬97≤ior IntKind.u8 (↑c:Int) (32)→K0 AExit.ret [(1,AVal.int IntKind.i64 (10)),(8,AVal.bool false),(10,AVal.int IntKind.u64 (1844674407370955162)),(11,AVal.int IntKind.u64 (9223372036854775807)),(12,AVal.bool false),(13,AVal.int IntKind.u64 (↑n:Int)),(99,AVal.slice (some ⟨37,0,0,0,1⟩) m m),(100,AVal.int IntKind.i64 (↑m:Int)),(101,AVal.int IntKind.i64 (↑i:Int)),(6,AVal.int IntKind.u64 (0)),(7,AVal.iface 211 (AVal.int IntKind.i64 (2)))] (AHeap.rowsT 74 [(37,(ABlk.made (l) 1 false))]))) :
    ∃ e F1 h1,Runs Tryz.prog cnd 0 172 (loopAt Tryz.prog 157 0) [(1,.int .i64 10),(8,.bool false),(10,.int .u64 1844674407370955162),(11,.int .u64 9223372036854775807),(12,.bool false),(13,.int .u64 n),(99,.slice (some ⟨37,0,0,0,1⟩) m m),(100,.int .i64 m),(101,.int .i64 i)] (AHeap.rows 40 [(37,bRow l)]) e F1 h1∧K0 e F1 h1 :=
  tpath_runs env_ok mixed noSpecs_ok (hs:= .hint (.val 36000 (AVal.bool true)) (.hint (.go 37000) (.hint (.val 37001 (AVal.int IntKind.u8 (↑c:Int))) (.hint (.val 40001 (AVal.bool false)) (.hint (.val 42001 (AVal.bool false)) (.hint (.enter 44001) (.hint (.go 1001) (.br 44002 (.hint (.enter 44005) (.hint (.go 1001) (.br 44006 (.hint (.enter 45001) (.hint (.go 1001) (.hint (.go 45002) (.hint (.go 45003) (.hint (.val 46003 (AVal.bool true)) .nil))))) .nil))) .nil)))))))) (keep:= [1,8,10,11,12,13,99,100,101,6,7]) (by kernel_rfl) vc
theorem puH_vp(m i n c:Nat)(l:List AVal)(K0:AExit→Facts→AHeap→Prop)(vc:some (AVal.bool (decide ((↑i:Int)<(↑m:Int))))=some (AVal.bool true)∧(0≤(↑i:Int)∧(↑i:Int)<(↑m:Int))∧aload (AEnv.D env) 5 ⟨37,0,0+Int.toNat (↑i:Int),0,1⟩ (AHeap.rowsT 44 [(37,(ABlk.made (l) 1 false))])=some (AVal.int IntKind.u8 (↑c:Int))∧some (AVal.bool ((↑c:Int) == 95))=some (AVal.bool false)∧some (AVal.bool (decide (48≤(↑c:Int))))=some (AVal.bool true)∧some (AVal.bool (decide ((↑c:Int)≤57)))=some (AVal.bool false)∧True∧(97≤ior IntKind.u8 (↑c:Int) (32)→True∧(ior IntKind.u8 (↑c:Int) (32)≤122→Agree [AVal.int IntKind.u8 (↑c:Int)] [AVal.int IntKind.u8 (↑c:Int)] (AHeap.rowsT 67 [(37,(ABlk.made (l) 1 false))]) (AHeap.rowsT 71 [(37,(ABlk.made (l) 1 false))]) (AVal.int IntKind.u8 (ior IntKind.u8 (↑c:Int) (32))) (AVal.int IntKind.u8 (ior IntKind.u8 (↑c:Int) (32))) (AHeap.rowsT 71 [(37,(ABlk.made (l) 1 false))]) (AHeap.rowsT 75 [(37,(ABlk.made (l) 1 false))])∧True∧(0≤ior IntKind.u8 (↑c:Int) 32-97∧ior IntKind.u8 (↑c:Int) 32-97≤255)∧(0≤ior IntKind.u8 (↑c:Int) 32-97+10∧ior IntKind.u8 (↑c:Int) 32-97+10≤255)∧some (AVal.bool (decide (ior IntKind.u8 (↑c:Int) 32-97+10≥10)))=some (AVal.bool true)∧K0 AExit.ret [(1,AVal.int IntKind.i64 (10)),(8,AVal.bool false),(10,AVal.int IntKind.u64 (1844674407370955162)),(11,AVal.int IntKind.u64 (9223372036854775807)),(12,AVal.bool false),(13,AVal.int IntKind.u64 (↑n:Int)),(99,AVal.slice (some ⟨37,0,0,0,1⟩) m m),(100,AVal.int IntKind.i64 (↑m:Int)),(101,AVal.int IntKind.i64 (↑i:Int)),(6,AVal.int IntKind.u64 (0)),(7,AVal.iface 211 (AVal.int IntKind.i64 (2)))] (AHeap.rowsT 91 [(37,(ABlk.made (l) 1 false))]))∧(¬ior IntKind.u8 (↑c:Int) (32)≤122→Agree [AVal.int IntKind.u8 (↑c:Int)] [AVal.int IntKind.u8 (↑c:Int)] (AHeap.rowsT 67 [(37,(ABlk.made (l) 1 false))]) (AHeap.rowsT 71 [(37,(ABlk.made (l) 1 false))]) (AVal.int IntKind.u8 (ior IntKind.u8 (↑c:Int) (32))) (AVal.int IntKind.u8 (ior IntKind.u8 (↑c:Int) (32))) (AHeap.rowsT 71 [(37,(ABlk.made (l) 1 false))]) (AHeap.rowsT 75 [(37,(ABlk.made (l) 1 false))])∧K0 AExit.ret [(1,AVal.int IntKind.i64 (10)),(8,AVal.bool false),(10,AVal.int IntKind.u64 (1844674407370955162)),(11,AVal.int IntKind.u64 (9223372036854775807)),(12,AVal.bool false),(13,AVal.int IntKind.u64 (↑n:Int)),(99,AVal.slice (some ⟨37,0,0,0,1⟩) m m),(100,AVal.int IntKind.i64 (↑m:Int)),(101,AVal.int IntKind.i64 (↑i:Int)),(6,AVal.int IntKind.u64 (0)),(7,AVal.iface 211 (AVal.int IntKind.i64 (2)))] (AHeap.rowsT 78 [(37,(ABlk.made (l) 1 false))])))∧(¬97≤ior IntKind.u8 (↑c:Int) (32)→K0 AExit.ret [(1,AVal.int IntKind.i64 (10)),(8,AVal.bool false),(10,AVal.int IntKind.u64 (1844674407370955162)),(11,AVal.int IntKind.u64 (9223372036854775807)),(12,AVal.bool false),(13,AVal.int IntKind.u64 (↑n:Int)),(99,AVal.slice (some ⟨37,0,0,0,1⟩) m m),(100,AVal.int IntKind.i64 (↑m:Int)),(101,AVal.int IntKind.i64 (↑i:Int)),(6,AVal.int IntKind.u64 (0)),(7,AVal.iface 211 (AVal.int IntKind.i64 (2)))] (AHeap.rowsT 74 [(37,(ABlk.made (l) 1 false))]))) :
    ∃ e F1 h1,Runs Tryz.prog cnd 0 172 (loopAt Tryz.prog 157 0) [(1,.int .i64 10),(8,.bool false),(10,.int .u64 1844674407370955162),(11,.int .u64 9223372036854775807),(12,.bool false),(13,.int .u64 n),(99,.slice (some ⟨37,0,0,0,1⟩) m m),(100,.int .i64 m),(101,.int .i64 i)] (AHeap.rows 40 [(37,bRow l)]) e F1 h1∧K0 e F1 h1 :=
  tpath_runs env_ok mixed noSpecs_ok (hs:= .hint (.val 36000 (AVal.bool true)) (.hint (.go 37000) (.hint (.val 37001 (AVal.int IntKind.u8 (↑c:Int))) (.hint (.val 40001 (AVal.bool false)) (.hint (.val 42001 (AVal.bool true)) (.hint (.val 42004 (AVal.bool false)) (.hint (.enter 44001) (.hint (.go 1001) (.br 44002 (.hint (.enter 44005) (.hint (.go 1001) (.br 44006 (.hint (.enter 45001) (.hint (.go 1001) (.hint (.go 45002) (.hint (.go 45003) (.hint (.val 46003 (AVal.bool true)) .nil))))) .nil))) .nil))))))))) (keep:= [1,8,10,11,12,13,99,100,101,6,7]) (by kernel_rfl) vc
theorem puU_vp(m i n c:Nat)(l:List AVal)(K0:AExit→Facts→AHeap→Prop)(vc:some (AVal.bool (decide ((↑i:Int)<(↑m:Int))))=some (AVal.bool true)∧(0≤(↑i:Int)∧(↑i:Int)<(↑m:Int))∧aload (AEnv.D env) 5 ⟨37,0,0+Int.toNat (↑i:Int),0,1⟩ (AHeap.rowsT 44 [(37,(ABlk.made (l) 1 false))])=some (AVal.int IntKind.u8 (↑c:Int))∧some (AVal.bool ((↑c:Int) == 95))=some (AVal.bool true)∧some (AVal.bool (decide (48≤(↑c:Int))))=some (AVal.bool true)∧some (AVal.bool (decide ((↑c:Int)≤57)))=some (AVal.bool false)∧True∧(97≤ior IntKind.u8 (↑c:Int) (32)→True∧(ior IntKind.u8 (↑c:Int) (32)≤122→Agree [AVal.int IntKind.u8 (↑c:Int)] [AVal.int IntKind.u8 (↑c:Int)] (AHeap.rowsT 67 [(37,(ABlk.made (l) 1 false))]) (AHeap.rowsT 71 [(37,(ABlk.made (l) 1 false))]) (AVal.int IntKind.u8 (ior IntKind.u8 (↑c:Int) (32))) (AVal.int IntKind.u8 (ior IntKind.u8 (↑c:Int) (32))) (AHeap.rowsT 71 [(37,(ABlk.made (l) 1 false))]) (AHeap.rowsT 75 [(37,(ABlk.made (l) 1 false))])∧True∧(0≤ior IntKind.u8 (↑c:Int) 32-97∧ior IntKind.u8 (↑c:Int) 32-97≤255)∧(0≤ior IntKind.u8 (↑c:Int) 32-97+10∧ior IntKind.u8 (↑c:Int) 32-97+10≤255)∧some (AVal.bool (decide (ior IntKind.u8 (↑c:Int) 32-97+10≥10)))=some (AVal.bool true)∧K0 AExit.ret [(1,AVal.int IntKind.i64 (10)),(8,AVal.bool false),(10,AVal.int IntKind.u64 (1844674407370955162)),(11,AVal.int IntKind.u64 (9223372036854775807)),(12,AVal.bool false),(13,AVal.int IntKind.u64 (↑n:Int)),(99,AVal.slice (some ⟨37,0,0,0,1⟩) m m),(100,AVal.int IntKind.i64 (↑m:Int)),(101,AVal.int IntKind.i64 (↑i:Int)),(6,AVal.int IntKind.u64 (0)),(7,AVal.iface 211 (AVal.int IntKind.i64 (2)))] (AHeap.rowsT 91 [(37,(ABlk.made (l) 1 false))]))∧(¬ior IntKind.u8 (↑c:Int) (32)≤122→Agree [AVal.int IntKind.u8 (↑c:Int)] [AVal.int IntKind.u8 (↑c:Int)] (AHeap.rowsT 67 [(37,(ABlk.made (l) 1 false))]) (AHeap.rowsT 71 [(37,(ABlk.made (l) 1 false))]) (AVal.int IntKind.u8 (ior IntKind.u8 (↑c:Int) (32))) (AVal.int IntKind.u8 (ior IntKind.u8 (↑c:Int) (32))) (AHeap.rowsT 71 [(37,(ABlk.made (l) 1 false))]) (AHeap.rowsT 75 [(37,(ABlk.made (l) 1 false))])∧K0 AExit.ret [(1,AVal.int IntKind.i64 (10)),(8,AVal.bool false),(10,AVal.int IntKind.u64 (1844674407370955162)),(11,AVal.int IntKind.u64 (9223372036854775807)),(12,AVal.bool false),(13,AVal.int IntKind.u64 (↑n:Int)),(99,AVal.slice (some ⟨37,0,0,0,1⟩) m m),(100,AVal.int IntKind.i64 (↑m:Int)),(101,AVal.int IntKind.i64 (↑i:Int)),(6,AVal.int IntKind.u64 (0)),(7,AVal.iface 211 (AVal.int IntKind.i64 (2)))] (AHeap.rowsT 78 [(37,(ABlk.made (l) 1 false))])))∧(¬97≤ior IntKind.u8 (↑c:Int) (32)→K0 AExit.ret [(1,AVal.int IntKind.i64 (10)),(8,AVal.bool false),(10,AVal.int IntKind.u64 (1844674407370955162)),(11,AVal.int IntKind.u64 (9223372036854775807)),(12,AVal.bool false),(13,AVal.int IntKind.u64 (↑n:Int)),(99,AVal.slice (some ⟨37,0,0,0,1⟩) m m),(100,AVal.int IntKind.i64 (↑m:Int)),(101,AVal.int IntKind.i64 (↑i:Int)),(6,AVal.int IntKind.u64 (0)),(7,AVal.iface 211 (AVal.int IntKind.i64 (2)))] (AHeap.rowsT 74 [(37,(ABlk.made (l) 1 false))]))) :
    ∃ e F1 h1,Runs Tryz.prog cnd 0 172 (loopAt Tryz.prog 157 0) [(1,.int .i64 10),(8,.bool false),(10,.int .u64 1844674407370955162),(11,.int .u64 9223372036854775807),(12,.bool false),(13,.int .u64 n),(99,.slice (some ⟨37,0,0,0,1⟩) m m),(100,.int .i64 m),(101,.int .i64 i)] (AHeap.rows 40 [(37,bRow l)]) e F1 h1∧K0 e F1 h1 :=
  tpath_runs env_ok mixed noSpecs_ok (hs:= .hint (.val 36000 (AVal.bool true)) (.hint (.go 37000) (.hint (.val 37001 (AVal.int IntKind.u8 (↑c:Int))) (.hint (.val 40001 (AVal.bool true)) (.hint (.val 42001 (AVal.bool true)) (.hint (.val 42004 (AVal.bool false)) (.hint (.enter 44001) (.hint (.go 1001) (.br 44002 (.hint (.enter 44005) (.hint (.go 1001) (.br 44006 (.hint (.enter 45001) (.hint (.go 1001) (.hint (.go 45002) (.hint (.go 45003) (.hint (.val 46003 (AVal.bool true)) .nil))))) .nil))) .nil))))))))) (keep:= [1,8,10,11,12,13,99,100,101,6,7]) (by kernel_rfl) vc
theorem puE_vp(m i n c:Nat)(l:List AVal)(K0:AExit→Facts→AHeap→Prop)(vc:some (AVal.bool (decide ((↑i:Int)<(↑m:Int))))=some (AVal.bool false)∧K0 (AExit.exit 3) [(1,AVal.int IntKind.i64 (10)),(8,AVal.bool false),(10,AVal.int IntKind.u64 (1844674407370955162)),(11,AVal.int IntKind.u64 (9223372036854775807)),(12,AVal.bool false),(13,AVal.int IntKind.u64 (↑n:Int)),(99,AVal.slice (some ⟨37,0,0,0,1⟩) m m),(100,AVal.int IntKind.i64 (↑m:Int)),(101,AVal.int IntKind.i64 (↑i:Int))] (AHeap.rowsT 41 [(37,(ABlk.made (l) 1 false))])) :
    ∃ e F1 h1,Runs Tryz.prog cnd 0 172 (loopAt Tryz.prog 157 0) [(1,.int .i64 10),(8,.bool false),(10,.int .u64 1844674407370955162),(11,.int .u64 9223372036854775807),(12,.bool false),(13,.int .u64 n),(99,.slice (some ⟨37,0,0,0,1⟩) m m),(100,.int .i64 m),(101,.int .i64 i)] (AHeap.rows 40 [(37,bRow l)]) e F1 h1∧K0 e F1 h1 :=
  tpath_runs env_ok mixed noSpecs_ok (hs:= .hint (.val 36000 (AVal.bool false)) .nil) (keep:= [1,8,10,11,12,13,99,100,101,6,7]) (by kernel_rfl) vc
theorem pu_vc(s:List UInt8)(m:Nat)(nv:AVal)(h':AHeap)(K0:AVal→AHeap→Prop)(vc:some (AVal.bool (s == Array.toList #[]))=some (AVal.bool false)∧Runs Tryz.prog cnd 0 172 (Code.loop (loopAt Tryz.prog 157 0)) [(1,AVal.int IntKind.i64 (10)),(8,AVal.bool false),(10,AVal.int IntKind.u64 (1844674407370955162)),(11,AVal.int IntKind.u64 (9223372036854775807)),(12,AVal.bool false),(13,AVal.int IntKind.u64 (0)),(99,AVal.slice (some ⟨37,0,0,0,1⟩) (List.length s) (List.length s)),(100,AVal.int IntKind.i64 (↑(List.length s):Int)),(101,AVal.int IntKind.i64 (0))] (AHeap.rowsT 40 [(37,ABlk.made (List.map (fun b=>AVal.int IntKind.u8 (↑(UInt8.toNat b):Int)) s) 1 false)]) (AExit.exit 3) [(12,AVal.bool false),(13,nv)] h'∧K0 (AVal.tuple [nv,AVal.nilIface]) (AHeap.mk (AHeap.next h'+6+3) (AHeap.blks (AHeap.mk (AHeap.next h'+6) (AHeap.blks h'))))) :
    ∃ v h1,FDoes Tryz.prog cnd 157 [.str s,.int .i64 10,.int .i64 63] (⟨0,.nil⟩) v h1∧K0 v h1 :=
  tcall_does env_ok mixed noSpecs_ok (hs:= .hint (.val 1001 (AVal.bool false)) (.hint (.keep [1,8,10,11,12,13,99,100,101]) (.hint (.loop [(12,AVal.bool false),(13,nv)] h' (AExit.exit 3)) .nil))) (by kernel_rfl) vc
theorem puR_vc(s:List UInt8)(m:Nat)(nv:AVal)(h':AHeap)(K0:AVal→AHeap→Prop)(vc:some (AVal.bool (s == Array.toList #[]))=some (AVal.bool false)∧Runs Tryz.prog cnd 0 172 (Code.loop (loopAt Tryz.prog 157 0)) [(1,AVal.int IntKind.i64 (10)),(8,AVal.bool false),(10,AVal.int IntKind.u64 (1844674407370955162)),(11,AVal.int IntKind.u64 (9223372036854775807)),(12,AVal.bool false),(13,AVal.int IntKind.u64 (0)),(99,AVal.slice (some ⟨37,0,0,0,1⟩) (List.length s) (List.length s)),(100,AVal.int IntKind.i64 (↑(List.length s):Int)),(101,AVal.int IntKind.i64 (0))] (AHeap.rowsT 40 [(37,ABlk.made (List.map (fun b=>AVal.int IntKind.u8 (↑(UInt8.toNat b):Int)) s) 1 false)]) AExit.ret [(6,AVal.int IntKind.u64 0),(7,AVal.iface 211 (AVal.int IntKind.i64 2))] h'∧K0 (AVal.tuple [AVal.int IntKind.u64 (0),AVal.iface 211 (AVal.int IntKind.i64 (2))]) h') :
    ∃ v h1,FDoes Tryz.prog cnd 157 [.str s,.int .i64 10,.int .i64 63] (⟨0,.nil⟩) v h1∧K0 v h1 :=
  tcall_does env_ok mixed noSpecs_ok (hs:= .hint (.val 1001 (AVal.bool false)) (.hint (.keep [1,8,10,11,12,13,99,100,101]) (.hint (.loop [(6,AVal.int IntKind.u64 0),(7,AVal.iface 211 (AVal.int IntKind.i64 2))] h' AExit.ret) .nil))) (by kernel_rfl) vc
end Go.Proofs.YtjpfnbihopoeeaaGreatDoor
namespace Go.Proofs.YtjpfnbihopoeeaaGreatDoor
open Go.Lift
abbrev Bys:=List UInt8
end Go.Proofs.YtjpfnbihopoeeaaGreatDoor
namespace Go.Proofs.YtjpfnbihopoeeaaGreatDoor
open Go.Lift
set_option maxRecDepth 1000000
end Go.Proofs.YtjpfnbihopoeeaaGreatDoor
namespace Go.Proofs.YtjpfnbihopoeeaaGreatDoor
open Go.Lift Go.Shelf Go.RowKit
set_option maxRecDepth 1000000
end Go.Proofs.YtjpfnbihopoeeaaGreatDoor
namespace Go.Lift
noncomputable section
open Go.RowKit
theorem lookF_mem {F:Facts}{t:Nat}{v:AVal}(hv:lookF F t=some v):(t,v)∈F:=by
  induction F with
  | nil=>cases hv
  | cons p r ih =>
    obtain⟨k,u⟩:=p
    rw [lookF_cons]at hv
    split at hv
    · rename_i e;simp only [Option.some.injEq]at hv;subst e;subst hv;simp
    · exact List.mem_cons_of_mem _ (ih hv)
theorem lookF_map {F:Facts}{g:AVal→AVal}{t:Nat}{v:AVal}(hv:lookF F t=some v):lookF (F.map fun p=>(p.1,g p.2)) t=some (g v):=by
  induction F with
  | nil=>cases hv
  | cons p r ih =>
    obtain⟨k,u⟩:=p
    rw [List.map_cons,lookF_cons]
    rw [lookF_cons]at hv
    split at hv
    · rename_i e;simp only [Option.some.injEq]at hv;subst hv;rw [if_pos e]
    · rename_i e;rw [if_neg e];exact ih hv
theorem Ent.move {base n:Nat}{F F1:Facts}{h:AHeap}{K:Nat}{l:List (Nat×ABlk)}(r:Nat→Nat)(hl:l.map (fun p=>h.get (r p.1))=l.map (fun p=>some (p.2.ren r)))(hK:l.all (fun p=>Nat.blt p.1 K)=true)
    (hr:((l.map (·.1)).map r).Nodup) (hb:(List.range base).all (fun i=>(l.map (·.1)).contains i && Nat.beq (r i) i)=true) (hnew:l.all (fun p=>Nat.blt p.1 base || Nat.ble base (r p.1))=true)
    (hFF:F=F1.map fun p=>(p.1,p.2.ren r)) (hn:F1.all (fun p=>Nat.blt p.1 n)=true) (hF:All (F1.map fun p=>Clo (Ids (l.map (·.1))) p.2))
    (hc:All (l.map fun p=> ∀ e∈p.2.elems,Clo (Ids (l.map (·.1))) e)):Ent base n F h F1 (AHeap.rows K l):=by
  have hget: ∀ i b,(AHeap.rows K l).get i=some b→i<K∧h.get (r i)=some (b.ren r):=by
    intro i b k
    have hm:=AHeap.rows_get k
    refine⟨Nat.blt_eq.mp (List.all_eq_true.1 hK _ hm),?_⟩
    obtain⟨j,hj,e⟩:=List.mem_iff_getElem.1 hm
    have h1:=congrArg (fun(x:List (Option ABlk))=>x[j]?) hl
    simp only [List.getElem?_map,List.getElem?_eq_getElem hj,Option.map_some,e,Option.some.injEq]at h1
    exact h1
  have hmono: ∀ {v:AVal},Clo (Ids (l.map (·.1))) v→Clo (In (AHeap.rows K l)) v:=Clo.mono fun i hi=>AHeap.rows_in hi
  subst hFF
  refine Ent.ren (r:=r) ⟨fun i b k=>⟨by rw [AHeap.rows_next];exact(hget i b k).1,(hget i b k).2⟩,?_,?_⟩ ?_ ?_ ?_ ?_
  · intro i j hi hj e
    have hi:=AHeap.rows_in_of hi
    have hj:=AHeap.rows_in_of hj
    obtain⟨a,ha,rfl⟩:=List.mem_iff_getElem.1 hi
    obtain⟨b,hb',rfl⟩:=List.mem_iff_getElem.1 hj
    have h1:((l.map (·.1)).map r)[a]'(by simpa using ha)=((l.map (·.1)).map r)[b]'(by simpa using hb'):=by simpa using e
    have:=(List.getElem_inj hr).1 h1
    subst this;rfl
  · intro i b k e he
    have hm:=AHeap.rows_get k
    exact hmono (hc _ (List.mem_map.2 ⟨_,hm,rfl⟩) e he)
  · intro t v hv
    have hm:=lookF_mem hv
    exact⟨Nat.blt_eq.mp (List.all_eq_true.1 hn _ hm),lookF_map hv,hmono (hF _ (List.mem_map.2 ⟨_,hm,rfl⟩))⟩
  · intro i hi _
    have:=List.all_eq_true.1 hb i (List.mem_range.2 hi)
    simp only [Bool.and_eq_true]at this
    exact AHeap.rows_in (by simpa using this.1)
  · intro i hi _
    have:=List.all_eq_true.1 hb i (List.mem_range.2 hi)
    simp only [Bool.and_eq_true]at this
    exact Nat.eq_of_beq_eq_true this.2
  · intro i hi hlt
    have hi:=AHeap.rows_in_of hi
    obtain⟨p,hm,rfl⟩:=List.mem_map.1 hi
    have:=List.all_eq_true.1 hnew p hm
    simp only [Bool.or_eq_true]at this
    rcases this with h1 | h1
    · exact Nat.blt_eq.mp h1
    · have:=Nat.le_of_ble_eq_true h1;omega
end
end Go.Lift
namespace Go.Proofs.YtjpfnbihopoeeaaGreatDoor
open Go.Lift
set_option maxRecDepth 1000000
end Go.Proofs.YtjpfnbihopoeeaaGreatDoor
namespace Go.Proofs.YtjpfnbihopoeeaaGreatDoor
open Go.Lift
set_option maxRecDepth 1000000
end Go.Proofs.YtjpfnbihopoeeaaGreatDoor
namespace Go.Proofs.YtjpfnbihopoeeaaGreatDoor
open Go.Lift
set_option maxRecDepth 1000000
end Go.Proofs.YtjpfnbihopoeeaaGreatDoor
namespace Go.Proofs.YtjpfnbihopoeeaaGreatDoor
open Go.Lift
set_option maxRecDepth 1000000
def dig(c:UInt8):Bool:=decide (48≤c.toNat) && decide (c.toNat≤57)
def valN:Nat→Bytes→Nat
  | n,[]=>n
  | n,c::r=>valN (n*10+(c.toNat-48)) r
abbrev puF(m n i:Nat):Facts:= [(1,.int .i64 10),(8,.bool false),(10,.int .u64 1844674407370955162),(11,.int .u64 9223372036854775807),(12,.bool false),(13,.int .u64 (n:Nat)),(99,.slice (some ⟨37,0,0,0,1⟩) m m),(100,.int .i64 (m:Nat)),(101,.int .i64 (i:Nat))]
noncomputable abbrev puC:Code:=loopAt Tryz.prog 157 0
theorem clo37 {n l c:Nat} :Clo (Go.Lift.Ids [37]) (.slice (some ⟨37,n,0,0,1⟩) l c):=(by show(37:Nat)∈ [37];simp)
theorem bytesA_bareB(s:Bytes):BareB (bRow (bytesA s)):=by
  intro e he
  simp only [ABlk.made,bytesA,List.mem_map]at he
  obtain⟨b,_,rfl⟩:=he
  exact Bare.int _ _
theorem pu_ent(s:Bytes)(m n i:Nat)(h:AHeap)(hg:h.get 37=some (bRow (bytesA s))):Ent 0 172 (puF m n i) h (puF m n i) (AHeap.rows 40 [(37,bRow (bytesA s))]) :=
  Ent.drop (K:=40) (l:= [(37,bRow (bytesA s))]) (by simp [hg]) rfl rfl (by rfl) (by
    refine All.cons trivial (All.cons trivial (All.cons trivial (All.cons trivial (All.cons trivial (All.cons trivial (All.cons clo37 (All.cons trivial (All.cons trivial All.nil))))))))) (by
    refine All.cons (fun e he=>(bytesA_bareB s e he).clo _) All.nil)
theorem ld_byte(s:Bytes)(i:Nat)(hi:i<s.length){h:AHeap}(hg:h.get 37=some (bRow (bytesA s))):aload (AEnv.D env) 5 ⟨37,0,0+Int.toNat (i:Int),0,1⟩ h=some (.int .u8 ((s[i]).toNat:Nat)):=by
  have hD:(AEnv.D env 5).map (fun d=>d.kind.isAgg)=some false:=by kernel_rfl
  obtain⟨d,h1,h2⟩:=Option.map_eq_some_iff.1 hD
  have e:(bRow (bytesA s)).elem? 0 i=some (.int .u8 ((s[i]).toNat:Nat)):=by simp [ABlk.elem?,ABlk.lim,ABlk.made,bytesA,hi]
  unfold aload
  rw [h1,hg]
  simp only [show 0+Int.toNat (i:Int)=i by simp,e,loadElem,h2,Bool.false_eq_true,if_false,if_true]
theorem puD_loop (s:Bytes) (hs:s.length≤15): ∀ (k i n:Nat),s.length-i≤k→i≤s.length→n<10^i→(s.drop i).all dig=true→ ∃ h',
    Loops Tryz.prog cnd 0 172 puC (puF s.length n i) (AHeap.rows 40 [(37,bRow (bytesA s))]) (.exit 3) [(12,.bool false),(13,.int .u64 (valN n (s.drop i):Nat))] h':=by
  have last: ∀ n,∃ h',Loops Tryz.prog cnd 0 172 puC (puF s.length n s.length) (AHeap.rows 40 [(37,bRow (bytesA s))]) (.exit 3) [(12,.bool false),(13,.int .u64 (valN n (s.drop s.length):Nat))] h':=by
    intro n
    obtain⟨e,F1,h1,hr,rfl,rfl,rfl⟩:=puE_vp s.length s.length n 0 (bytesA s) (fun e F1 h1=>e= .exit 3∧F1=puF s.length n s.length∧h1=AHeap.rowsT 41 [(37,bRow (bytesA s))]) ⟨by simp,rfl,rfl,rfl⟩
    rw [List.drop_length]
    exact⟨_,(Loops.last (by simp) hr).post (Ent.facts (by
      intro j u hu
      simp only [lookF_cons]at hu ⊢
      split at hu
      · rename_i hj;subst hj;rw [← hu];rfl
      · split at hu
        · rename_i hj;subst hj;rw [← hu];rfl
        · cases hu))⟩
  intro k
  induction k with
  | zero => intro i n hk hi hn hd;obtain rfl:i=s.length:=by omega
            exact last n
  | succ k ih =>
    intro i n hk hi hn hd
    by_cases hc:i<s.length
    · have e1:s.drop i=s[i]::s.drop (i+1):=List.drop_eq_getElem_cons hc
      rw [e1]at hd ⊢
      simp only [List.all_cons,Bool.and_eq_true,dig,decide_eq_true_eq]at hd
      have hp:(10:Nat)^i≤10^14:=Nat.pow_le_pow_right (by decide) (by omega)
      have hq:(10:Nat)^14=100000000000000:=by decide
      obtain⟨e,F1,h2,hr,rfl,rfl,hg⟩:=puD_vp s.length i n (s[i]).toNat (bytesA s) (fun e F1 h2=>e= .normal∧F1=puF s.length (n*10+((s[i]).toNat-48)) (i+1)∧h2.get 37=some (bRow (bytesA s))) (by
        refine⟨by simp [hc],⟨by omega,by omega⟩,ld_byte s i hc (by kernel_rfl),by simp;omega,by simp;omega,by simp;omega,⟨by omega,by omega⟩,by simp;omega,by simp;omega,⟨by omega,by omega⟩,⟨by omega,by omega⟩,⟨by omega,by omega⟩,by simp;omega,by simp;omega,⟨by omega,by omega⟩,rfl,?_,by kernel_rfl⟩
        unfold puF
        rw [show((n:Int)*10+(((s[i]).toNat:Nat)-48:Int))=((n*10+((s[i]).toNat-48):Nat):Int)by omega,show((i:Int)+1)=((i+1:Nat):Int)by omega])
      obtain⟨h',hl⟩:=ih (i+1) (n*10+((s[i]).toNat-48)) (by omega) (by omega) (by rw [Nat.pow_succ];omega) (by simpa [dig]using hd.2)
      exact⟨h',Loops.round hr (pu_ent s _ _ _ _ hg) hl⟩
    · obtain rfl:i=s.length:=by omega
      exact last n
abbrev puX:Facts:= [(6,.int .u64 0),(7,.iface 211 (.int .i64 2))]
theorem ior_ge(c:Nat)(h:c<256):(97:Int)≤ior .u8 (c:Int) 32→ior .u8 (c:Int) 32≤122→(0≤ior .u8 (c:Int) 32-97∧ior .u8 (c:Int) 32-97≤255)∧(0≤ior .u8 (c:Int) 32-97+10∧ior .u8 (c:Int) 32-97+10≤255)∧ior .u8 (c:Int) 32-97+10≥10:=by
  intro h1 h2;omega
theorem puX_facts {F:Facts}{h:AHeap}(h6:lookF F 6=some (.int .u64 0))(h7:lookF F 7=some (.iface 211 (.int .i64 2))):Ent 0 172 F h puX h :=
  Ent.facts (by
    intro j u hu
    simp only [lookF_cons]at hu
    split at hu
    · rename_i hj;subst hj;rw [← hu];exact h6
    · split at hu
      · rename_i hj;subst hj;rw [← hu];exact h7
      · cases hu)
theorem agree_of {a b:List AVal}{h k h' k':AHeap}{v u:AVal}(e:h.next≠k.next):Agree a b h k v u h' k':=⟨fun _ q=>absurd (congrArg AHeap.next q) e⟩
theorem puX_round (s:Bytes) (i n:Nat) (hc:i<s.length) (hl:s.length≤15) (hd:dig s[i]=false): ∃ h',Runs Tryz.prog cnd 0 172 puC (puF s.length n i) (AHeap.rows 40 [(37,bRow (bytesA s))]) .ret puX h':=by
  have h256:(s[i]).toNat<256:=(s[i]).toNat_lt
  have ld: ∀ h:AHeap,h.get 37=some (bRow (bytesA s))→aload (AEnv.D env) 5 ⟨37,0,0+Int.toNat (i:Int),0,1⟩ h=some (.int .u8 ((s[i]).toNat:Nat)):=fun h hg=>ld_byte s i hc hg
  have hd: ¬ (48≤(s[i]).toNat∧(s[i]).toNat≤57):=by simpa [dig]using hd
  generalize (s[i]).toNat=c at h256 ld hd
  have fin: ∀ {e:AExit} {F1:Facts} {h1:AHeap},Runs Tryz.prog cnd 0 172 puC (puF s.length n i) (AHeap.rows 40 [(37,bRow (bytesA s))]) e F1 h1→e= .ret∧lookF F1 6=some (.int .u64 0)∧lookF F1 7=some (.iface 211 (.int .i64 2))→ ∃ h',Runs Tryz.prog cnd 0 172 puC (puF s.length n i) (AHeap.rows 40 [(37,bRow (bytesA s))]) .ret puX h':=by
    rintro e F1 h1 hr ⟨rfl,h6,h7⟩
    exact⟨_,hr.post (puX_facts h6 h7)⟩
  by_cases c48:48≤c
  · by_cases c95:c=95
    · subst c95
      obtain⟨e,F1,h1,hr,hk⟩:=puU_vp s.length i n 95 (bytesA s) (fun e F1 h1=>e= .ret∧lookF F1 6=some (.int .u64 0)∧lookF F1 7=some (.iface 211 (.int .i64 2))) (by
        refine⟨by simp [hc],⟨by omega,by omega⟩,ld _ (by kernel_rfl),by simp,by simp,by simp,?_⟩
        exact⟨trivial,fun a1=>⟨trivial,fun a2=>⟨agree_of (by show(67:Nat)≠71;decide),trivial,(ior_ge 95 h256 a1 a2).1,(ior_ge 95 h256 a1 a2).2.1,by simp;have:=(ior_ge 95 h256 a1 a2).2.2;omega,rfl,rfl,rfl⟩,fun a2=>⟨agree_of (by show(67:Nat)≠71;decide),rfl,rfl,rfl⟩⟩,fun a1=>⟨rfl,rfl,rfl⟩⟩)
      exact fin hr hk
    · obtain⟨e,F1,h1,hr,hk⟩:=puH_vp s.length i n c (bytesA s) (fun e F1 h1=>e= .ret∧lookF F1 6=some (.int .u64 0)∧lookF F1 7=some (.iface 211 (.int .i64 2))) (by
        refine⟨by simp [hc],⟨by omega,by omega⟩,ld _ (by kernel_rfl),by simp;omega,by simp;omega,by simp;omega,?_⟩
        exact⟨trivial,fun a1=>⟨trivial,fun a2=>⟨agree_of (by show(67:Nat)≠71;decide),trivial,(ior_ge c h256 a1 a2).1,(ior_ge c h256 a1 a2).2.1,by simp;have:=(ior_ge c h256 a1 a2).2.2;omega,rfl,rfl,rfl⟩,fun a2=>⟨agree_of (by show(67:Nat)≠71;decide),rfl,rfl,rfl⟩⟩,fun a1=>⟨rfl,rfl,rfl⟩⟩)
      exact fin hr hk
  · obtain⟨e,F1,h1,hr,hk⟩:=puL_vp s.length i n c (bytesA s) (fun e F1 h1=>e= .ret∧lookF F1 6=some (.int .u64 0)∧lookF F1 7=some (.iface 211 (.int .i64 2))) (by
      refine⟨by simp [hc],⟨by omega,by omega⟩,ld _ (by kernel_rfl),by simp;omega,by simp;omega,?_⟩
      exact⟨trivial,fun a1=>⟨trivial,fun a2=>⟨agree_of (by show(67:Nat)≠71;decide),trivial,(ior_ge c h256 a1 a2).1,(ior_ge c h256 a1 a2).2.1,by simp;have:=(ior_ge c h256 a1 a2).2.2;omega,rfl,rfl,rfl⟩,fun a2=>⟨agree_of (by show(67:Nat)≠71;decide),rfl,rfl,rfl⟩⟩,fun a1=>⟨rfl,rfl,rfl⟩⟩)
    exact fin hr hk
theorem puX_loop (s:Bytes) (hs:s.length≤15): ∀ (k i n:Nat),s.length-i≤k→n<10^i→(s.drop i).all dig=false→ ∃ h',
    Loops Tryz.prog cnd 0 172 puC (puF s.length n i) (AHeap.rows 40 [(37,bRow (bytesA s))]) .ret puX h':=by
  intro k
  induction k with
  | zero=>intro i n hk hn hd;rw [List.drop_eq_nil_of_le (by omega)]at hd;simp at hd
  | succ k ih =>
    intro i n hk hn hd
    by_cases hc:i<s.length
    · have e1:s.drop i=s[i]::s.drop (i+1):=List.drop_eq_getElem_cons hc
      rw [e1]at hd
      cases hdig:dig s[i]with
      | false =>
        obtain⟨h',hr⟩:=puX_round s i n hc hs hdig
        exact⟨h',Loops.last (by simp) hr⟩
      | true =>
        rw [List.all_cons,hdig,Bool.true_and]at hd
        simp only [dig,Bool.and_eq_true,decide_eq_true_eq]at hdig
        have hp:(10:Nat)^i≤10^14:=Nat.pow_le_pow_right (by decide) (by omega)
        have hq:(10:Nat)^14=100000000000000:=by decide
        obtain⟨e,F1,h2,hr,rfl,rfl,hg⟩:=puD_vp s.length i n (s[i]).toNat (bytesA s) (fun e F1 h2=>e= .normal∧F1=puF s.length (n*10+((s[i]).toNat-48)) (i+1)∧h2.get 37=some (bRow (bytesA s))) (by
          refine⟨by simp [hc],⟨by omega,by omega⟩,ld_byte s i hc (by kernel_rfl),by simp;omega,by simp;omega,by simp;omega,⟨by omega,by omega⟩,by simp;omega,by simp;omega,⟨by omega,by omega⟩,⟨by omega,by omega⟩,⟨by omega,by omega⟩,by simp;omega,by simp;omega,⟨by omega,by omega⟩,rfl,?_,by kernel_rfl⟩
          unfold puF
          rw [show((n:Int)*10+(((s[i]).toNat:Nat)-48:Int))=((n*10+((s[i]).toNat-48):Nat):Int)by omega,show((i:Int)+1)=((i+1:Nat):Int)by omega])
        obtain⟨h',hl⟩:=ih (i+1) (n*10+((s[i]).toNat-48)) (by omega) (by rw [Nat.pow_succ];omega) hd
        exact⟨h',Loops.round hr (pu_ent s _ _ _ _ hg) hl⟩
    · rw [List.drop_eq_nil_of_le (by omega)]at hd;simp at hd
theorem pu_head(s:Bytes){F:Facts}{h:AHeap}{e:AExit}{F':Facts}{h':AHeap}(hl:Loops Tryz.prog cnd 0 172 puC (puF s.length 0 0) (AHeap.rows 40 [(37,bRow (bytesA s))]) e F' h')(he:F=puF s.length 0 0)(hg:h.get 37=some (bRow (bytesA s))):Runs Tryz.prog cnd 0 172 (.loop puC) F h e F' h':=by
  subst he
  exact(Runs.of_loops hl).pre (pu_ent s _ _ _ _ hg)
theorem pui_does(s:Bytes)(h0:s≠ [])(hs:s.length≤15)(H:AHeap):FDoes Tryz.prog cnd 157 [.str s,.int .i64 10,.int .i64 63] H
    (if s.all dig=true then .tuple [.int .u64 (valN 0 s:Nat),.nilIface]else .tuple [.int .u64 0,.iface 211 (.int .i64 2)]) H:=by
  have hne:some (AVal.bool (s == Array.toList #[]))=some (AVal.bool false):=by
    have:(s == Array.toList #[])=false:=by cases s with
      | nil=>exact absurd rfl h0
      | cons a r=>rfl
    rw [this]
  by_cases hd:s.all dig=true
  · rw [if_pos hd]
    obtain⟨h',hl⟩:=puD_loop s hs s.length 0 0 (by omega) (by omega) (by decide) (by simpa using hd)
    refine FDoes.ofVC (pu_vc s 0 (.int .u64 (valN 0 s:Nat)) h' (fun v _=>v= .tuple [.int .u64 (valN 0 s:Nat),.nilIface]) ⟨hne,?_,rfl⟩) rfl rfl H
    exact pu_head s (by simpa using hl) rfl (by kernel_rfl)
  · rw [if_neg hd]
    obtain⟨h',hl⟩:=puX_loop s hs s.length 0 0 (by omega) (by decide) (by simpa using hd)
    refine FDoes.ofVC (puR_vc s 0 .undef h' (fun v _=>v= .tuple [.int .u64 0,.iface 211 (.int .i64 2)]) ⟨hne,?_,rfl⟩) rfl rfl H
    exact pu_head s (by simpa using hl) rfl (by kernel_rfl)
end Go.Proofs.YtjpfnbihopoeeaaGreatDoor
namespace Go.Proofs.YtjpfnbihopoeeaaGreatDoor
open Go.Lift Go.Shelf Go.RowKit
set_option maxRecDepth 1000000
theorem err_does(s:Bytes)(hs:s.length≤2^20)(H:AHeap):FDoes Tryz.prog cnd 158 [.str [80,97,114,115,101,85,105,110,116],.str s,.int .i64 10,.int .i64 63,.iface 211 (.int .i64 2)] H (.iface 214 .undef) H:=by
  intro N0 w0 hN hC φ w args' hH hB hA
  exact err_ok N0 w0 hN hC _ _ _ _ (by unfold errPrim;simp only;rw [if_pos ⟨by decide,hs⟩];rfl) φ w args' hH hB hA
theorem repeat_does(s:Bytes)(c:Nat)(hs:s.length≤2^20)(hc:c≤2^20)(H:AHeap):FDoes Tryz.prog cnd 63 [.str s,.int .i64 c] H (.str (Lib.repeatL s c)) H:=by
  intro N0 w0 hN hC φ w args' hH hB hA
  exact repeat_ok lays105 extraB ⟨Tryz.f63,_,Tryz.func63,rfl⟩ N0 w0 hN hC _ _ _ _ (by unfold repeatPrim;simp only;rw [if_pos ⟨by omega,by omega,hs⟩];simp) φ w args' hH hB hA
def rhoI:Ren where
  f:=fun x=>if x=213 then 121 else if x=217 then 205 else if x=219 then 173 else if x=224 then 207 else if x=225 then 206 else if x=265 then 159 else if x=266 then 229 else if x=267 then 208 else if x=314 then 230 else 0
  t:=fun x=>if x=3 then 3 else if x=4 then 4 else if x=5 then 5 else if x=9 then 9 else if x=46 then 108 else if x=51 then 148 else if x=146 then 181 else 0
  g:=fun x=>if x=1 then 0 else 0
theorem lays219:Lays.n219 Tryz.prog rhoI:=by
  constructor
  all_goals first | kernel_rfl | (intro w;kernel_rfl)
theorem lays213:Lays.n213 Tryz.prog rhoI:=by
  constructor
  all_goals first | kernel_rfl | (intro w;kernel_rfl)
theorem str_one {c:UInt8}{b:ByteArray}(h:b.data.toList= [c]):b=⟨#[c]⟩:=by
  obtain⟨d⟩:=b
  simp only at h
  congr 1
  exact Array.toList_inj.1 (by simpa using h)
theorem index_does(s:Bytes)(c:UInt8)(H:AHeap):FDoes Tryz.prog cnd 173 [.str s,.str [c]] H (.int .i64 (Lib.indexByte s c)) H:=by
  intro N0 w0 hN hC φ w args' hH hB hA
  obtain⟨l⟩:=args'
  simp only [VRels,VRel]at hA
  obtain⟨a,t,rfl,⟨u,rfl,rfl⟩,b,t2,rfl,⟨d,rfl,hd⟩,rfl⟩:=hA
  refine⟨⟨Tryz.f173,_,Tryz.func173,rfl⟩,?_⟩
  have k:=Any.stringslite_Index_one lays219 u c w
  rw [← str_one hd]at k
  exact k.mono fun e w' ⟨he,hw⟩=>by
    subst hw
    exact⟨_,φ,he,Keep.refl _ _,by simp only [VRel],hH,hB,Nat.le_refl _⟩
theorem cmps_does(s t:Bytes)(H:AHeap):FDoes Tryz.prog cnd 121 [.str s,.str t] H (.int .i64 (Lib.compareBytes s t)) H:=by
  intro N0 w0 hN hC φ w args' hH hB hA
  obtain⟨l⟩:=args'
  simp only [VRels,VRel]at hA
  obtain⟨a,t,rfl,⟨u,rfl,rfl⟩,b,t2,rfl,⟨d,rfl,rfl⟩,rfl⟩:=hA
  refine⟨⟨Tryz.f121,_,Tryz.func121,rfl⟩,?_⟩
  have k:=Any.bytealg_CompareString lays213 u d w
  exact k.mono fun e w' ⟨he,hw⟩=>by
    subst hw
    exact⟨_,φ,he,Keep.refl _ _,by simp only [VRel],hH,hB,Nat.le_refl _⟩
end Go.Proofs.YtjpfnbihopoeeaaGreatDoor
namespace Go.Proofs.YtjpfnbihopoeeaaGreatDoor
open Go.Lift
set_option maxRecDepth 1000000
abbrev dotL:Bytes:= [46]
abbrev parseL:Bytes:= [80,97,114,115,101,85,105,110,116]
def indexS:List AVal→AHeap→Option Alts:=pureS fun a=>match a with | [.str s,.str k]=>some (.int .i64 (Lib.indexByte s 46),[k=dotL]) | _=>none
theorem indexS_ok: ∀ args h a,indexS args h=some a→a.Ok Tryz.prog cnd 173 args h:=by
  refine pureS_ok ?_
  intro args v ps e hp H
  split at e<;>first | (cases e;done) | skip
  simp only [Option.some.injEq,Prod.mk.injEq]at e
  obtain⟨rfl,rfl⟩:=e
  rw [hp.head]
  exact index_does _ _ H
def repeatS:List AVal→AHeap→Option Alts:=pureS fun a=>match a with | [.str s,.int .i64 z]=>some (.str (Lib.repeatL s z.toNat),[0≤z,z≤1048576,s.length≤2^20]) | _=>none
theorem repeatS_ok: ∀ args h a,repeatS args h=some a→a.Ok Tryz.prog cnd 63 args h:=by
  refine pureS_ok ?_
  intro args v ps e hp H
  split at e<;>first | (cases e;done) | skip
  simp only [Option.some.injEq,Prod.mk.injEq]at e
  obtain⟨rfl,rfl⟩:=e
  have h0:=hp.head;have h1:=hp.tail.head;have h2:=hp.tail.tail.head
  rename_i s z
  have k:=repeat_does s z.toNat h2 (by omega) H
  rwa [Int.toNat_of_nonneg h0]at k
noncomputable def puS:List AVal→AHeap→Option Alts:=fun args h=>match args with
  | [.str s,.int .i64 b,.int .i64 w]=>some (.or (s.all dig=true) (.one (.tuple [.int .u64 (valN 0 s:Nat),.nilIface]) h [b=10,w=63,s≠ [],s.length≤15]) (.one (.tuple [.int .u64 0,.iface 211 (.int .i64 2)]) h [b=10,w=63,s≠ [],s.length≤15]))
  | _=>none
theorem puS_ok: ∀ args h a,puS args h=some a→a.Ok Tryz.prog cnd 157 args h:=by
  intro args h a e
  unfold puS at e
  split at e<;>first | (cases e;done) | skip
  simp only [Option.some.injEq]at e
  subst e
  refine⟨fun hd hp=> ?_,fun hd hp=> ?_⟩
  · have k:=pui_does _ hp.tail.tail.head hp.tail.tail.tail.head h
    rw [if_pos hd]at k;rw [hp.head,hp.tail.head];exact k
  · have k:=pui_does _ hp.tail.tail.head hp.tail.tail.tail.head h
    rw [if_neg hd]at k;rw [hp.head,hp.tail.head];exact k
def errS:List AVal→AHeap→Option Alts:=pureS fun a=>match a with | [.str f,.str s,.int .i64 b,.int .i64 w,.iface t v]=>some (.iface 214 .undef,[f=parseL,b=10,w=63,t=211,v= .int .i64 2,s.length≤2^20]) | _=>none
theorem errS_ok: ∀ args h a,errS args h=some a→a.Ok Tryz.prog cnd 158 args h:=by
  refine pureS_ok ?_
  intro args v ps e hp H
  split at e<;>first | (cases e;done) | skip
  simp only [Option.some.injEq,Prod.mk.injEq]at e
  obtain⟨rfl,rfl⟩:=e
  rw [hp.head,hp.tail.head,hp.tail.tail.head,hp.tail.tail.tail.head,hp.tail.tail.tail.tail.head]
  exact err_does _ hp.tail.tail.tail.tail.tail.head H
noncomputable def specsN:Specs:=(((noSpecs.add 173 indexS).add 63 repeatS).add 157 puS).add 158 errS
theorem specsN_ok:SpecsOk Tryz.prog cnd specsN:=(((noSpecs_ok.add indexS_ok).add repeatS_ok).add puS_ok).add errS_ok
theorem numTT_vc(s r a d:List UInt8)(K0:AVal→AHeap→Prop)(vc:CallT Tryz.prog cnd 117 [AVal.str s,AVal.str [(45:UInt8)]] (AHeap.rowsT 9 []) (AVal.tuple [AVal.str r,AVal.bool true]) (AHeap.rowsT 9 [])∧CallT Tryz.prog cnd 118 [AVal.str r,AVal.str [(46:UInt8)]] (AHeap.rowsT 18 []) (AVal.tuple [AVal.str a,AVal.str d,AVal.bool true]) (AHeap.rowsT 18 [])∧((↑(List.length a):Int)<1→K0 (AVal.tuple [AVal.int IntKind.i64 (0),AVal.bool false]) (AHeap.rowsT 40 []))∧(¬(↑(List.length a):Int)<1→(9<(↑(List.length a):Int)→K0 (AVal.tuple [AVal.int IntKind.i64 (0),AVal.bool false]) (AHeap.rowsT 40 []))∧(¬9<(↑(List.length a):Int)→(6<(↑(List.length d):Int)→K0 (AVal.tuple [AVal.int IntKind.i64 (0),AVal.bool false]) (AHeap.rowsT 40 []))∧(¬6<(↑(List.length d):Int)→(d= []→K0 (AVal.tuple [AVal.int IntKind.i64 (0),AVal.bool false]) (AHeap.rowsT 40 []))∧(¬d= []→Nat.le (Nat.succ (List.length a+List.length d)) (2^62)∧(-9223372036854775808≤6- (↑(List.length d):Int)∧6- (↑(List.length d):Int)≤9223372036854775807)∧0≤6- (↑(List.length d):Int)∧6- (↑(List.length d):Int)≤1048576∧1≤1048576∧Nat.le (Nat.succ (List.length (a++d)+List.length (Lib.repeatL (Array.toList (ByteArray.data {data:= #[48]})) (Int.toNat (6- (↑(List.length d):Int)))))) (2^62)∧(List.all (a++d++Lib.repeatL (Array.toList #[48]) (Int.toNat (6- (↑(List.length d):Int)))) dig=true→(10:Int)=10∧(63:Int)=63∧(a++d++Lib.repeatL (Array.toList (ByteArray.data {data:= #[48]})) (Int.toNat (6- (↑(List.length d):Int)))= []→False)∧List.length (a++d++Lib.repeatL (Array.toList #[48]) (Int.toNat (6- (↑(List.length d):Int))))≤15∧(-9223372036854775808≤(↑(valN 0 (a++d++Lib.repeatL (Array.toList #[48]) (Int.toNat (6- (↑(List.length d):Int))))):Int)∧(↑(valN 0 (a++d++Lib.repeatL (Array.toList #[48]) (Int.toNat (6- (↑(List.length d):Int))))):Int)≤9223372036854775807)∧(-9223372036854775808≤0- (↑(valN 0 (a++d++Lib.repeatL (Array.toList #[48]) (Int.toNat (6- (↑(List.length d):Int))))):Int)∧0- (↑(valN 0 (a++d++Lib.repeatL (Array.toList #[48]) (Int.toNat (6- (↑(List.length d):Int))))):Int)≤9223372036854775807)∧K0 (AVal.tuple [AVal.int IntKind.i64 (0- (↑(valN 0 (a++d++Lib.repeatL (Array.toList #[48]) (Int.toNat (6- (↑(List.length d):Int))))):Int)),AVal.bool true]) (AHeap.rowsT 76 []))∧(¬List.all (a++d++Lib.repeatL (Array.toList #[48]) (Int.toNat (6- (↑(List.length d):Int)))) dig=true→(10:Int)=10∧(63:Int)=63∧(a++d++Lib.repeatL (Array.toList (ByteArray.data {data:= #[48]})) (Int.toNat (6- (↑(List.length d):Int)))= []→False)∧List.length (a++d++Lib.repeatL (Array.toList #[48]) (Int.toNat (6- (↑(List.length d):Int))))≤15∧ [(80:UInt8),(97:UInt8),(114:UInt8),(115:UInt8),(101:UInt8),(85:UInt8),(105:UInt8),(110:UInt8),(116:UInt8)]= [(80:UInt8),(97:UInt8),(114:UInt8),(115:UInt8),(101:UInt8),(85:UInt8),(105:UInt8),(110:UInt8),(116:UInt8)]∧(10:Int)=10∧(63:Int)=63∧211=211∧AVal.int IntKind.i64 (2)=AVal.int IntKind.i64 (2)∧List.length (a++d++Lib.repeatL (Array.toList #[48]) (Int.toNat (6- (↑(List.length d):Int))))≤1048576∧K0 (AVal.tuple [AVal.int IntKind.i64 (0),AVal.bool false]) (AHeap.rowsT 81 []))))))) :
    ∃ v h1,FDoes Tryz.prog cnd 65 [.str s] (⟨0,.nil⟩) v h1∧K0 v h1 :=
  tcall_does env_ok mixed specsN_ok (hs:= .hint (.val 1001 (AVal.tuple [AVal.str r,AVal.bool true])) (.hint (.val 2001 (AVal.tuple [AVal.str a,AVal.str d,AVal.bool true])) (.br 3002 .nil (.br 3006 .nil (.br 3011 .nil (.br 3017 .nil (.hint (.go 5002) (.hint (.go 5005) (.hint (.go 5007) (.hint (.enter 5008) (.br 1003 (.hint (.go 7001) (.hint (.go 7002) .nil)) .nil))))))))))) (by kernel_rfl) vc
theorem numTF_vc(s r a d:List UInt8)(K0:AVal→AHeap→Prop)(vc:CallT Tryz.prog cnd 117 [AVal.str s,AVal.str [(45:UInt8)]] (AHeap.rowsT 9 []) (AVal.tuple [AVal.str r,AVal.bool true]) (AHeap.rowsT 9 [])∧CallT Tryz.prog cnd 118 [AVal.str r,AVal.str [(46:UInt8)]] (AHeap.rowsT 18 []) (AVal.tuple [AVal.str a,AVal.str d,AVal.bool false]) (AHeap.rowsT 18 [])∧((↑(List.length a):Int)<1→K0 (AVal.tuple [AVal.int IntKind.i64 (0),AVal.bool false]) (AHeap.rowsT 40 []))∧(¬(↑(List.length a):Int)<1→(9<(↑(List.length a):Int)→K0 (AVal.tuple [AVal.int IntKind.i64 (0),AVal.bool false]) (AHeap.rowsT 40 []))∧(¬9<(↑(List.length a):Int)→(6<(↑(List.length d):Int)→K0 (AVal.tuple [AVal.int IntKind.i64 (0),AVal.bool false]) (AHeap.rowsT 40 []))∧(¬6<(↑(List.length d):Int)→Nat.le (Nat.succ (List.length a+List.length d)) (2^62)∧(-9223372036854775808≤6- (↑(List.length d):Int)∧6- (↑(List.length d):Int)≤9223372036854775807)∧0≤6- (↑(List.length d):Int)∧6- (↑(List.length d):Int)≤1048576∧1≤1048576∧Nat.le (Nat.succ (List.length (a++d)+List.length (Lib.repeatL (Array.toList (ByteArray.data {data:= #[48]})) (Int.toNat (6- (↑(List.length d):Int)))))) (2^62)∧(List.all (a++d++Lib.repeatL (Array.toList #[48]) (Int.toNat (6- (↑(List.length d):Int)))) dig=true→(10:Int)=10∧(63:Int)=63∧(a++d++Lib.repeatL (Array.toList (ByteArray.data {data:= #[48]})) (Int.toNat (6- (↑(List.length d):Int)))= []→False)∧List.length (a++d++Lib.repeatL (Array.toList #[48]) (Int.toNat (6- (↑(List.length d):Int))))≤15∧(-9223372036854775808≤(↑(valN 0 (a++d++Lib.repeatL (Array.toList #[48]) (Int.toNat (6- (↑(List.length d):Int))))):Int)∧(↑(valN 0 (a++d++Lib.repeatL (Array.toList #[48]) (Int.toNat (6- (↑(List.length d):Int))))):Int)≤9223372036854775807)∧(-9223372036854775808≤0- (↑(valN 0 (a++d++Lib.repeatL (Array.toList #[48]) (Int.toNat (6- (↑(List.length d):Int))))):Int)∧0- (↑(valN 0 (a++d++Lib.repeatL (Array.toList #[48]) (Int.toNat (6- (↑(List.length d):Int))))):Int)≤9223372036854775807)∧K0 (AVal.tuple [AVal.int IntKind.i64 (0- (↑(valN 0 (a++d++Lib.repeatL (Array.toList #[48]) (Int.toNat (6- (↑(List.length d):Int))))):Int)),AVal.bool true]) (AHeap.rowsT 76 []))∧(¬List.all (a++d++Lib.repeatL (Array.toList #[48]) (Int.toNat (6- (↑(List.length d):Int)))) dig=true→(10:Int)=10∧(63:Int)=63∧(a++d++Lib.repeatL (Array.toList (ByteArray.data {data:= #[48]})) (Int.toNat (6- (↑(List.length d):Int)))= []→False)∧List.length (a++d++Lib.repeatL (Array.toList #[48]) (Int.toNat (6- (↑(List.length d):Int))))≤15∧ [(80:UInt8),(97:UInt8),(114:UInt8),(115:UInt8),(101:UInt8),(85:UInt8),(105:UInt8),(110:UInt8),(116:UInt8)]= [(80:UInt8),(97:UInt8),(114:UInt8),(115:UInt8),(101:UInt8),(85:UInt8),(105:UInt8),(110:UInt8),(116:UInt8)]∧(10:Int)=10∧(63:Int)=63∧211=211∧AVal.int IntKind.i64 (2)=AVal.int IntKind.i64 (2)∧List.length (a++d++Lib.repeatL (Array.toList #[48]) (Int.toNat (6- (↑(List.length d):Int))))≤1048576∧K0 (AVal.tuple [AVal.int IntKind.i64 (0),AVal.bool false]) (AHeap.rowsT 81 [])))))) :
    ∃ v h1,FDoes Tryz.prog cnd 65 [.str s] (⟨0,.nil⟩) v h1∧K0 v h1 :=
  tcall_does env_ok mixed specsN_ok (hs:= .hint (.val 1001 (AVal.tuple [AVal.str r,AVal.bool true])) (.hint (.val 2001 (AVal.tuple [AVal.str a,AVal.str d,AVal.bool false])) (.br 3002 .nil (.br 3006 .nil (.br 3011 .nil (.hint (.go 5002) (.hint (.go 5005) (.hint (.go 5007) (.hint (.enter 5008) (.br 1003 (.hint (.go 7001) (.hint (.go 7002) .nil)) .nil)))))))))) (by kernel_rfl) vc
theorem numFT_vc(s r a d:List UInt8)(K0:AVal→AHeap→Prop)(vc:CallT Tryz.prog cnd 117 [AVal.str s,AVal.str [(45:UInt8)]] (AHeap.rowsT 9 []) (AVal.tuple [AVal.str r,AVal.bool false]) (AHeap.rowsT 9 [])∧CallT Tryz.prog cnd 118 [AVal.str r,AVal.str [(46:UInt8)]] (AHeap.rowsT 18 []) (AVal.tuple [AVal.str a,AVal.str d,AVal.bool true]) (AHeap.rowsT 18 [])∧((↑(List.length a):Int)<1→K0 (AVal.tuple [AVal.int IntKind.i64 (0),AVal.bool false]) (AHeap.rowsT 40 []))∧(¬(↑(List.length a):Int)<1→(9<(↑(List.length a):Int)→K0 (AVal.tuple [AVal.int IntKind.i64 (0),AVal.bool false]) (AHeap.rowsT 40 []))∧(¬9<(↑(List.length a):Int)→(6<(↑(List.length d):Int)→K0 (AVal.tuple [AVal.int IntKind.i64 (0),AVal.bool false]) (AHeap.rowsT 40 []))∧(¬6<(↑(List.length d):Int)→(d= []→K0 (AVal.tuple [AVal.int IntKind.i64 (0),AVal.bool false]) (AHeap.rowsT 40 []))∧(¬d= []→Nat.le (Nat.succ (List.length a+List.length d)) (2^62)∧(-9223372036854775808≤6- (↑(List.length d):Int)∧6- (↑(List.length d):Int)≤9223372036854775807)∧0≤6- (↑(List.length d):Int)∧6- (↑(List.length d):Int)≤1048576∧1≤1048576∧Nat.le (Nat.succ (List.length (a++d)+List.length (Lib.repeatL (Array.toList (ByteArray.data {data:= #[48]})) (Int.toNat (6- (↑(List.length d):Int)))))) (2^62)∧(List.all (a++d++Lib.repeatL (Array.toList #[48]) (Int.toNat (6- (↑(List.length d):Int)))) dig=true→(10:Int)=10∧(63:Int)=63∧(a++d++Lib.repeatL (Array.toList (ByteArray.data {data:= #[48]})) (Int.toNat (6- (↑(List.length d):Int)))= []→False)∧List.length (a++d++Lib.repeatL (Array.toList #[48]) (Int.toNat (6- (↑(List.length d):Int))))≤15∧(-9223372036854775808≤(↑(valN 0 (a++d++Lib.repeatL (Array.toList #[48]) (Int.toNat (6- (↑(List.length d):Int))))):Int)∧(↑(valN 0 (a++d++Lib.repeatL (Array.toList #[48]) (Int.toNat (6- (↑(List.length d):Int))))):Int)≤9223372036854775807)∧K0 (AVal.tuple [AVal.int IntKind.i64 (↑(valN 0 (a++d++Lib.repeatL (Array.toList #[48]) (Int.toNat (6- (↑(List.length d):Int))))):Int),AVal.bool true]) (AHeap.rowsT 75 []))∧(¬List.all (a++d++Lib.repeatL (Array.toList #[48]) (Int.toNat (6- (↑(List.length d):Int)))) dig=true→(10:Int)=10∧(63:Int)=63∧(a++d++Lib.repeatL (Array.toList (ByteArray.data {data:= #[48]})) (Int.toNat (6- (↑(List.length d):Int)))= []→False)∧List.length (a++d++Lib.repeatL (Array.toList #[48]) (Int.toNat (6- (↑(List.length d):Int))))≤15∧ [(80:UInt8),(97:UInt8),(114:UInt8),(115:UInt8),(101:UInt8),(85:UInt8),(105:UInt8),(110:UInt8),(116:UInt8)]= [(80:UInt8),(97:UInt8),(114:UInt8),(115:UInt8),(101:UInt8),(85:UInt8),(105:UInt8),(110:UInt8),(116:UInt8)]∧(10:Int)=10∧(63:Int)=63∧211=211∧AVal.int IntKind.i64 (2)=AVal.int IntKind.i64 (2)∧List.length (a++d++Lib.repeatL (Array.toList #[48]) (Int.toNat (6- (↑(List.length d):Int))))≤1048576∧K0 (AVal.tuple [AVal.int IntKind.i64 (0),AVal.bool false]) (AHeap.rowsT 80 []))))))) :
    ∃ v h1,FDoes Tryz.prog cnd 65 [.str s] (⟨0,.nil⟩) v h1∧K0 v h1 :=
  tcall_does env_ok mixed specsN_ok (hs:= .hint (.val 1001 (AVal.tuple [AVal.str r,AVal.bool false])) (.hint (.val 2001 (AVal.tuple [AVal.str a,AVal.str d,AVal.bool true])) (.br 3002 .nil (.br 3006 .nil (.br 3011 .nil (.br 3017 .nil (.hint (.go 5002) (.hint (.go 5005) (.hint (.go 5007) (.hint (.enter 5008) (.br 1003 (.hint (.go 8001) .nil) .nil))))))))))) (by kernel_rfl) vc
theorem numFF_vc(s r a d:List UInt8)(K0:AVal→AHeap→Prop)(vc:CallT Tryz.prog cnd 117 [AVal.str s,AVal.str [(45:UInt8)]] (AHeap.rowsT 9 []) (AVal.tuple [AVal.str r,AVal.bool false]) (AHeap.rowsT 9 [])∧CallT Tryz.prog cnd 118 [AVal.str r,AVal.str [(46:UInt8)]] (AHeap.rowsT 18 []) (AVal.tuple [AVal.str a,AVal.str d,AVal.bool false]) (AHeap.rowsT 18 [])∧((↑(List.length a):Int)<1→K0 (AVal.tuple [AVal.int IntKind.i64 (0),AVal.bool false]) (AHeap.rowsT 40 []))∧(¬(↑(List.length a):Int)<1→(9<(↑(List.length a):Int)→K0 (AVal.tuple [AVal.int IntKind.i64 (0),AVal.bool false]) (AHeap.rowsT 40 []))∧(¬9<(↑(List.length a):Int)→(6<(↑(List.length d):Int)→K0 (AVal.tuple [AVal.int IntKind.i64 (0),AVal.bool false]) (AHeap.rowsT 40 []))∧(¬6<(↑(List.length d):Int)→Nat.le (Nat.succ (List.length a+List.length d)) (2^62)∧(-9223372036854775808≤6- (↑(List.length d):Int)∧6- (↑(List.length d):Int)≤9223372036854775807)∧0≤6- (↑(List.length d):Int)∧6- (↑(List.length d):Int)≤1048576∧1≤1048576∧Nat.le (Nat.succ (List.length (a++d)+List.length (Lib.repeatL (Array.toList (ByteArray.data {data:= #[48]})) (Int.toNat (6- (↑(List.length d):Int)))))) (2^62)∧(List.all (a++d++Lib.repeatL (Array.toList #[48]) (Int.toNat (6- (↑(List.length d):Int)))) dig=true→(10:Int)=10∧(63:Int)=63∧(a++d++Lib.repeatL (Array.toList (ByteArray.data {data:= #[48]})) (Int.toNat (6- (↑(List.length d):Int)))= []→False)∧List.length (a++d++Lib.repeatL (Array.toList #[48]) (Int.toNat (6- (↑(List.length d):Int))))≤15∧(-9223372036854775808≤(↑(valN 0 (a++d++Lib.repeatL (Array.toList #[48]) (Int.toNat (6- (↑(List.length d):Int))))):Int)∧(↑(valN 0 (a++d++Lib.repeatL (Array.toList #[48]) (Int.toNat (6- (↑(List.length d):Int))))):Int)≤9223372036854775807)∧K0 (AVal.tuple [AVal.int IntKind.i64 (↑(valN 0 (a++d++Lib.repeatL (Array.toList #[48]) (Int.toNat (6- (↑(List.length d):Int))))):Int),AVal.bool true]) (AHeap.rowsT 75 []))∧(¬List.all (a++d++Lib.repeatL (Array.toList #[48]) (Int.toNat (6- (↑(List.length d):Int)))) dig=true→(10:Int)=10∧(63:Int)=63∧(a++d++Lib.repeatL (Array.toList (ByteArray.data {data:= #[48]})) (Int.toNat (6- (↑(List.length d):Int)))= []→False)∧List.length (a++d++Lib.repeatL (Array.toList #[48]) (Int.toNat (6- (↑(List.length d):Int))))≤15∧ [(80:UInt8),(97:UInt8),(114:UInt8),(115:UInt8),(101:UInt8),(85:UInt8),(105:UInt8),(110:UInt8),(116:UInt8)]= [(80:UInt8),(97:UInt8),(114:UInt8),(115:UInt8),(101:UInt8),(85:UInt8),(105:UInt8),(110:UInt8),(116:UInt8)]∧(10:Int)=10∧(63:Int)=63∧211=211∧AVal.int IntKind.i64 (2)=AVal.int IntKind.i64 (2)∧List.length (a++d++Lib.repeatL (Array.toList #[48]) (Int.toNat (6- (↑(List.length d):Int))))≤1048576∧K0 (AVal.tuple [AVal.int IntKind.i64 (0),AVal.bool false]) (AHeap.rowsT 80 [])))))) :
    ∃ v h1,FDoes Tryz.prog cnd 65 [.str s] (⟨0,.nil⟩) v h1∧K0 v h1 :=
  tcall_does env_ok mixed specsN_ok (hs:= .hint (.val 1001 (AVal.tuple [AVal.str r,AVal.bool false])) (.hint (.val 2001 (AVal.tuple [AVal.str a,AVal.str d,AVal.bool false])) (.br 3002 .nil (.br 3006 .nil (.br 3011 .nil (.hint (.go 5002) (.hint (.go 5005) (.hint (.go 5007) (.hint (.enter 5008) (.br 1003 (.hint (.go 8001) .nil) .nil)))))))))) (by kernel_rfl) vc
theorem cutp_vc(s:List UInt8)(K0:AVal→AHeap→Prop)(vc:(1≤(↑(List.length s):Int)→((0:Int)≤1∧1≤(↑(List.length s):Int))∧(List.take 1 s= [(45:UInt8)]→((0:Int)≤1∧1≤(↑(List.length s):Int))∧K0 (AVal.tuple [AVal.str (List.drop 1 s),AVal.bool true]) (AHeap.rowsT 36 []))∧(¬List.take 1 s= [(45:UInt8)]→K0 (AVal.tuple [AVal.str s,AVal.bool false]) (AHeap.rowsT 33 [])))∧(¬1≤(↑(List.length s):Int)→K0 (AVal.tuple [AVal.str s,AVal.bool false]) (AHeap.rowsT 33 []))) :
    ∃ v h1,FDoes Tryz.prog cnd 117 [.str s,.str [45]] (⟨0,.nil⟩) v h1∧K0 v h1 :=
  tcall_does env_ok mixed specsN_ok (hs:= .hint (.enter 1002) (.hint (.enter 1002) (.br 1004 (.hint (.go 1009) (.br 1011 (.hint (.go 3003) .nil) .nil)) .nil))) (by kernel_rfl) vc
theorem cut_vc(s:List UInt8)(K0:AVal→AHeap→Prop)(vc: [(46:UInt8)]= [(46:UInt8)]∧(0≤Lib.indexByte s 46→(0≤Lib.indexByte s 46∧Lib.indexByte s 46≤(↑(List.length s):Int))∧(-9223372036854775808≤Lib.indexByte s 46+1∧Lib.indexByte s 46+1≤9223372036854775807)∧(0≤Lib.indexByte s 46+1∧Lib.indexByte s 46+1≤(↑(List.length s):Int))∧K0 (AVal.tuple [AVal.str (List.take (Int.toNat (Lib.indexByte s 46)) s),AVal.str (List.drop (Int.toNat (Lib.indexByte s 46+1)) s),AVal.bool true]) (AHeap.rowsT 33 []))∧(¬0≤Lib.indexByte s 46→K0 (AVal.tuple [AVal.str s,AVal.str [],AVal.bool false]) (AHeap.rowsT 25 []))) :
    ∃ v h1,FDoes Tryz.prog cnd 118 [.str s,.str [46]] (⟨0,.nil⟩) v h1∧K0 v h1 :=
  tcall_does env_ok mixed specsN_ok (hs:= .hint (.enter 1002) (.br 2001 (.hint (.go 3002) (.hint (.go 3007) (.hint (.go 3008) .nil))) .nil)) (by kernel_rfl) vc
theorem dnE_vp(s:List UInt8)(i n k c:Nat)(g b:Int)(K0:AExit→Facts→AHeap→Prop)(vc:some (AVal.bool (decide ((↑i:Int)<(↑(List.length s):Int))))=some (AVal.bool false)∧K0 (AExit.exit 0) [(0,AVal.str s),(4,AVal.int IntKind.i64 g),(5,AVal.int IntKind.i64 (↑n:Int)),(6,AVal.int IntKind.i64 (↑k:Int)),(7,AVal.int IntKind.i64 b),(8,AVal.int IntKind.i64 (↑i:Int))] (AHeap.rowsT 4 [])) :
    ∃ e F1 h1,Runs Tryz.prog cnd 0 80 (loopAt Tryz.prog 68 0) [(0,.str s),(4,.int .i64 g),(5,.int .i64 n),(6,.int .i64 k),(7,.int .i64 b),(8,.int .i64 i)] (⟨0,.nil⟩) e F1 h1∧K0 e F1 h1 :=
  tpath_runs env_ok mixed noSpecs_ok (hs:= .hint (.val 9003 (AVal.bool false)) .nil) (keep:= [0,4,5,6,7,8,2,3]) (by kernel_rfl) vc
theorem dnD_vp(s:List UInt8)(i n k c:Nat)(g b:Int)(K0:AExit→Facts→AHeap→Prop)(vc:some (AVal.bool (decide ((↑i:Int)<(↑(List.length s):Int))))=some (AVal.bool true)∧aindex (AEnv.D env) 9 (AVal.str s) (AVal.int IntKind.i64 (↑i:Int))=some (AVal.int IntKind.u8 (↑c:Int))∧some (AVal.bool ((↑c:Int) == 46))=some (AVal.bool true)∧some (AVal.bool (decide (b<0)))=some (AVal.bool true)∧(-9223372036854775808≤(↑i:Int)+1∧(↑i:Int)+1≤9223372036854775807)∧K0 AExit.normal [(0,AVal.str s),(4,AVal.int IntKind.i64 g),(5,AVal.int IntKind.i64 (↑n:Int)),(6,AVal.int IntKind.i64 (↑k:Int)),(7,AVal.int IntKind.i64 (0)),(8,AVal.int IntKind.i64 ((↑i:Int)+1))] (AHeap.rowsT 16 [])) :
    ∃ e F1 h1,Runs Tryz.prog cnd 0 80 (loopAt Tryz.prog 68 0) [(0,.str s),(4,.int .i64 g),(5,.int .i64 n),(6,.int .i64 k),(7,.int .i64 b),(8,.int .i64 i)] (⟨0,.nil⟩) e F1 h1∧K0 e F1 h1 :=
  tpath_runs env_ok mixed noSpecs_ok (hs:= .hint (.val 9003 (AVal.bool true)) (.hint (.val 11002 (AVal.int IntKind.u8 (↑c:Int))) (.hint (.val 11003 (AVal.bool true)) (.hint (.val 11006 (AVal.bool true)) (.hint (.go 10001) .nil))))) (keep:= [0,4,5,6,7,8,2,3]) (by kernel_rfl) vc
theorem dnA_vp(s:List UInt8)(i n k c:Nat)(g b:Int)(K0:AExit→Facts→AHeap→Prop)(vc:some (AVal.bool (decide ((↑i:Int)<(↑(List.length s):Int))))=some (AVal.bool true)∧aindex (AEnv.D env) 9 (AVal.str s) (AVal.int IntKind.i64 (↑i:Int))=some (AVal.int IntKind.u8 (↑c:Int))∧some (AVal.bool ((↑c:Int) == 46))=some (AVal.bool false)∧aindex (AEnv.D env) 9 (AVal.str s) (AVal.int IntKind.i64 (↑i:Int))=some (AVal.int IntKind.u8 (↑c:Int))∧some (AVal.bool (decide ((↑c:Int)<48)))=some (AVal.bool false)∧aindex (AEnv.D env) 9 (AVal.str s) (AVal.int IntKind.i64 (↑i:Int))=some (AVal.int IntKind.u8 (↑c:Int))∧some (AVal.bool (decide ((↑c:Int)>57)))=some (AVal.bool false)∧(-9223372036854775808≤10* (↑n:Int)∧10* (↑n:Int)≤9223372036854775807)∧aindex (AEnv.D env) 9 (AVal.str s) (AVal.int IntKind.i64 (↑i:Int))=some (AVal.int IntKind.u8 (↑c:Int))∧(-9223372036854775808≤(↑c:Int)∧(↑c:Int)≤9223372036854775807)∧(-9223372036854775808≤10* (↑n:Int)+(↑c:Int)∧10* (↑n:Int)+(↑c:Int)≤9223372036854775807)∧(-9223372036854775808≤10* (↑n:Int)+(↑c:Int)-48∧10* (↑n:Int)+(↑c:Int)-48≤9223372036854775807)∧some (AVal.bool (decide (b<0)))=some (AVal.bool true)∧(-9223372036854775808≤(↑k:Int)+1∧(↑k:Int)+1≤9223372036854775807)∧(9<(↑k:Int)+1→K0 AExit.ret [(0,AVal.str s),(4,AVal.int IntKind.i64 g),(5,AVal.int IntKind.i64 (10* (↑n:Int)+(↑c:Int)-48)),(6,AVal.int IntKind.i64 ((↑k:Int)+1)),(7,AVal.int IntKind.i64 b),(8,AVal.int IntKind.i64 (↑i:Int)),(2,AVal.int IntKind.i64 (0)),(3,AVal.bool false)] (AHeap.rowsT 44 []))∧(¬9<(↑k:Int)+1→(6<b→K0 AExit.ret [(0,AVal.str s),(4,AVal.int IntKind.i64 g),(5,AVal.int IntKind.i64 (10* (↑n:Int)+(↑c:Int)-48)),(6,AVal.int IntKind.i64 ((↑k:Int)+1)),(7,AVal.int IntKind.i64 b),(8,AVal.int IntKind.i64 (↑i:Int)),(2,AVal.int IntKind.i64 (0)),(3,AVal.bool false)] (AHeap.rowsT 44 []))∧(¬6<b→(-9223372036854775808≤(↑i:Int)+1∧(↑i:Int)+1≤9223372036854775807)∧K0 AExit.normal [(0,AVal.str s),(4,AVal.int IntKind.i64 g),(5,AVal.int IntKind.i64 (10* (↑n:Int)+(↑c:Int)-48)),(6,AVal.int IntKind.i64 ((↑k:Int)+1)),(7,AVal.int IntKind.i64 b),(8,AVal.int IntKind.i64 ((↑i:Int)+1))] (AHeap.rowsT 45 [])))) :
    ∃ e F1 h1,Runs Tryz.prog cnd 0 80 (loopAt Tryz.prog 68 0) [(0,.str s),(4,.int .i64 g),(5,.int .i64 n),(6,.int .i64 k),(7,.int .i64 b),(8,.int .i64 i)] (⟨0,.nil⟩) e F1 h1∧K0 e F1 h1 :=
  tpath_runs env_ok mixed noSpecs_ok (hs:= .hint (.val 9003 (AVal.bool true)) (.hint (.val 11002 (AVal.int IntKind.u8 (↑c:Int))) (.hint (.val 11003 (AVal.bool false)) (.hint (.val 13002 (AVal.int IntKind.u8 (↑c:Int))) (.hint (.val 13003 (AVal.bool false)) (.hint (.val 13007 (AVal.int IntKind.u8 (↑c:Int))) (.hint (.val 13008 (AVal.bool false)) (.hint (.go 15001) (.hint (.val 15004 (AVal.int IntKind.u8 (↑c:Int))) (.hint (.go 15005) (.hint (.go 15006) (.hint (.go 15007) (.hint (.val 16001 (AVal.bool true)) (.hint (.go 17001) (.br 19001 .nil (.br 19004 .nil (.hint (.go 10001) .nil))))))))))))))))) (keep:= [0,4,5,6,7,8,2,3]) (by kernel_rfl) vc
theorem dnB_vp(s:List UInt8)(i n k c:Nat)(g b:Int)(K0:AExit→Facts→AHeap→Prop)(vc:some (AVal.bool (decide ((↑i:Int)<(↑(List.length s):Int))))=some (AVal.bool true)∧aindex (AEnv.D env) 9 (AVal.str s) (AVal.int IntKind.i64 (↑i:Int))=some (AVal.int IntKind.u8 (↑c:Int))∧some (AVal.bool ((↑c:Int) == 46))=some (AVal.bool false)∧aindex (AEnv.D env) 9 (AVal.str s) (AVal.int IntKind.i64 (↑i:Int))=some (AVal.int IntKind.u8 (↑c:Int))∧some (AVal.bool (decide ((↑c:Int)<48)))=some (AVal.bool false)∧aindex (AEnv.D env) 9 (AVal.str s) (AVal.int IntKind.i64 (↑i:Int))=some (AVal.int IntKind.u8 (↑c:Int))∧some (AVal.bool (decide ((↑c:Int)>57)))=some (AVal.bool false)∧(-9223372036854775808≤10* (↑n:Int)∧10* (↑n:Int)≤9223372036854775807)∧aindex (AEnv.D env) 9 (AVal.str s) (AVal.int IntKind.i64 (↑i:Int))=some (AVal.int IntKind.u8 (↑c:Int))∧(-9223372036854775808≤(↑c:Int)∧(↑c:Int)≤9223372036854775807)∧(-9223372036854775808≤10* (↑n:Int)+(↑c:Int)∧10* (↑n:Int)+(↑c:Int)≤9223372036854775807)∧(-9223372036854775808≤10* (↑n:Int)+(↑c:Int)-48∧10* (↑n:Int)+(↑c:Int)-48≤9223372036854775807)∧some (AVal.bool (decide (b<0)))=some (AVal.bool false)∧(-9223372036854775808≤b+1∧b+1≤9223372036854775807)∧(9<(↑k:Int)→K0 AExit.ret [(0,AVal.str s),(4,AVal.int IntKind.i64 g),(5,AVal.int IntKind.i64 (10* (↑n:Int)+(↑c:Int)-48)),(6,AVal.int IntKind.i64 (↑k:Int)),(7,AVal.int IntKind.i64 (b+1)),(8,AVal.int IntKind.i64 (↑i:Int)),(2,AVal.int IntKind.i64 (0)),(3,AVal.bool false)] (AHeap.rowsT 44 []))∧(¬9<(↑k:Int)→(6<b+1→K0 AExit.ret [(0,AVal.str s),(4,AVal.int IntKind.i64 g),(5,AVal.int IntKind.i64 (10* (↑n:Int)+(↑c:Int)-48)),(6,AVal.int IntKind.i64 (↑k:Int)),(7,AVal.int IntKind.i64 (b+1)),(8,AVal.int IntKind.i64 (↑i:Int)),(2,AVal.int IntKind.i64 (0)),(3,AVal.bool false)] (AHeap.rowsT 44 []))∧(¬6<b+1→(-9223372036854775808≤(↑i:Int)+1∧(↑i:Int)+1≤9223372036854775807)∧K0 AExit.normal [(0,AVal.str s),(4,AVal.int IntKind.i64 g),(5,AVal.int IntKind.i64 (10* (↑n:Int)+(↑c:Int)-48)),(6,AVal.int IntKind.i64 (↑k:Int)),(7,AVal.int IntKind.i64 (b+1)),(8,AVal.int IntKind.i64 ((↑i:Int)+1))] (AHeap.rowsT 45 [])))) :
    ∃ e F1 h1,Runs Tryz.prog cnd 0 80 (loopAt Tryz.prog 68 0) [(0,.str s),(4,.int .i64 g),(5,.int .i64 n),(6,.int .i64 k),(7,.int .i64 b),(8,.int .i64 i)] (⟨0,.nil⟩) e F1 h1∧K0 e F1 h1 :=
  tpath_runs env_ok mixed noSpecs_ok (hs:= .hint (.val 9003 (AVal.bool true)) (.hint (.val 11002 (AVal.int IntKind.u8 (↑c:Int))) (.hint (.val 11003 (AVal.bool false)) (.hint (.val 13002 (AVal.int IntKind.u8 (↑c:Int))) (.hint (.val 13003 (AVal.bool false)) (.hint (.val 13007 (AVal.int IntKind.u8 (↑c:Int))) (.hint (.val 13008 (AVal.bool false)) (.hint (.go 15001) (.hint (.val 15004 (AVal.int IntKind.u8 (↑c:Int))) (.hint (.go 15005) (.hint (.go 15006) (.hint (.go 15007) (.hint (.val 16001 (AVal.bool false)) (.hint (.go 18001) (.br 19001 .nil (.br 19004 .nil (.hint (.go 10001) .nil))))))))))))))))) (keep:= [0,4,5,6,7,8,2,3]) (by kernel_rfl) vc
theorem dnX1_vp(s:List UInt8)(i n k c:Nat)(g b:Int)(K0:AExit→Facts→AHeap→Prop)(vc:some (AVal.bool (decide ((↑i:Int)<(↑(List.length s):Int))))=some (AVal.bool true)∧aindex (AEnv.D env) 9 (AVal.str s) (AVal.int IntKind.i64 (↑i:Int))=some (AVal.int IntKind.u8 (↑c:Int))∧some (AVal.bool ((↑c:Int) == 46))=some (AVal.bool true)∧some (AVal.bool (decide (b<0)))=some (AVal.bool false)∧aindex (AEnv.D env) 9 (AVal.str s) (AVal.int IntKind.i64 (↑i:Int))=some (AVal.int IntKind.u8 (↑c:Int))∧some (AVal.bool (decide ((↑c:Int)<48)))=some (AVal.bool true)∧K0 AExit.ret [(0,AVal.str s),(4,AVal.int IntKind.i64 g),(5,AVal.int IntKind.i64 (↑n:Int)),(6,AVal.int IntKind.i64 (↑k:Int)),(7,AVal.int IntKind.i64 b),(8,AVal.int IntKind.i64 (↑i:Int)),(2,AVal.int IntKind.i64 (0)),(3,AVal.bool false)] (AHeap.rowsT 24 [])) :
    ∃ e F1 h1,Runs Tryz.prog cnd 0 80 (loopAt Tryz.prog 68 0) [(0,.str s),(4,.int .i64 g),(5,.int .i64 n),(6,.int .i64 k),(7,.int .i64 b),(8,.int .i64 i)] (⟨0,.nil⟩) e F1 h1∧K0 e F1 h1 :=
  tpath_runs env_ok mixed noSpecs_ok (hs:= .hint (.val 9003 (AVal.bool true)) (.hint (.val 11002 (AVal.int IntKind.u8 (↑c:Int))) (.hint (.val 11003 (AVal.bool true)) (.hint (.val 11006 (AVal.bool false)) (.hint (.val 13002 (AVal.int IntKind.u8 (↑c:Int))) (.hint (.val 13003 (AVal.bool true)) .nil)))))) (keep:= [0,4,5,6,7,8,2,3]) (by kernel_rfl) vc
theorem dnX2_vp(s:List UInt8)(i n k c:Nat)(g b:Int)(K0:AExit→Facts→AHeap→Prop)(vc:some (AVal.bool (decide ((↑i:Int)<(↑(List.length s):Int))))=some (AVal.bool true)∧aindex (AEnv.D env) 9 (AVal.str s) (AVal.int IntKind.i64 (↑i:Int))=some (AVal.int IntKind.u8 (↑c:Int))∧some (AVal.bool ((↑c:Int) == 46))=some (AVal.bool false)∧aindex (AEnv.D env) 9 (AVal.str s) (AVal.int IntKind.i64 (↑i:Int))=some (AVal.int IntKind.u8 (↑c:Int))∧some (AVal.bool (decide ((↑c:Int)<48)))=some (AVal.bool true)∧K0 AExit.ret [(0,AVal.str s),(4,AVal.int IntKind.i64 g),(5,AVal.int IntKind.i64 (↑n:Int)),(6,AVal.int IntKind.i64 (↑k:Int)),(7,AVal.int IntKind.i64 b),(8,AVal.int IntKind.i64 (↑i:Int)),(2,AVal.int IntKind.i64 (0)),(3,AVal.bool false)] (AHeap.rowsT 24 [])) :
    ∃ e F1 h1,Runs Tryz.prog cnd 0 80 (loopAt Tryz.prog 68 0) [(0,.str s),(4,.int .i64 g),(5,.int .i64 n),(6,.int .i64 k),(7,.int .i64 b),(8,.int .i64 i)] (⟨0,.nil⟩) e F1 h1∧K0 e F1 h1 :=
  tpath_runs env_ok mixed noSpecs_ok (hs:= .hint (.val 9003 (AVal.bool true)) (.hint (.val 11002 (AVal.int IntKind.u8 (↑c:Int))) (.hint (.val 11003 (AVal.bool false)) (.hint (.val 13002 (AVal.int IntKind.u8 (↑c:Int))) (.hint (.val 13003 (AVal.bool true)) .nil))))) (keep:= [0,4,5,6,7,8,2,3]) (by kernel_rfl) vc
theorem dnX3_vp(s:List UInt8)(i n k c:Nat)(g b:Int)(K0:AExit→Facts→AHeap→Prop)(vc:some (AVal.bool (decide ((↑i:Int)<(↑(List.length s):Int))))=some (AVal.bool true)∧aindex (AEnv.D env) 9 (AVal.str s) (AVal.int IntKind.i64 (↑i:Int))=some (AVal.int IntKind.u8 (↑c:Int))∧some (AVal.bool ((↑c:Int) == 46))=some (AVal.bool false)∧aindex (AEnv.D env) 9 (AVal.str s) (AVal.int IntKind.i64 (↑i:Int))=some (AVal.int IntKind.u8 (↑c:Int))∧some (AVal.bool (decide ((↑c:Int)<48)))=some (AVal.bool false)∧aindex (AEnv.D env) 9 (AVal.str s) (AVal.int IntKind.i64 (↑i:Int))=some (AVal.int IntKind.u8 (↑c:Int))∧some (AVal.bool (decide ((↑c:Int)>57)))=some (AVal.bool true)∧K0 AExit.ret [(0,AVal.str s),(4,AVal.int IntKind.i64 g),(5,AVal.int IntKind.i64 (↑n:Int)),(6,AVal.int IntKind.i64 (↑k:Int)),(7,AVal.int IntKind.i64 b),(8,AVal.int IntKind.i64 (↑i:Int)),(2,AVal.int IntKind.i64 (0)),(3,AVal.bool false)] (AHeap.rowsT 24 [])) :
    ∃ e F1 h1,Runs Tryz.prog cnd 0 80 (loopAt Tryz.prog 68 0) [(0,.str s),(4,.int .i64 g),(5,.int .i64 n),(6,.int .i64 k),(7,.int .i64 b),(8,.int .i64 i)] (⟨0,.nil⟩) e F1 h1∧K0 e F1 h1 :=
  tpath_runs env_ok mixed noSpecs_ok (hs:= .hint (.val 9003 (AVal.bool true)) (.hint (.val 11002 (AVal.int IntKind.u8 (↑c:Int))) (.hint (.val 11003 (AVal.bool false)) (.hint (.val 13002 (AVal.int IntKind.u8 (↑c:Int))) (.hint (.val 13003 (AVal.bool false)) (.hint (.val 13007 (AVal.int IntKind.u8 (↑c:Int))) (.hint (.val 13008 (AVal.bool true)) .nil))))))) (keep:= [0,4,5,6,7,8,2,3]) (by kernel_rfl) vc
theorem dz_vp(s:List UInt8)(i k c:Nat)(g n b:Int)(K0:AExit→Facts→AHeap→Prop)(vc:(b<6→(-9223372036854775808≤10*n∧10*n≤9223372036854775807)∧(-9223372036854775808≤b+1∧b+1≤9223372036854775807)∧K0 AExit.normal [(4,AVal.int IntKind.i64 g),(5,AVal.int IntKind.i64 (10*n)),(7,AVal.int IntKind.i64 (b+1))] (AHeap.rowsT 8 []))∧(¬b<6→K0 (AExit.exit 2) [(4,AVal.int IntKind.i64 g),(5,AVal.int IntKind.i64 n),(7,AVal.int IntKind.i64 b)] (AHeap.rowsT 2 []))) :
    ∃ e F1 h1,Runs Tryz.prog cnd 0 80 (loopAt Tryz.prog 68 1) [(4,.int .i64 g),(5,.int .i64 n),(7,.int .i64 b)] (⟨0,.nil⟩) e F1 h1∧K0 e F1 h1 :=
  tpath_runs env_ok mixed noSpecs_ok (hs:= .br 25001 (.hint (.go 27001) (.hint (.go 26001) .nil)) .nil) (keep:= [4,5,7]) (by kernel_rfl) vc
theorem dnN_vc(s:List UInt8)(c:Nat)(g n:Int)(k:Nat)(b n2:Int)(h1 h2:AHeap)(K0:AVal→AHeap→Prop)(vc:some (AVal.bool (decide ((↑(List.length s):Int)>0)))=some (AVal.bool true)∧aindex (AEnv.D env) 9 (AVal.str s) (AVal.int IntKind.i64 (0))=some (AVal.int IntKind.u8 (↑c:Int))∧some (AVal.bool ((↑c:Int) == 45))=some (AVal.bool true)∧((0:Int)≤1∧1≤(↑(List.length s):Int))∧Runs Tryz.prog cnd 0 80 (Code.loop (loopAt Tryz.prog 68 0)) [(0,AVal.str (List.drop 1 s)),(4,AVal.int IntKind.i64 (-1)),(5,AVal.int IntKind.i64 (0)),(6,AVal.int IntKind.i64 (0)),(7,AVal.int IntKind.i64 (-1)),(8,AVal.int IntKind.i64 (0))] (AHeap.rowsT 19 []) (AExit.exit 0) [(4,AVal.int IntKind.i64 g),(5,AVal.int IntKind.i64 n),(6,AVal.int IntKind.i64 (↑k:Int)),(7,AVal.int IntKind.i64 b)] h1∧((↑k:Int)=0→K0 (AVal.tuple [AVal.int IntKind.i64 (0),AVal.bool false]) (AHeap.mk (AHeap.next h1+6+2) (AHeap.blks (AHeap.mk (AHeap.next h1+6) (AHeap.blks h1)))))∧(¬(↑k:Int)=0→(b=0→K0 (AVal.tuple [AVal.int IntKind.i64 (0),AVal.bool false]) (AHeap.mk (AHeap.next h1+6+2) (AHeap.blks (AHeap.mk (AHeap.next h1+6) (AHeap.blks h1)))))∧(¬b=0→(b<0→Runs Tryz.prog cnd 0 80 (Code.loop (loopAt Tryz.prog 68 1)) [(4,AVal.int IntKind.i64 g),(5,AVal.int IntKind.i64 n),(7,AVal.int IntKind.i64 (0))] (AHeap.mk (AHeap.next h1+8+1) (AHeap.blks (AHeap.mk (AHeap.next h1+6+2) (AHeap.blks (AHeap.mk (AHeap.next h1+6) (AHeap.blks h1)))))) (AExit.exit 2) [(4,AVal.int IntKind.i64 g),(5,AVal.int IntKind.i64 n2)] h2∧(-9223372036854775808≤g*n2∧g*n2≤9223372036854775807)∧K0 (AVal.tuple [AVal.int IntKind.i64 (g*n2),AVal.bool true]) (AHeap.mk (AHeap.next h2+5) (AHeap.blks h2)))∧(¬b<0→Runs Tryz.prog cnd 0 80 (Code.loop (loopAt Tryz.prog 68 1)) [(4,AVal.int IntKind.i64 g),(5,AVal.int IntKind.i64 n),(7,AVal.int IntKind.i64 b)] (AHeap.mk (AHeap.next h1+6+2) (AHeap.blks (AHeap.mk (AHeap.next h1+6) (AHeap.blks h1)))) (AExit.exit 2) [(4,AVal.int IntKind.i64 g),(5,AVal.int IntKind.i64 n2)] h2∧(-9223372036854775808≤g*n2∧g*n2≤9223372036854775807)∧K0 (AVal.tuple [AVal.int IntKind.i64 (g*n2),AVal.bool true]) (AHeap.mk (AHeap.next h2+5) (AHeap.blks h2)))))) :
    ∃ v h1,FDoes Tryz.prog cnd 68 [.str s] (⟨0,.nil⟩) v h1∧K0 v h1 :=
  tcall_does env_ok mixed noSpecs_ok (hs:= .hint (.val 2002 (AVal.bool true)) (.hint (.val 2005 (AVal.int IntKind.u8 (↑c:Int))) (.hint (.val 2006 (AVal.bool true)) (.hint (.go 4001) (.hint (.keep [0,4,5,6,7,8]) (.hint (.loop [(4,AVal.int IntKind.i64 g),(5,AVal.int IntKind.i64 n),(6,AVal.int IntKind.i64 (↑k:Int)),(7,AVal.int IntKind.i64 b)] h1 (AExit.exit 0)) (.br 21001 .nil (.br 21004 .nil (.br 23001 (.hint (.keep [4,5,7]) (.hint (.loop [(4,AVal.int IntKind.i64 g),(5,AVal.int IntKind.i64 n2)] h2 (AExit.exit 2)) (.hint (.go 28002) .nil))) (.hint (.keep [4,5,7]) (.hint (.loop [(4,AVal.int IntKind.i64 g),(5,AVal.int IntKind.i64 n2)] h2 (AExit.exit 2)) (.hint (.go 28002) .nil)))))))))))) (by kernel_rfl) vc
theorem dnP_vc(s:List UInt8)(c:Nat)(g n:Int)(k:Nat)(b n2:Int)(h1 h2:AHeap)(K0:AVal→AHeap→Prop)(vc:some (AVal.bool (decide ((↑(List.length s):Int)>0)))=some (AVal.bool true)∧aindex (AEnv.D env) 9 (AVal.str s) (AVal.int IntKind.i64 (0))=some (AVal.int IntKind.u8 (↑c:Int))∧some (AVal.bool ((↑c:Int) == 45))=some (AVal.bool false)∧Runs Tryz.prog cnd 0 80 (Code.loop (loopAt Tryz.prog 68 0)) [(0,AVal.str s),(4,AVal.int IntKind.i64 (1)),(5,AVal.int IntKind.i64 (0)),(6,AVal.int IntKind.i64 (0)),(7,AVal.int IntKind.i64 (-1)),(8,AVal.int IntKind.i64 (0))] (AHeap.rowsT 15 []) (AExit.exit 0) [(4,AVal.int IntKind.i64 g),(5,AVal.int IntKind.i64 n),(6,AVal.int IntKind.i64 (↑k:Int)),(7,AVal.int IntKind.i64 b)] h1∧((↑k:Int)=0→K0 (AVal.tuple [AVal.int IntKind.i64 (0),AVal.bool false]) (AHeap.mk (AHeap.next h1+6+2) (AHeap.blks (AHeap.mk (AHeap.next h1+6) (AHeap.blks h1)))))∧(¬(↑k:Int)=0→(b=0→K0 (AVal.tuple [AVal.int IntKind.i64 (0),AVal.bool false]) (AHeap.mk (AHeap.next h1+6+2) (AHeap.blks (AHeap.mk (AHeap.next h1+6) (AHeap.blks h1)))))∧(¬b=0→(b<0→Runs Tryz.prog cnd 0 80 (Code.loop (loopAt Tryz.prog 68 1)) [(4,AVal.int IntKind.i64 g),(5,AVal.int IntKind.i64 n),(7,AVal.int IntKind.i64 (0))] (AHeap.mk (AHeap.next h1+8+1) (AHeap.blks (AHeap.mk (AHeap.next h1+6+2) (AHeap.blks (AHeap.mk (AHeap.next h1+6) (AHeap.blks h1)))))) (AExit.exit 2) [(4,AVal.int IntKind.i64 g),(5,AVal.int IntKind.i64 n2)] h2∧(-9223372036854775808≤g*n2∧g*n2≤9223372036854775807)∧K0 (AVal.tuple [AVal.int IntKind.i64 (g*n2),AVal.bool true]) (AHeap.mk (AHeap.next h2+5) (AHeap.blks h2)))∧(¬b<0→Runs Tryz.prog cnd 0 80 (Code.loop (loopAt Tryz.prog 68 1)) [(4,AVal.int IntKind.i64 g),(5,AVal.int IntKind.i64 n),(7,AVal.int IntKind.i64 b)] (AHeap.mk (AHeap.next h1+6+2) (AHeap.blks (AHeap.mk (AHeap.next h1+6) (AHeap.blks h1)))) (AExit.exit 2) [(4,AVal.int IntKind.i64 g),(5,AVal.int IntKind.i64 n2)] h2∧(-9223372036854775808≤g*n2∧g*n2≤9223372036854775807)∧K0 (AVal.tuple [AVal.int IntKind.i64 (g*n2),AVal.bool true]) (AHeap.mk (AHeap.next h2+5) (AHeap.blks h2)))))) :
    ∃ v h1,FDoes Tryz.prog cnd 68 [.str s] (⟨0,.nil⟩) v h1∧K0 v h1 :=
  tcall_does env_ok mixed noSpecs_ok (hs:= .hint (.val 2002 (AVal.bool true)) (.hint (.val 2005 (AVal.int IntKind.u8 (↑c:Int))) (.hint (.val 2006 (AVal.bool false)) (.hint (.keep [0,4,5,6,7,8]) (.hint (.loop [(4,AVal.int IntKind.i64 g),(5,AVal.int IntKind.i64 n),(6,AVal.int IntKind.i64 (↑k:Int)),(7,AVal.int IntKind.i64 b)] h1 (AExit.exit 0)) (.br 21001 .nil (.br 21004 .nil (.br 23001 (.hint (.keep [4,5,7]) (.hint (.loop [(4,AVal.int IntKind.i64 g),(5,AVal.int IntKind.i64 n2)] h2 (AExit.exit 2)) (.hint (.go 28002) .nil))) (.hint (.keep [4,5,7]) (.hint (.loop [(4,AVal.int IntKind.i64 g),(5,AVal.int IntKind.i64 n2)] h2 (AExit.exit 2)) (.hint (.go 28002) .nil))))))))))) (by kernel_rfl) vc
theorem dnZ_vc(s:List UInt8)(c:Nat)(g n:Int)(k:Nat)(b n2:Int)(h1 h2:AHeap)(K0:AVal→AHeap→Prop)(vc:some (AVal.bool (decide ((↑(List.length s):Int)>0)))=some (AVal.bool false)∧Runs Tryz.prog cnd 0 80 (Code.loop (loopAt Tryz.prog 68 0)) [(0,AVal.str s),(4,AVal.int IntKind.i64 (1)),(5,AVal.int IntKind.i64 (0)),(6,AVal.int IntKind.i64 (0)),(7,AVal.int IntKind.i64 (-1)),(8,AVal.int IntKind.i64 (0))] (AHeap.rowsT 15 []) (AExit.exit 0) [(4,AVal.int IntKind.i64 g),(5,AVal.int IntKind.i64 n),(6,AVal.int IntKind.i64 (↑k:Int)),(7,AVal.int IntKind.i64 b)] h1∧((↑k:Int)=0→K0 (AVal.tuple [AVal.int IntKind.i64 (0),AVal.bool false]) (AHeap.mk (AHeap.next h1+6+2) (AHeap.blks (AHeap.mk (AHeap.next h1+6) (AHeap.blks h1)))))∧(¬(↑k:Int)=0→(b=0→K0 (AVal.tuple [AVal.int IntKind.i64 (0),AVal.bool false]) (AHeap.mk (AHeap.next h1+6+2) (AHeap.blks (AHeap.mk (AHeap.next h1+6) (AHeap.blks h1)))))∧(¬b=0→(b<0→Runs Tryz.prog cnd 0 80 (Code.loop (loopAt Tryz.prog 68 1)) [(4,AVal.int IntKind.i64 g),(5,AVal.int IntKind.i64 n),(7,AVal.int IntKind.i64 (0))] (AHeap.mk (AHeap.next h1+8+1) (AHeap.blks (AHeap.mk (AHeap.next h1+6+2) (AHeap.blks (AHeap.mk (AHeap.next h1+6) (AHeap.blks h1)))))) (AExit.exit 2) [(4,AVal.int IntKind.i64 g),(5,AVal.int IntKind.i64 n2)] h2∧(-9223372036854775808≤g*n2∧g*n2≤9223372036854775807)∧K0 (AVal.tuple [AVal.int IntKind.i64 (g*n2),AVal.bool true]) (AHeap.mk (AHeap.next h2+5) (AHeap.blks h2)))∧(¬b<0→Runs Tryz.prog cnd 0 80 (Code.loop (loopAt Tryz.prog 68 1)) [(4,AVal.int IntKind.i64 g),(5,AVal.int IntKind.i64 n),(7,AVal.int IntKind.i64 b)] (AHeap.mk (AHeap.next h1+6+2) (AHeap.blks (AHeap.mk (AHeap.next h1+6) (AHeap.blks h1)))) (AExit.exit 2) [(4,AVal.int IntKind.i64 g),(5,AVal.int IntKind.i64 n2)] h2∧(-9223372036854775808≤g*n2∧g*n2≤9223372036854775807)∧K0 (AVal.tuple [AVal.int IntKind.i64 (g*n2),AVal.bool true]) (AHeap.mk (AHeap.next h2+5) (AHeap.blks h2)))))) :
    ∃ v h1,FDoes Tryz.prog cnd 68 [.str s] (⟨0,.nil⟩) v h1∧K0 v h1 :=
  tcall_does env_ok mixed noSpecs_ok (hs:= .hint (.val 2002 (AVal.bool false)) (.hint (.keep [0,4,5,6,7,8]) (.hint (.loop [(4,AVal.int IntKind.i64 g),(5,AVal.int IntKind.i64 n),(6,AVal.int IntKind.i64 (↑k:Int)),(7,AVal.int IntKind.i64 b)] h1 (AExit.exit 0)) (.br 21001 .nil (.br 21004 .nil (.br 23001 (.hint (.keep [4,5,7]) (.hint (.loop [(4,AVal.int IntKind.i64 g),(5,AVal.int IntKind.i64 n2)] h2 (AExit.exit 2)) (.hint (.go 28002) .nil))) (.hint (.keep [4,5,7]) (.hint (.loop [(4,AVal.int IntKind.i64 g),(5,AVal.int IntKind.i64 n2)] h2 (AExit.exit 2)) (.hint (.go 28002) .nil))))))))) (by kernel_rfl) vc
theorem dnNR_vc(s:List UInt8)(c:Nat)(g n:Int)(k:Nat)(b n2:Int)(h1 h2:AHeap)(K0:AVal→AHeap→Prop)(vc:some (AVal.bool (decide ((↑(List.length s):Int)>0)))=some (AVal.bool true)∧aindex (AEnv.D env) 9 (AVal.str s) (AVal.int IntKind.i64 (0))=some (AVal.int IntKind.u8 (↑c:Int))∧some (AVal.bool ((↑c:Int) == 45))=some (AVal.bool true)∧((0:Int)≤1∧1≤(↑(List.length s):Int))∧Runs Tryz.prog cnd 0 80 (Code.loop (loopAt Tryz.prog 68 0)) [(0,AVal.str (List.drop 1 s)),(4,AVal.int IntKind.i64 (-1)),(5,AVal.int IntKind.i64 (0)),(6,AVal.int IntKind.i64 (0)),(7,AVal.int IntKind.i64 (-1)),(8,AVal.int IntKind.i64 (0))] (AHeap.rowsT 19 []) AExit.ret [(2,AVal.int IntKind.i64 0),(3,AVal.bool false)] h1∧K0 (AVal.tuple [AVal.int IntKind.i64 (0),AVal.bool false]) h1) :
    ∃ v h1,FDoes Tryz.prog cnd 68 [.str s] (⟨0,.nil⟩) v h1∧K0 v h1 :=
  tcall_does env_ok mixed noSpecs_ok (hs:= .hint (.val 2002 (AVal.bool true)) (.hint (.val 2005 (AVal.int IntKind.u8 (↑c:Int))) (.hint (.val 2006 (AVal.bool true)) (.hint (.go 4001) (.hint (.keep [0,4,5,6,7,8]) (.hint (.loop [(2,AVal.int IntKind.i64 0),(3,AVal.bool false)] h1 AExit.ret) .nil)))))) (by kernel_rfl) vc
theorem dnPR_vc(s:List UInt8)(c:Nat)(g n:Int)(k:Nat)(b n2:Int)(h1 h2:AHeap)(K0:AVal→AHeap→Prop)(vc:some (AVal.bool (decide ((↑(List.length s):Int)>0)))=some (AVal.bool true)∧aindex (AEnv.D env) 9 (AVal.str s) (AVal.int IntKind.i64 (0))=some (AVal.int IntKind.u8 (↑c:Int))∧some (AVal.bool ((↑c:Int) == 45))=some (AVal.bool false)∧Runs Tryz.prog cnd 0 80 (Code.loop (loopAt Tryz.prog 68 0)) [(0,AVal.str s),(4,AVal.int IntKind.i64 (1)),(5,AVal.int IntKind.i64 (0)),(6,AVal.int IntKind.i64 (0)),(7,AVal.int IntKind.i64 (-1)),(8,AVal.int IntKind.i64 (0))] (AHeap.rowsT 15 []) AExit.ret [(2,AVal.int IntKind.i64 0),(3,AVal.bool false)] h1∧K0 (AVal.tuple [AVal.int IntKind.i64 (0),AVal.bool false]) h1) :
    ∃ v h1,FDoes Tryz.prog cnd 68 [.str s] (⟨0,.nil⟩) v h1∧K0 v h1 :=
  tcall_does env_ok mixed noSpecs_ok (hs:= .hint (.val 2002 (AVal.bool true)) (.hint (.val 2005 (AVal.int IntKind.u8 (↑c:Int))) (.hint (.val 2006 (AVal.bool false)) (.hint (.keep [0,4,5,6,7,8]) (.hint (.loop [(2,AVal.int IntKind.i64 0),(3,AVal.bool false)] h1 AExit.ret) .nil))))) (by kernel_rfl) vc
end Go.Proofs.YtjpfnbihopoeeaaGreatDoor
namespace Go.Proofs.YtjpfnbihopoeeaaGreatDoor
open Go.Lift
set_option maxRecDepth 1000000
def dGo:Nat→Nat→Int→Bytes→Option (Nat×Nat×Int)
  | n,k,b,[]=>some (n,k,b)
  | n,k,b,c::r =>
    if c.toNat=46∧b<0 then dGo n k 0 r
    else if dig c=false then none
    else if b<0 then(if 9<k+1 then none else dGo (10*n+(c.toNat-48)) (k+1) b r)
    else if 6<b+1 then none else dGo (10*n+(c.toNat-48)) k (b+1) r
def DOk(n k:Nat)(b:Int):Prop:=k≤9∧ -1≤b∧b≤6∧n<10^(k+b.toNat)
theorem DOk.lt {n k:Nat}{b:Int}(h:DOk n k b):n<10^15:=by
  obtain⟨h1,h2,h3,h4⟩:=h
  exact Nat.lt_of_lt_of_le h4 (Nat.pow_le_pow_right (by decide) (by omega))
theorem p15:(10:Nat)^15=1000000000000000:=by decide
theorem DOk.next {n k:Nat}{b:Int}{d:Nat}(h:DOk n k b)(hd:d≤9):10*n+d<10^(k+b.toNat+1):=by
  have:=h.2.2.2
  rw [Nat.pow_succ];omega
theorem dGo_ok: ∀ (r:Bytes) (n k:Nat) (b:Int),DOk n k b→ ∀ n' k' b',dGo n k b r=some (n',k',b')→DOk n' k' b':=by
  intro r
  induction r with
  | nil=>intro n k b h n' k' b' e;simp only [dGo,Option.some.injEq,Prod.mk.injEq]at e;obtain⟨rfl,rfl,rfl⟩:=e;exact h
  | cons c r ih =>
    intro n k b h n' k' b' e
    unfold dGo at e
    split at e
    · rename_i hc
      refine ih n k 0 ⟨h.1,by omega,by omega,?_⟩ _ _ _ e
      have:=h.2.2.2
      rwa [show b.toNat=(0:Int).toNat by omega]at this
    · split at e
      · cases e
      · rename_i hd
        have hd:48≤c.toNat∧c.toNat≤57:=by simpa [dig]using hd
        have hn:=h.next (d:=c.toNat-48) (by omega)
        split at e
        · split at e
          · cases e
          · refine ih _ _ _ ⟨by omega,h.2.1,h.2.2.1,?_⟩ _ _ _ e
            rwa [show k+1+b.toNat=k+b.toNat+1 by omega]
        · split at e
          · cases e
          · refine ih _ _ _ ⟨h.1,by omega,by omega,?_⟩ _ _ _ e
            rwa [show k+(b+1).toNat=k+b.toNat+1 by omega]
noncomputable abbrev dnC:Code:=loopAt Tryz.prog 68 0
noncomputable abbrev dzC:Code:=loopAt Tryz.prog 68 1
abbrev dF(t:Bytes)(g:Int)(n k:Nat)(b:Int)(i:Nat):Facts:= [(0,.str t),(4,.int .i64 g),(5,.int .i64 (n:Nat)),(6,.int .i64 (k:Nat)),(7,.int .i64 b),(8,.int .i64 (i:Nat))]
abbrev dX(g:Int)(n k:Nat)(b:Int):Facts:= [(4,.int .i64 g),(5,.int .i64 (n:Nat)),(6,.int .i64 (k:Nat)),(7,.int .i64 b)]
abbrev dR:Facts:= [(2,.int .i64 0),(3,.bool false)]
theorem dn_ent(t:Bytes)(g:Int)(n k:Nat)(b:Int)(i:Nat)(h:AHeap):Ent 0 80 (dF t g n k b i) h (dF t g n k b i) ⟨0,.nil⟩ :=
  Ent.drop (K:=0) (l:= []) rfl (by decide) (by decide) (by rfl) (All.cons trivial (All.cons trivial (All.cons trivial (All.cons trivial (All.cons trivial (All.cons trivial All.nil)))))) All.nil
theorem facts_of {F:Facts}{h:AHeap} : ∀ (l:Facts),(∀ p∈l,lookF F p.1=some p.2)→(l.map (·.1)).Nodup→Ent 0 80 F h l h:=by
  intro l hk hn
  refine Ent.facts ?_
  induction l with
  | nil=>intro j u hu;simp [lookF]at hu
  | cons p r ih =>
    obtain⟨a,v⟩:=p
    intro j u hu
    rw [lookF_cons]at hu
    split at hu
    · rename_i hj;subst hj;rw [← hu];exact hk _ List.mem_cons_self
    · exact ih (fun q hq=>hk q (List.mem_cons_of_mem _ hq)) (List.nodup_cons.1 hn).2 j u hu
theorem str_at(t:Bytes)(i:Nat)(hi:i<t.length):aindex (AEnv.D env) 9 (.str t) (.int .i64 (i:Nat))=some (.int .u8 ((t[i]).toNat:Nat)):=by
  have hD:(AEnv.D env 9).map (fun d=>d.kind)=some .string:=by kernel_rfl
  obtain⟨d,h1,h2⟩:=Option.map_eq_some_iff.1 hD
  unfold aindex
  rw [h1]
  simp only [h2]
  rw [if_pos (by omega)]
  simp [hi]
theorem dn_loop (t:Bytes) (ht:t.length<2^48) (g:Int): ∀ (m i n k:Nat) (b:Int),t.length-i≤m→i≤t.length→DOk n k b →
    (∀ n' k' b',dGo n k b (t.drop i)=some (n',k',b')→ ∃ h',Loops Tryz.prog cnd 0 80 dnC (dF t g n k b i) ⟨0,.nil⟩ (.exit 0) (dX g n' k' b') h') ∧
    (dGo n k b (t.drop i)=none→ ∃ h',Loops Tryz.prog cnd 0 80 dnC (dF t g n k b i) ⟨0,.nil⟩ .ret dR h'):=by
  have last: ∀ (n k:Nat) (b:Int),(∀ n' k' b',dGo n k b (t.drop t.length)=some (n',k',b')→ ∃ h',Loops Tryz.prog cnd 0 80 dnC (dF t g n k b t.length) ⟨0,.nil⟩ (.exit 0) (dX g n' k' b') h') ∧
    (dGo n k b (t.drop t.length)=none→ ∃ h',Loops Tryz.prog cnd 0 80 dnC (dF t g n k b t.length) ⟨0,.nil⟩ .ret dR h'):=by
    intro n k b
    rw [List.drop_length]
    refine⟨fun n' k' b' e=> ?_,fun e=>by simp [dGo]at e⟩
    simp only [dGo,Option.some.injEq,Prod.mk.injEq]at e
    obtain⟨rfl,rfl,rfl⟩:=e
    obtain⟨e,F1,h1,hr,rfl,rfl⟩:=dnE_vp t t.length n k 0 g b (fun e F1 h1=>e= .exit 0∧F1=dF t g n k b t.length) ⟨by simp,rfl,rfl⟩
    exact⟨_,(Loops.last (by simp) hr).post (facts_of (dX g n k b) (by intro p hp;simp only [List.mem_cons,List.not_mem_nil,or_false]at hp;rcases hp with rfl | rfl | rfl | rfl<;>rfl) (by show [4,5,6,7].Nodup;decide))⟩
  intro m
  induction m with
  | zero => intro i n k b hm hi hok;obtain rfl:i=t.length:=by omega
            exact last n k b
  | succ m ih =>
    intro i n k b hm hi hok
    by_cases hc:i<t.length
    · have e1 : t.drop i=t[i]::t.drop (i+1):=List.drop_eq_getElem_cons hc
      rw [e1]
      have hx:=str_at t i hc
      have h15:=hok.lt
      rw [p15]at h15
      have h256:(t[i]).toNat<256:=(t[i]).toNat_lt
      have hlt:some (AVal.bool (decide ((i:Int)<(t.length:Int))))=some (AVal.bool true):=by simp [hc]
      obtain⟨hk9,hb1,hb6,hnk⟩:=id hok
      have si:((i:Int)+1)=((i+1:Nat):Int):=by omega
      have ret: ∀ {e:AExit} {F1:Facts} {h1:AHeap},Runs Tryz.prog cnd 0 80 dnC (dF t g n k b i) ⟨0,.nil⟩ e F1 h1→e= .ret∧lookF F1 2=some (.int .i64 0)∧lookF F1 3=some (.bool false)→ ∃ h',Loops Tryz.prog cnd 0 80 dnC (dF t g n k b i) ⟨0,.nil⟩ .ret dR h':=by
        rintro e F1 h1 hr ⟨rfl,h2,h3⟩
        exact⟨_,(Loops.last (by simp) hr).post (facts_of dR (by intro p hp;simp only [List.mem_cons,List.not_mem_nil,or_false]at hp;rcases hp with rfl | rfl<;>assumption) (by show [2,3].Nodup;decide))⟩
      have go: ∀ {n1 k1:Nat} {b1:Int} {h1:AHeap},DOk n1 k1 b1→Runs Tryz.prog cnd 0 80 dnC (dF t g n k b i) ⟨0,.nil⟩ .normal (dF t g n1 k1 b1 (i+1)) h1 →
          (∀ n' k' b',dGo n1 k1 b1 (t.drop (i+1))=some (n',k',b')→ ∃ h',Loops Tryz.prog cnd 0 80 dnC (dF t g n k b i) ⟨0,.nil⟩ (.exit 0) (dX g n' k' b') h') ∧
          (dGo n1 k1 b1 (t.drop (i+1))=none→ ∃ h',Loops Tryz.prog cnd 0 80 dnC (dF t g n k b i) ⟨0,.nil⟩ .ret dR h'):=by
        intro n1 k1 b1 h1 ho hr
        obtain⟨a1,a2⟩:=ih (i+1) n1 k1 b1 (by omega) (by omega) ho
        refine⟨fun n' k' b' e=> ?_,fun e=> ?_⟩
        · obtain⟨h',hl⟩:=a1 n' k' b' e
          exact⟨h',Loops.round hr (dn_ent t g n1 k1 b1 (i+1) h1) hl⟩
        · obtain⟨h',hl⟩:=a2 e
          exact⟨h',Loops.round hr (dn_ent t g n1 k1 b1 (i+1) h1) hl⟩
      have hdg:dig t[i]=(decide (48≤(t[i]).toNat) && decide ((t[i]).toNat≤57)):=rfl
      unfold dGo
      generalize (t[i]).toNat=c at hx h256 hdg
      rw [hdg]
      by_cases c46:c=46
      · by_cases hb:b<0
        · rw [if_pos ⟨c46,hb⟩]
          obtain⟨e,F1,h1,hr,rfl,rfl⟩:=dnD_vp t i n k c g b (fun e F1 h1=>e= .normal∧F1=dF t g n k 0 (i+1)) ⟨hlt,hx,by simp [c46],by simp [hb],⟨by omega,by omega⟩,rfl,by unfold dF;rw [si]⟩
          exact go ⟨hk9,by omega,by omega,by rwa [show b.toNat=(0:Int).toNat by omega]at hnk⟩ hr
        · rw [if_neg (by omega),if_pos (by simp [c46])]
          obtain⟨e,F1,h1,hr,hk⟩:=dnX1_vp t i n k c g b (fun e F1 h1=>e= .ret∧lookF F1 2=some (.int .i64 0)∧lookF F1 3=some (.bool false)) ⟨hlt,hx,by simp [c46],by simp [hb],hx,by simp [c46],rfl,rfl,rfl⟩
          exact⟨fun _ _ _ e=>(by cases e),fun _=>ret hr hk⟩
      · rw [if_neg (by omega)]
        have n46:some (AVal.bool ((c:Int) == 46))=some (AVal.bool false):=by simp;omega
        by_cases hlo:c<48
        · rw [if_pos (by simp;omega)]
          obtain⟨e,F1,h1,hr,hk⟩:=dnX2_vp t i n k c g b (fun e F1 h1=>e= .ret∧lookF F1 2=some (.int .i64 0)∧lookF F1 3=some (.bool false)) ⟨hlt,hx,n46,hx,by simp;omega,rfl,rfl,rfl⟩
          exact⟨fun _ _ _ e=>(by cases e),fun _=>ret hr hk⟩
        · by_cases hhi:57<c
          · rw [if_pos (by simp;omega)]
            obtain⟨e,F1,h1,hr,hk⟩:=dnX3_vp t i n k c g b (fun e F1 h1=>e= .ret∧lookF F1 2=some (.int .i64 0)∧lookF F1 3=some (.bool false)) ⟨hlt,hx,n46,hx,by simp;omega,hx,by simp;omega,rfl,rfl,rfl⟩
            exact⟨fun _ _ _ e=>(by cases e),fun _=>ret hr hk⟩
          · rw [if_neg (by simp;omega)]
            have hn:=hok.next (d:=c-48) (by omega)
            have sn:(10* (n:Int)+(c:Int)-48)=((10*n+(c-48):Nat):Int):=by omega
            have pre: ∀ {K:Prop},K→some (AVal.bool (decide ((i:Int)<(t.length:Int))))=some (AVal.bool true)∧K:=fun k=>⟨hlt,k⟩
            by_cases hb:b<0
            · rw [if_pos hb]
              obtain⟨e,F1,h1,hr,hk⟩:=dnA_vp t i n k c g b (fun e F1 h1=>if 9<k+1 then e= .ret∧lookF F1 2=some (.int .i64 0)∧lookF F1 3=some (.bool false)else e= .normal∧F1=dF t g (10*n+(c-48)) (k+1) b (i+1))
                ⟨hlt,hx,n46,hx,by simp;omega,hx,by simp;omega,⟨by omega,by omega⟩,hx,⟨by omega,by omega⟩,⟨by omega,by omega⟩,⟨by omega,by omega⟩,by simp [hb],⟨by omega,by omega⟩,
                  fun h=>by rw [if_pos (by omega)];exact⟨rfl,rfl,rfl⟩,fun h=>⟨fun h2=>by omega,fun _=>⟨⟨by omega,by omega⟩,by rw [if_neg (by omega)];exact⟨rfl,by unfold dF;rw [si,sn,show((k:Int)+1)=((k+1:Nat):Int)by omega]⟩⟩⟩⟩
              by_cases h9:9<k+1
              · rw [if_pos h9]at hk ⊢
                exact⟨fun _ _ _ e=>(by cases e),fun _=>ret hr hk⟩
              · rw [if_neg h9]at hk ⊢
                obtain⟨rfl,rfl⟩:=hk
                exact go ⟨by omega,hb1,hb6,by rwa [show k+1+b.toNat=k+b.toNat+1 by omega]⟩ hr
            · rw [if_neg hb]
              obtain⟨e,F1,h1,hr,hk⟩:=dnB_vp t i n k c g b (fun e F1 h1=>if 6<b+1 then e= .ret∧lookF F1 2=some (.int .i64 0)∧lookF F1 3=some (.bool false)else e= .normal∧F1=dF t g (10*n+(c-48)) k (b+1) (i+1))
                ⟨hlt,hx,n46,hx,by simp;omega,hx,by simp;omega,⟨by omega,by omega⟩,hx,⟨by omega,by omega⟩,⟨by omega,by omega⟩,⟨by omega,by omega⟩,by simp;omega,⟨by omega,by omega⟩,
                  fun h=>by omega,fun h=>⟨fun h2=>by rw [if_pos h2];exact⟨rfl,rfl,rfl⟩,fun h2=>⟨⟨by omega,by omega⟩,by rw [if_neg h2];exact⟨rfl,by unfold dF;rw [si,sn]⟩⟩⟩⟩
              by_cases h6:6<b+1
              · rw [if_pos h6]at hk ⊢
                exact⟨fun _ _ _ e=>(by cases e),fun _=>ret hr hk⟩
              · rw [if_neg h6]at hk ⊢
                obtain⟨rfl,rfl⟩:=hk
                exact go ⟨hk9,by omega,by omega,by rwa [show k+(b+1).toNat=k+b.toNat+1 by omega]⟩ hr
    · obtain rfl:i=t.length:=by omega
      exact last n k b
end Go.Proofs.YtjpfnbihopoeeaaGreatDoor
namespace Go.Proofs.YtjpfnbihopoeeaaGreatDoor
open Go.Lift
set_option maxRecDepth 1000000
def numS(t:Bytes)(g:Int):Option Int:=match dGo 0 0 (-1) t with
  | none=>none
  | some (n,k,b)=>if k=0∨b=0 then none else some (g* ((n*10^(6-b.toNat):Nat):Int))
def numD:Bytes→Option Int
  | []=>none
  | c::r=>if c.toNat=45 then numS r (-1)else numS (c::r) 1
def numA:Option Int→AVal
  | none=> .tuple [.int .i64 0,.bool false]
  | some z=> .tuple [.int .i64 z,.bool true]
theorem numA_bare(o:Option Int):(numA o).bareB=true:=by cases o<;>rfl
theorem dz_ent(g n b:Int)(h:AHeap):Ent 0 80 [(4,.int .i64 g),(5,.int .i64 n),(7,.int .i64 b)] h [(4,.int .i64 g),(5,.int .i64 n),(7,.int .i64 b)] ⟨0,.nil⟩ :=
  Ent.drop (K:=0) (l:= []) rfl (by decide) (by decide) (by rfl) (All.cons trivial (All.cons trivial (All.cons trivial All.nil))) All.nil
theorem dz_loop(g:Int): ∀ (m n b:Nat),6-b=m→b≤6→n*10^m<10^15 →
    ∃ h',Loops Tryz.prog cnd 0 80 dzC [(4,.int .i64 g),(5,.int .i64 (n:Nat)),(7,.int .i64 (b:Nat))] ⟨0,.nil⟩ (.exit 2) [(4,.int .i64 g),(5,.int .i64 (n*10^m:Nat))] h':=by
  intro m
  induction m with
  | zero =>
    intro n b hm hb hn
    obtain⟨e,F1,h1,hr,hk⟩:=dz_vp [] 0 0 0 g n b (fun e F1 h1=>e= .exit 2∧F1= [(4,.int .i64 g),(5,.int .i64 n),(7,.int .i64 b)]) ⟨fun h=>by omega,fun _=>⟨rfl,rfl⟩⟩
    obtain⟨rfl,rfl⟩:=hk
    exact⟨_,(Loops.last (by simp) hr).post (facts_of _ (by intro p hp;simp only [List.mem_cons,List.not_mem_nil,or_false]at hp;rcases hp with rfl | rfl<;>simp [lookF_cons]) (by show [4,5].Nodup;decide))⟩
  | succ m ih =>
    intro n b hm hb hn
    have e:n*10^(m+1)=(10*n)*10^m:=by rw [Nat.pow_succ];ac_rfl
    rw [e]at hn ⊢
    have hp:1≤10^m:=Nat.one_le_pow _ _ (by decide)
    have hle:10*n≤10*n*10^m:=Nat.le_mul_of_pos_right _ hp
    rw [p15]at hn
    obtain⟨e,F1,h1,hr,hk⟩:=dz_vp [] 0 0 0 g n b (fun e F1 h1=>e= .normal∧F1= [(4,.int .i64 g),(5,.int .i64 ((10*n:Nat):Int)),(7,.int .i64 ((b+1:Nat):Int))]) ⟨fun h=>⟨⟨by omega,by omega⟩,⟨by omega,by omega⟩,rfl,by rw [show(10* (n:Int))=((10*n:Nat):Int)by omega,show((b:Int)+1)=((b+1:Nat):Int)by omega]⟩,fun h=>by omega⟩
    obtain⟨rfl,rfl⟩:=hk
    obtain⟨h',hl⟩:=ih (10*n) (b+1) (by omega) (by omega) (by rw [p15];exact hn)
    exact⟨h',Loops.round hr (dz_ent _ _ _ _) hl⟩
theorem dn_head {t:Bytes}{g:Int}{n k:Nat}{b:Int}{i:Nat}{F:Facts}{h:AHeap}{e:AExit}{F':Facts}{h':AHeap}(hl:Loops Tryz.prog cnd 0 80 dnC (dF t g n k b i) ⟨0,.nil⟩ e F' h')(he:F=dF t g n k b i):Runs Tryz.prog cnd 0 80 (.loop dnC) F h e F' h':=by
  subst he
  exact(Runs.of_loops hl).pre (dn_ent t g n k b i h)
theorem dz_head {g n b:Int}{F:Facts}{h:AHeap}{e:AExit}{F':Facts}{h':AHeap}(hl:Loops Tryz.prog cnd 0 80 dzC [(4,.int .i64 g),(5,.int .i64 n),(7,.int .i64 b)] ⟨0,.nil⟩ e F' h')(he:F= [(4,.int .i64 g),(5,.int .i64 n),(7,.int .i64 b)]):Runs Tryz.prog cnd 0 80 (.loop dzC) F h e F' h':=by
  subst he
  exact(Runs.of_loops hl).pre (dz_ent g n b h)
theorem dn_all(t:Bytes)(ht:t.length<2^48)(g:Int) :
    (∃ h1,dGo 0 0 (-1) t=none∧Loops Tryz.prog cnd 0 80 dnC (dF t g 0 0 (-1) 0) ⟨0,.nil⟩ .ret dR h1) ∨
    (∃ n k b h1 h2,dGo 0 0 (-1) t=some (n,k,b)∧n*10^(6-b.toNat)<10^15∧ -1≤b∧Loops Tryz.prog cnd 0 80 dnC (dF t g 0 0 (-1) 0) ⟨0,.nil⟩ (.exit 0) (dX g n k b) h1 ∧
      Loops Tryz.prog cnd 0 80 dzC [(4,.int .i64 g),(5,.int .i64 (n:Nat)),(7,.int .i64 (b.toNat:Nat))] ⟨0,.nil⟩ (.exit 2) [(4,.int .i64 g),(5,.int .i64 (n*10^(6-b.toNat):Nat))] h2):=by
  have h0:DOk 0 0 (-1):=⟨by decide,by decide,by decide,by decide⟩
  obtain⟨a1,a2⟩:=dn_loop t ht g t.length 0 0 0 (-1) (by omega) (by omega) h0
  rw [List.drop_zero]at a1 a2
  cases hd:dGo 0 0 (-1) t with
  | none=>obtain⟨h1,hl⟩:=a2 hd;exact Or.inl ⟨h1,rfl,hl⟩
  | some v =>
    obtain⟨n,k,b⟩:=v
    obtain⟨h1,hl⟩:=a1 n k b hd
    obtain⟨o1,o2,o3,o4⟩:=dGo_ok t 0 0 (-1) h0 n k b hd
    have hp:n*10^(6-b.toNat)<10^15:=by
      have:n*10^(6-b.toNat)<10^(k+b.toNat)*10^(6-b.toNat):=Nat.mul_lt_mul_of_pos_right o4 (Nat.pow_pos (by decide))
      rw [← Nat.pow_add]at this
      exact Nat.lt_of_lt_of_le this (Nat.pow_le_pow_right (by decide) (by omega))
    obtain⟨h2,hz⟩:=dz_loop g (6-b.toNat) n b.toNat rfl (by omega) hp
    exact Or.inr ⟨n,k,b,h1,h2,rfl,hp,o2,hl,hz⟩
theorem dnum_does (s:Bytes) (hs:s.length<2^48) (H:AHeap):FDoes Tryz.prog cnd 68 [.str s] H (numA (numD s)) H:=by
  have key: ∀ (t:Bytes) (g:Int) (x:Int),(g=1∨g= -1)→x<1000000000000000→0≤x→ -9223372036854775808≤g*x∧g*x≤9223372036854775807:=by
    intro t g x hg h1 h2
    rcases hg with rfl | rfl<;>omega
  cases s with
  | nil =>
    obtain⟨n,k,b,h1,h2,hd,hp,hb,hl,hz⟩:=(dn_all [] hs 1).resolve_left (by rintro ⟨h1,hd, -⟩;cases hd)
    have hd':=hd
    simp only [dGo,Option.some.injEq,Prod.mk.injEq]at hd
    obtain⟨rfl,rfl,rfl⟩:=hd
    refine FDoes.ofVC (dnZ_vc [] 0 1 (0:Nat) 0 (-1) 0 h1 h2 (fun v _=>v=numA (numD [])) ⟨rfl,dn_head hl rfl,fun _=>rfl,fun h=>absurd rfl h⟩) rfl (numA_bare _) H
  | cons c r =>
    have hc:some (AVal.bool (decide (((c::r).length:Int)>0)))=some (AVal.bool true):=by simp
    have hx:aindex (AEnv.D env) 9 (AVal.str (c::r)) (AVal.int IntKind.i64 (0))=some (AVal.int IntKind.u8 (c.toNat:Nat)):=str_at (c::r) 0 (by simp)
    by_cases h45:c.toNat=45
    · have hn:numD (c::r)=numS r (-1):=by simp [numD,h45]
      rw [hn]
      rcases dn_all r (by simp at hs;omega) (-1)with ⟨h1,hd,hl⟩ | ⟨n,k,b,h1,h2,hd,hp,hb,hl,hz⟩
      · have hv:numS r (-1)=none:=by simp [numS,hd]
        rw [hv]
        exact FDoes.ofVC (dnNR_vc (c::r) c.toNat 0 0 0 0 0 h1 h1 (fun v _=>v=numA none) ⟨hc,hx,by simp [h45],⟨by decide,by simp only [List.length_cons];omega⟩,dn_head hl rfl,rfl⟩) rfl rfl H
      · have hv:numS r (-1)=if k=0∨b=0 then none else some ((-1)* ((n*10^(6-b.toNat):Nat):Int)):=by simp only [numS,hd]
        rw [hv]
        rw [p15]at hp
        refine FDoes.ofVC (dnN_vc (c::r) c.toNat (-1) n k b ((n*10^(6-b.toNat):Nat):Int) h1 h2 (fun v _=>v=numA (if k=0∨b=0 then none else some ((-1)* ((n*10^(6-b.toNat):Nat):Int)))) ⟨hc,hx,by simp [h45],⟨by decide,by simp only [List.length_cons];omega⟩,dn_head hl rfl,?_⟩) rfl (numA_bare _) H
        refine⟨fun h=>by rw [if_pos (Or.inl (by omega))];rfl,fun h=>⟨fun hb=>by rw [if_pos (Or.inr hb)];rfl,fun hb0=>⟨fun hl=>⟨dz_head hz (by rw [show(b.toNat:Int)=0 by omega]),key [] _ _ (Or.inr rfl) (by omega) (by omega),by rw [if_neg (by omega)];rfl⟩,fun hl=>⟨dz_head hz (by rw [show(b.toNat:Int)=b by omega]),key [] _ _ (Or.inr rfl) (by omega) (by omega),by rw [if_neg (by omega)];rfl⟩⟩⟩⟩
    · have hn:numD (c::r)=numS (c::r) 1:=by simp [numD,h45]
      rw [hn]
      have h45':some (AVal.bool ((c.toNat:Int) == 45))=some (AVal.bool false):=by simp;omega
      rcases dn_all (c::r) hs 1 with ⟨h1,hd,hl⟩ | ⟨n,k,b,h1,h2,hd,hp,hb,hl,hz⟩
      · have hv:numS (c::r) 1=none:=by simp [numS,hd]
        rw [hv]
        exact FDoes.ofVC (dnPR_vc (c::r) c.toNat 0 0 0 0 0 h1 h1 (fun v _=>v=numA none) ⟨hc,hx,h45',dn_head hl rfl,rfl⟩) rfl rfl H
      · have hv:numS (c::r) 1=if k=0∨b=0 then none else some (1* ((n*10^(6-b.toNat):Nat):Int)):=by simp only [numS,hd]
        rw [hv]
        rw [p15]at hp
        refine FDoes.ofVC (dnP_vc (c::r) c.toNat 1 n k b ((n*10^(6-b.toNat):Nat):Int) h1 h2 (fun v _=>v=numA (if k=0∨b=0 then none else some (1* ((n*10^(6-b.toNat):Nat):Int)))) ⟨hc,hx,h45',dn_head hl rfl,?_⟩) rfl (numA_bare _) H
        refine⟨fun h=>by rw [if_pos (Or.inl (by omega))];rfl,fun h=>⟨fun hb=>by rw [if_pos (Or.inr hb)];rfl,fun hb0=>⟨fun hl=>⟨dz_head hz (by rw [show(b.toNat:Int)=0 by omega]),key [] _ _ (Or.inl rfl) (by omega) (by omega),by rw [if_neg (by omega)];rfl⟩,fun hl=>⟨dz_head hz (by rw [show(b.toNat:Int)=b by omega]),key [] _ _ (Or.inl rfl) (by omega) (by omega),by rw [if_neg (by omega)];rfl⟩⟩⟩⟩
end Go.Proofs.YtjpfnbihopoeeaaGreatDoor
