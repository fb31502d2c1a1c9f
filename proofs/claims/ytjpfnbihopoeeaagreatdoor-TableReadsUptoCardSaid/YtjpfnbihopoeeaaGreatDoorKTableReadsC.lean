/-
  Parts of the proof, one behind the other:
  THE LIFT, PART S: runs of the abstract machine over values that are not known: a path through a function is run with hints (what an operation answers that cannot be worked out, which way a test goes), and what the hints ask is told.
  THE LIFT, PART T: paths (part S) are sound: what a path answers the model does, wherever the rows lie; loops; functions.
  THE LIFT, PART V: canonical memories; rows forgotten at a loop's head; a call told of a small memory, in every memory; what hints ask, paid.
  THE LIFT, PART Q: runs over values that are not known, as a tree: where a test cannot be worked out both ways are gone; what is left to show comes out as one proposition.
  THE LIFT, PART W: a call told of a small memory whose rows name rows of it, in every memory.
  A CALL TOLD OF A SMALL MEMORY, IN EVERY MEMORY: the rows lie where they lie, what is new lies behind.
  Numbers of the table: strconv.ParseUint's loop, table.number, the document's Number: the walks.
  A text parted at a byte, plainly.
  strings.Count, strings.Index at one byte by the kit's contracts; strings.genSplit at one byte: the trees.
  strings.Count, strings.Index at one byte: by the kit's contracts.
  THE LIFT, PART X: at a loop's head or end rows get other numbers; rows that nobody names are added.
  strings.genSplit at a byte, as the model has it.
  strings.Split at a byte.
  strings.Split at a byte, in every memory; how a text lies in parts: the slices' rows in turn.
  internal/strconv.ParseUint at base 10 and 63 bits, of at most 15 bytes; strconv.ParseUint.
  The library's calls in table.number, in every memory: stringslite.Index at one byte, strings.Repeat, strconv.toError, bytealg.CompareString.
  table.number, table.field, the function that By makes, and the document's: the walks.
  The document's Number, in plain Lean, and its walk.
  The document's Number: what it gives.
  Numbers of a field, in plain Lean: table's number and the document's Number are one.
  Contracts: strings.CutPrefix, strings.Cut, table.number.
  Fields of a row, and what holds rows against each other.
  Contracts: a row's field, sign, cmp.Compare, strings.Compare.
  The document's parts: its rounds as trees; memory a variable.
  The document's parts, plainly.
  A list of texts that grows, in a variable memory.
  The document's parts: its loop, in a variable memory.
  The document's parts: the whole loop.
  The document's parts, as a tree.
  The document's parts, in every memory.
  Slices of cells in a variable memory: read, written, grown.
  Tables of texts in a variable memory.
  Same, SameRow, mark, and the rounds of both Rows, as trees.
  Same, SameRow and mark in every memory.
-/
import Derived.Lib.Bytealg
import Derived.Shelf.Strings.Count
import Derived.Shelf.Strings.Search3
import Derived.Shelf.Strings.Search2
import Derived.Shelf.Small.Strs
import Derived.Test.YtjpfnbihopoeeaaGreatDoorKTableReadsB
set_option linter.unusedVariables false
set_option linter.unusedSimpArgs false
set_option linter.unusedSectionVars false
namespace Go.Lift
noncomputable section
abbrev Facts:=List (Nat×AVal)
def lookF:Facts→Nat→Option AVal
  | [],_=>none
  | (k,v)::r,t=>cond (Nat.beq k t) (some v) (lookF r t)
def dropF(t:Nat):Facts→Facts
  | []=> []
  | (k,v)::r=>cond (Nat.beq k t) (dropF t r) ((k,v)::dropF t r)
def setF(F:Facts)(d:Option Tmp)(v:AVal):Facts :=
  match d with
  | some d=>(d,v)::dropF d F
  | none=>F
def onlyF(F:Facts):List Nat→Facts
  | []=> []
  | t::r=>match lookF F t with | some v=>(t,v)::onlyF F r | none=>onlyF F r
def Has(F:Facts)(s:List AVal):Prop:= ∀ t v,lookF F t=some v→s[t]? =some v
theorem beq_cases(a b:Nat):(a=b∧Nat.beq a b=true)∨(a≠b∧Nat.beq a b=false):=by
  by_cases h:a=b
  · exact .inl ⟨h,beq_true h⟩
  · exact .inr ⟨h,beq_false h⟩
theorem lookF_cons(k:Nat)(v:AVal)(r:Facts)(t:Nat):lookF ((k,v)::r) t=if k=t then some v else lookF r t:=by
  simp only [lookF]
  rcases beq_cases k t with ⟨h,e⟩ | ⟨h,e⟩<;>simp [h,e]
theorem lookF_drop(d t:Nat)(h:d≠t): ∀ (F:Facts),lookF (dropF d F) t=lookF F t
  | []=>rfl
  | (k,v)::r=>by
    simp only [dropF]
    rcases beq_cases k d with ⟨hk,e⟩ | ⟨hk,e⟩
    · rw [e,cond_true,lookF_cons,if_neg (by omega),lookF_drop d t h r]
    · rw [e,cond_false,lookF_cons,lookF_cons,lookF_drop d t h r]
theorem Has.set {F:Facts}{s:List AVal}(hs:Has F s){d:Option Tmp}(hd: ∀ t,d=some t→t<s.length)(v:AVal):Has (setF F d v) (aput s d v):=by
  cases d with
  | none=>exact hs
  | some d =>
    intro t u hu
    have hd':=hd d rfl
    simp only [setF,lookF_cons]at hu
    simp only [aput,List.getElem?_set]
    by_cases h:d=t
    · subst h
      rw [if_pos rfl]at hu
      rw [if_pos rfl,if_pos hd'];exact hu
    · rw [if_neg h,lookF_drop d t h]at hu
      rw [if_neg h];exact hs t u hu
theorem lookF_only {F:Facts}{t:Nat}{v:AVal} : ∀ {l:List Nat},lookF (onlyF F l) t=some v→lookF F t=some v
  | [],h=>by cases h
  | k ::r,h=>by
    simp only [onlyF]at h
    split at h
    · rename_i u hu
      rw [lookF_cons]at h
      split at h
      · rename_i e;subst e;rw [hu];exact h
      · exact lookF_only h
    · exact lookF_only h
def getF(F:Facts):Operand→AVal
  | .tmp t=>match lookF F t with | some v=>v | none=> .undef
  | .const v=>ofConst v
  | .global _=> .undef
  | .func f=> .func (.func f) [] []
def knownF(F:Facts):Operand→Bool
  | .tmp t=>match lookF F t with | some _=>true | none=>false
  | _=>true
theorem Has.get {F:Facts}{s:List AVal}(hs:Has F s){o:Operand}(hk:knownF F o=true):getF F o=agetOp s o:=by
  cases o with
  | tmp t =>
    simp only [knownF]at hk
    split at hk
    · rename_i v hv
      simp only [getF,agetOp,hv,List.getD_eq_getElem?_getD,hs t v hv,Option.getD_some]
    · cases hk
  | const v=>rfl
  | global g=>rfl
  | func f=>rfl
def awantedF (ops:Array Oper) (F:Facts) (o:Oper):Option Bool :=
  match o.guard with
  | none=>some true
  | some (j,want) =>
    match (ops[j]?).bind (·.dst)with
    | some d =>
      match lookF F d with
      | some (.bool b)=>some (b == want)
      | some (.tuple [])=>some false
      | _=>none
    | none=>none
theorem awantedF_eq {ops:Array Oper}{F:Facts}{s:List AVal}(hs:Has F s){o:Oper}{b:Bool}(h:awantedF ops F o=some b):awanted ops s o=some b:=by
  unfold awantedF at h
  unfold awanted
  split at h
  · rename_i hg;simp only [hg];exact h
  · rename_i j want hg
    simp only [hg]
    split at h
    · rename_i d hd
      simp only [hd]
      split at h
      · rename_i b' hb;simp only [hs _ _ hb];exact h
      · rename_i hb;simp only [hs _ _ hb];exact h
      · cases h
    · cases h
inductive Hint where
  | val (i:Nat) (v:AVal)
  | act (i:Nat) (v:AVal) (g:AHeap→AHeap)
  | far (i:Nat) (v:AVal) (g:AHeap→AHeap)
  | farV (i:Nat) (v:AVal)
  | go (i:Nat)
  | ld (i:Nat) (e:AVal)
  | st (i:Nat) (e:AVal)
  | guard (i:Nat) (b:Bool)
  | test (t:Nat) (b:Bool)
  | keep (l:List Nat)
  | loop (F:Facts) (h:AHeap) (e:AExit)
  | cut (F:Facts) (h:AHeap) (e:AExit)
  | cell (v:AVal)
  | cv (i:Nat) (v:AVal) (g:AHeap→AHeap)
  | cvF (i:Nat) (v:AVal) (g:AHeap→AHeap)
  | run (i m:Nat)
  | runF (i m:Nat)
  | rounds (n:Nat)
  | enter (i:Nat)
def noCall:ACall:=fun _ _ _=>none
structure CallT(P:Program)(C:(Nat→Prop)→World→Prop)(f:FuncId)(args:List AVal)(h:AHeap)(v:AVal)(h':AHeap):Prop where
  does:FDoes P C f args h v h'
structure CFact where
  f:FuncId
  args:List AVal
  h:AHeap
  v:AVal
  h':AHeap
def CFact.holds(call:ACall)(k:CFact):Prop:=call k.f k.args k.h=some (k.v,k.h')
abbrev Fit64(n:Int):Prop:= -9223372036854775808≤n∧n≤9223372036854775807
def FitK(k:IntKind)(n:Int):Prop :=
  match k with
  | .i64=>Fit64 n
  | .i8=> -128≤n∧n≤127
  | .i32=> -2147483648≤n∧n≤2147483647
  | .u8=>0≤n∧n≤255
  | k=>k.min≤n∧n≤k.max
theorem wrap_fit {k:IntKind}{n:Int}(h:FitK k n):k.wrap n=n:=by
  cases k<;>simp only [FitK,Fit64,IntKind.min,IntKind.max,IntKind.signed,IntKind.bits,IntKind.wrap]at h ⊢ <;>simp at h ⊢ <;>omega
def iand(k:IntKind)(x y:Int):Int:=k.wrap (BitVec.ofInt k.bits x &&& BitVec.ofInt k.bits y).toNat
def ior(k:IntKind)(x y:Int):Int:=k.wrap (BitVec.ofInt k.bits x ||| BitVec.ofInt k.bits y).toNat
def ixor(k:IntKind)(x y:Int):Int:=k.wrap (BitVec.ofInt k.bits x ^^^ BitVec.ofInt k.bits y).toNat
def iandNot(k:IntKind)(x y:Int):Int:=k.wrap (BitVec.ofInt k.bits x &&& ~~~(BitVec.ofInt k.bits y)).toNat
def ishl(k:IntKind)(x y:Int):Int:=k.wrap (x*2^(min y.toNat k.bits))
def ishr(k:IntKind)(x y:Int):Int:=x.fdiv (2^(min y.toNat k.bits))
section
variable(P:Program)(E:AEnv)
def goOp (nid : Nat) (ρ:Operand→AVal) (h:AHeap) (o:Op):Option (AVal×AHeap×Prop) :=
  match o with
  | .binOp op t x y _ =>
    match ρ x,ρ y with
    | .int k a,.int k' b =>
      match op with
      | .shl=>some (.int k (ishl k a b),h,0≤b)
      | .shr=>some (.int k (ishr k a b),h,0≤b)
      | _ =>
      match decEq k k' with
      | isTrue _ =>
        match op with
        | .and=>some (.int k (iand k a b),h,True)
        | .or=>some (.int k (ior k a b),h,True)
        | .xor=>some (.int k (ixor k a b),h,True)
        | .andNot=>some (.int k (iandNot k a b),h,True)
        | .add=>some (.int k (a+b),h,FitK k (a+b))
        | .sub=>some (.int k (a-b),h,FitK k (a-b))
        | .mul=>some (.int k (a*b),h,FitK k (a*b))
        | .quo=>some (.int k (a.tdiv b),h,b≠0∧FitK k (a.tdiv b))
        | .rem=>some (.int k (a.tmod b),h,b≠0)
        | _=>none
      | isFalse _=>none
    | .str a,.str b =>
      match op with
      | .add=>some (.str (a++b),h,a.length+b.length<2^62)
      | _=>none
    | _,_=>none
  | .unOp op t x =>
    match op,ρ x with
    | .xor,.int k n=>some (.int k (ixor k (if k.signed then-1 else k.max) n),h,True)
    | .neg,.int k n=>some (.int k (0-n),h,FitK k (0-n))
    | _,_=>none
  | .index t x i =>
    match E.D t,ρ x,ρ i with
    | some d,.str s,.int _ i =>
      match d.kind with
      | .string=>some (.int .u8 (s.getD i.toNat 0).toNat,h,0≤i∧i<s.length)
      | _=>none
    | _,_,_=>none
  | .slice t x lo hi mx =>
    match mx with
    | some _=>none
    | none =>
      match E.D t,ρ x with
      | some d,.str s =>
        match d.kind with
        | .string =>
          match lo.map ρ,hi.map ρ with
          | none,none=>some (.str s,h,True)
          | some (.int _ l),none=>some (.str (s.drop l.toNat),h,0≤l∧l≤s.length)
          | none,some (.int _ u)=>some (.str (s.take u.toNat),h,0≤u∧u≤s.length)
          | some (.int _ l),some (.int _ u)=>some (.str ((s.take u.toNat).drop l.toNat),h,0≤l∧l≤u∧u≤s.length)
          | _,_=>none
        | _=>none
      | some d,.slice (some a) len cap =>
        match d.kind with
        | .slice e =>
          match E.D e with
          | some xd =>
            cond (Nat.beq a.fld 0 && Nat.beq a.es xd.size)
            (match lo.map ρ,hi.map ρ with
            | none,none=>some (.slice (some a) len cap,h,len≤cap)
            | some (.int _ l),none=>some (.slice (some {a with idx:=a.idx+l.toNat}) (len-l.toNat) (cap-l.toNat),h,0≤l∧l≤len∧len≤cap)
            | none,some (.int _ u)=>some (.slice (some a) u.toNat cap,h,0≤u∧u≤cap)
            | some (.int _ l),some (.int _ u)=>some (.slice (some {a with idx:=a.idx+l.toNat}) (u.toNat-l.toNat) (cap-l.toNat),h,0≤l∧l≤u∧u≤cap)
            | _,_=>none) none
          | none=>none
        | _=>none
      | _,_=>none
  | .indexAddr t x i =>
    match E.D t,ρ x,ρ i with
    | some d,.slice (some a) len _,.int _ i =>
      match d.kind with
      | .slice e =>
        match E.D e with
        | some xd=>cond (Nat.beq a.fld 0 && Nat.beq a.es xd.size) (some (.ptr (some {a with idx:=a.idx+i.toNat}),h,0≤i∧i<len)) none
        | none=>none
      | _=>none
    | _,_,_=>none
  | .convert s d x =>
    match E.D s,E.D d,ρ x with
    | some _,some dd,.int _ n=>match dd.kind with | .int k=>some (.int k n,h,FitK k n) | _=>none
    | _,_,_=>none
  | .call c =>
    match c.callee with
    | .builtin .append =>
      match c.args.toList.map ρ,c.argTypes[0]?,c.argTypes[1]? with
      | [.slice (some a) len cap,x],some t,some u =>
        match E.D u,E.D t,h.get a.id with
        | some ud,some d,some b =>
          match d.kind with
          | .slice e =>
            match E.D e with
            | some xd =>
              match elemsOf xd.size x h with
              | some (n1::ns) =>
                cond ((match ud.kind with | .slice _=>true | .string=>true | _=>false) && Nat.blt 0 xd.size && xd.zeroFits && Nat.beq a.fld 0 && Nat.beq a.es xd.size && !b.exact && !b.ro && (match b.ty with | none=>true | some q=>Nat.beq q.1 e && Nat.beq q.2 0))
                  (some (.slice (some {a with ver:=a.ver+1}) (len+(n1::ns).length) (len+(n1::ns).length),h.set a.id (b.grow (n1::ns)),
                    a.ver=b.ver∧a.idx+len=b.elems.length∧cap<len+(n1::ns).length∧(len+(n1::ns).length+(len+(n1::ns).length) / 4+512)*xd.bytes≤2^48∧len+(n1::ns).length<2^62)) none
              | _=>none
            | none=>none
          | _=>none
        | _,_,_=>none
      | _,_,_=>none
    | _=>none
  | .makeSlice t l c =>
    match E.D t,ρ l,ρ c with
    | some d, .int _ l,.int _ c =>
      match d.kind with
      | .slice e =>
        match E.D e with
        | some x =>
          match x.zero with
          | some z =>
            cond (Nat.blt 0 x.size && z.fits x.kind.isAgg x.size)
              (some (newSlice nid x.size l.toNat c.toNat,h.set nid (.made (List.replicate c.toNat z) x.size true),0≤l∧l≤c∧c<2^62∧x.bytes*c≤2^48)) none
          | none=>none
        | none=>none
      | _=>none
    | _,_,_=>none
  | _=>none
theorem goOp_spec {nid:Nat} {ρ:Operand→AVal} {h h':AHeap} {o:Op} {v:AVal} {p:Prop} (k:goOp E nid ρ h o=some (v,h',p)) (hp:p) (call:ACall):aop E call nid ρ h o=some (v,h'):=by
  cases o<;>simp only [goOp]at k<;>try (cases k;done)
  case binOp op t x y ty =>
    split at k
    · rename_i k1 a k2 b hx hy
      split at k
      · simp only [Option.some.injEq,Prod.mk.injEq]at k
        obtain⟨rfl,rfl,rfl⟩:=k
        simp only [aop,hx,hy,abin,ashift]
        rw [if_neg (by omega)];rfl
      · simp only [Option.some.injEq,Prod.mk.injEq]at k
        obtain⟨rfl,rfl,rfl⟩:=k
        simp only [aop,hx,hy,abin,ashift]
        rw [if_neg (by omega)];rfl
      split at k
      · rename_i hk _
        subst hk
        simp only [aop,hx,hy,abin]
        split at k<;>first | (cases k;done) | (simp only [Option.some.injEq,Prod.mk.injEq]at k)
        all_goals (obtain⟨rfl,rfl,rfl⟩:=k)
        · simp [aint,iand]
        · simp [aint,ior]
        · simp [aint,ixor]
        · simp [aint,iandNot]
        · simp [aint,wrap_fit hp]
        · simp [aint,wrap_fit hp]
        · simp [aint,wrap_fit hp]
        · simp [aint,wrap_fit hp.2,hp.1]
        · simp [aint,hp]
      · cases k
    · rename_i a b hx hy
      split at k
      · simp only [Option.some.injEq,Prod.mk.injEq]at k
        obtain⟨rfl,rfl,rfl⟩:=k
        simp only [aop,hx,hy,abin,astr]
        rw [if_pos hp];rfl
      · cases k
    · cases k
  case unOp op t x =>
    split at k
    · rename_i kk n hx
      simp only [Option.some.injEq,Prod.mk.injEq]at k
      obtain⟨rfl,rfl,rfl⟩:=k
      simp [aop,hx,aunary,aint,ixor]
    · rename_i kk n hx
      simp only [Option.some.injEq,Prod.mk.injEq]at k
      obtain⟨rfl,rfl,rfl⟩:=k
      simp only [aop,hx,aunary,wrap_fit hp];rfl
    · cases k
  case index t x i =>
    split at k
    · rename_i d s kk i hd hx hi
      split at k
      · rename_i hk
        simp only [Option.some.injEq,Prod.mk.injEq]at k
        obtain⟨rfl,rfl,rfl⟩:=k
        simp only [aop,hx,hi,aindex,hd,hk]
        rw [if_pos hp.1]
        have hlt:i.toNat<s.length:=by have:=hp.2;omega
        simp [List.getD_eq_getElem?_getD,List.getElem?_eq_getElem hlt]
      · cases k
    · cases k
  case slice t x lo hi mx =>
    split at k
    · cases k
    · split at k
      · rename_i d s hd hx
        split at k
        · rename_i hk
          split at k<;>first | (cases k;done) | (simp only [Option.some.injEq,Prod.mk.injEq]at k)
          all_goals (obtain⟨rfl,rfl,rfl⟩:=k)
          · rename_i h1 h2
            simp [aop,hx,h1,h2,aslice,hd,hk,abound]
          · rename_i k1 l h1 h2
            simp only [aop,hx,h1,h2,aslice,hd,hk,abound,Option.map_none,Option.isSome_none,Bool.false_eq_true,if_false]
            rw [if_pos ⟨hp.1,hp.2⟩]
            simp
          · rename_i k1 u h1 h2
            simp only [aop,hx,h1,h2,aslice,hd,hk,abound,Option.map_none,Option.isSome_none,Bool.false_eq_true,if_false]
            rw [if_pos ⟨hp.1,hp.2⟩]
            simp
          · rename_i k1 l k2 u h1 h2
            simp only [aop,hx,h1,h2,aslice,hd,hk,abound,Option.map_none,Option.isSome_none,Bool.false_eq_true,if_false]
            rw [if_pos ⟨by omega,hp.2.2⟩]
            simp only
            rw [if_pos ⟨hp.1,by omega⟩]
            simp
        · cases k
      · rename_i d a len cap hd hx
        split at k
        · rename_i e hk
          split at k
          · rename_i xd hxd
            cases hq:(Nat.beq a.fld 0 && Nat.beq a.es xd.size)with
            | false=>rw [hq]at k;cases k
            | true =>
              rw [hq,cond_true]at k
              simp only [Bool.and_eq_true]at hq
              have q1:=Nat.eq_of_beq_eq_true hq.1
              have q2:=Nat.eq_of_beq_eq_true hq.2
              split at k<;>first | (cases k;done) | (simp only [Option.some.injEq,Prod.mk.injEq]at k)
              all_goals (obtain⟨rfl,rfl,rfl⟩:=k)
              · rename_i h1 h2
                have:len≤cap:=hp
                cases a
                simp only at q1 q2
                simp [aop,hx,h1,h2,aslice,hd,hk,abound,hxd,q1,q2]
              · rename_i k1 l h1 h2
                simp only [aop,hx,h1,h2,aslice,hd,hk,abound,hxd,Option.map_none,Option.isSome_none,Bool.false_eq_true,if_false]
                rw [if_pos ⟨hp.1,hp.2.1⟩]
                simp [q1,q2]
              · rename_i k1 u h1 h2
                simp only [aop,hx,h1,h2,aslice,hd,hk,abound,hxd,Option.map_none,Option.isSome_none,Bool.false_eq_true,if_false]
                rw [if_pos ⟨hp.1,hp.2⟩]
                cases a
                simp only at q1 q2
                simp [q1,q2]
              · rename_i k1 l k2 u h1 h2
                simp only [aop,hx,h1,h2,aslice,hd,hk,abound,hxd,Option.map_none,Option.isSome_none,Bool.false_eq_true,if_false]
                rw [if_pos ⟨by omega,hp.2.2⟩]
                simp only
                rw [if_pos ⟨hp.1,by omega⟩]
                simp [q1,q2]
          · cases k
        · cases k
      · cases k
  case indexAddr t x i =>
    split at k
    · rename_i d a len c kk i hd hx hi
      split at k
      · rename_i e he
        split at k
        · rename_i xd hxd
          cases hq:(Nat.beq a.fld 0 && Nat.beq a.es xd.size)with
          | false=>rw [hq]at k;cases k
          | true =>
            rw [hq,cond_true]at k
            simp only [Bool.and_eq_true]at hq
            simp only [Option.some.injEq,Prod.mk.injEq]at k
            obtain⟨rfl,rfl,rfl⟩:=k
            simp only [aop,hx,hi,aindexAddr,hd,he,hxd]
            rw [if_pos ⟨hp.1,hp.2,Nat.eq_of_beq_eq_true hq.2,Nat.eq_of_beq_eq_true hq.1⟩];rfl
        · cases k
      · cases k
    · cases k
  case convert s d x =>
    split at k
    · rename_i sd dd kk n hs hd hx
      split at k
      · rename_i k2 hk2
        simp only [Option.some.injEq,Prod.mk.injEq]at k
        obtain⟨rfl,rfl,rfl⟩:=k
        simp [aop,hx,aconvert,hs,hd,hk2,wrap_fit hp]
      · cases k
    · cases k
  case call c =>
    split at k
    · rename_i hb
      split at k
      · rename_i a len cap x t u hargs ht hu
        split at k
        · rename_i ud d b hud hd hg
          split at k
          · rename_i e hk
            split at k
            · rename_i xd hxd
              split at k
              · rename_i n1 ns hel
                generalize hnew:n1::ns=new at k hel
                have hne:new≠ []:=by rw [← hnew];simp
                generalize hq:((match ud.kind with | .slice _=>true | .string=>true | _=>false) && Nat.blt 0 xd.size && xd.zeroFits && Nat.beq a.fld 0 && Nat.beq a.es xd.size && !b.exact && !b.ro && (match b.ty with | none=>true | some q=>Nat.beq q.1 e && Nat.beq q.2 0))=qq at k
                cases qq with
                | false=>cases k
                | true =>
                  rw [cond_true]at k
                  simp only [Option.some.injEq,Prod.mk.injEq]at k
                  obtain⟨rfl,rfl,rfl⟩:=k
                  simp only [Bool.and_eq_true,Bool.not_eq_true']at hq
                  obtain⟨⟨⟨⟨⟨⟨⟨c1,c2⟩,c3⟩,c4⟩,c5⟩,c6⟩,c7⟩,c8⟩:=hq
                  obtain⟨p1,p2,p3,p4,p5⟩:=hp
                  have q1:=Nat.eq_of_beq_eq_true c4
                  have q2:=Nat.eq_of_beq_eq_true c5
                  have hty:b.ty=none∨b.ty=some (e,0):=by
                    cases hbt:b.ty with
                    | none=>exact .inl rfl
                    | some q =>
                      rw [hbt]at c8
                      simp only [Bool.and_eq_true]at c8
                      exact .inr (by rw [← Nat.eq_of_beq_eq_true c8.1,← Nat.eq_of_beq_eq_true c8.2])
                  have happ:aappend E.D t (.slice (some a) len cap) x nid h=some (.slice (some {a with ver:=a.ver+1}) (len+new.length) (len+new.length),h.set a.id (b.grow new)):=by
                    simp only [aappend,hd,hk,hxd,hel]
                    rw [if_pos ⟨Nat.blt_eq.mp c2,p4,p5,c3⟩,if_pos ⟨q2,q1⟩]
                    simp only [hg]
                    rw [if_neg (by omega),if_neg (by rw [c6];simp),if_pos ⟨c7,p1,p2,hne,hty⟩]
                  simp only [aop,hb,hargs,abuiltin,ht,hu,hud]
                  cases huk:ud.kind<;>rw [huk]at c1<;>simp only [Bool.false_eq_true]at c1<;>exact happ
              · cases k
            · cases k
          · cases k
        · cases k
      · cases k
    · cases k
  case makeSlice t l c =>
    split at k
    · rename_i d k1 l' k2 c' hd hl hc
      split at k
      · rename_i e he
        split at k
        · rename_i x hx
          split at k
          · rename_i z hz
            cases hb:(Nat.blt 0 x.size && z.fits x.kind.isAgg x.size)with
            | false=>rw [hb]at k;cases k
            | true =>
              rw [hb,cond_true]at k
              simp only [Option.some.injEq,Prod.mk.injEq]at k
              obtain⟨rfl,rfl,rfl⟩:=k
              simp only [Bool.and_eq_true]at hb
              simp only [aop,hl,hc,amakeSlice,hd,he,hx,hz]
              rw [if_pos ⟨hp.1,hp.2.1,hp.2.2.1,hp.2.2.2,Nat.blt_eq.mp hb.1,hb.2⟩]
          · cases k
        · cases k
      · cases k
    · cases k
def ldOp (ρ:Operand→AVal) (h:AHeap) (o:Op) (e:AVal):Option (AVal×Prop) :=
  match o with
  | .load t x =>
    match ρ x with
    | .ptr (some a) =>
      match E.D t,h.get a.id with
      | some d,some b =>
        match loadElem d.kind.isAgg d.size a.fld e with
        | some v=>some (v,b.elem? a.ver a.idx=some e)
        | none=>none
      | _,_=>none
    | _=>none
  | _=>none
theorem ldOp_spec {nid:Nat} {ρ:Operand→AVal} {h:AHeap} {o:Op} {e v:AVal} {p:Prop} (k:ldOp E ρ h o e=some (v,p)) (hp:p) (call:ACall):aop E call nid ρ h o=some (v,h):=by
  unfold ldOp at k
  split at k
  · rename_i t x
    split at k
    · rename_i a ha
      split at k
      · rename_i d b hd hb
        split at k
        · rename_i v' hv
          simp only [Option.some.injEq,Prod.mk.injEq]at k
          obtain⟨rfl,rfl⟩:=k
          simp [aop,ha,aload,hd,hb,hp,hv]
        · cases k
      · cases k
    · cases k
  · cases k
def stOp (ρ:Operand→AVal) (h:AHeap) (o:Op) (e:AVal):Option (AHeap×Prop) :=
  match o with
  | .store t x y =>
    match ρ x with
    | .ptr (some a) =>
      match E.D t,h.get a.id with
      | some d,some b =>
        cond ((ρ y).fits d.kind.isAgg d.size && !b.ro)
          (match storeElem a.fld (ρ y) e with
          | some e'=>some (h.set a.id {b with elems:=b.elems.set a.idx e',minVer:=b.ver},a.ver=b.ver∧b.elems[a.idx]? =some e)
          | none=>none) none
      | _,_=>none
    | _=>none
  | _=>none
theorem stOp_spec {nid:Nat} {ρ:Operand→AVal} {h h':AHeap} {o:Op} {e:AVal} {p:Prop} (k:stOp E ρ h o e=some (h',p)) (hp:p) (call:ACall):aop E call nid ρ h o=some (skipped,h'):=by
  unfold stOp at k
  split at k
  · rename_i t x y
    split at k
    · rename_i a ha
      split at k
      · rename_i d b hd hb
        cases hc:((ρ y).fits d.kind.isAgg d.size && !b.ro)with
        | false=>rw [hc]at k;cases k
        | true =>
          rw [hc,cond_true]at k
          split at k
          · rename_i e' he
            simp only [Option.some.injEq,Prod.mk.injEq]at k
            obtain⟨rfl,rfl⟩:=k
            simp [aop,ha,astore,hd,hb,hp.1,hp.2,he,hc]
          · cases k
      · cases k
    · cases k
  · cases k
def actCond (nid:Nat) (ρ:Operand→AVal) (h:AHeap) (o:Op) (v:AVal) (h':AHeap):Prop×List CFact :=
  match o with
  | .call c =>
    match c.callee with
    | .value f=>match ρ f with | .func (.func g) fs cs=>(CallT P E.cond g (fs++c.args.toList.map ρ++cs) h v h',[⟨g,fs++c.args.toList.map ρ++cs,h,v,h'⟩]) | _=>(False,[])
    | .builtin b=>(abuiltin E b c.argTypes (c.args.toList.map ρ) nid h=some (v,h'),[])
    | _=>(False,[])
  | o=>(aop E noCall nid ρ h o=some (v,h'),[])
def valCond(nid:Nat)(ρ:Operand→AVal)(h:AHeap)(o:Op)(v:AVal):Prop×List CFact :=
  match o with
  | .load t x=>(match ρ x with | .ptr (some a)=>aload E.D t a h=some v | _=>False,[])
  | .indexAddr t x i=>(aindexAddr E.D t (ρ x) (ρ i)=some v,[])
  | .index t x i=>(aindex E.D t (ρ x) (ρ i)=some v,[])
  | .slice t x lo hi mx=>(aslice E.D t (ρ x) (lo.map ρ) (hi.map ρ) (mx.map ρ)=some v,[])
  | .binOp op t x y _=>(abin E.D E.eqT (isLit x || isLit y) op t (ρ x) (ρ y)=some v,[])
  | o=>actCond P E nid ρ h o v h
def plainOp:Op→Bool
  | .call c=>match c.callee with | .value _=>false | _=>true
  | _=>true
theorem aop_noCall {nid:Nat}{ρ:Operand→AVal}{h:AHeap}{o:Op}(hp:plainOp o=true)(call:ACall):aop E noCall nid ρ h o=aop E call nid ρ h o:=by
  cases o
  case call c =>
    simp only [plainOp]at hp
    cases hc:c.callee<;>simp only [hc]at hp<;>simp only [aop,hc]
    cases hp
  case makeFunc f a b=>cases f<;>rfl
  all_goals rfl
theorem actCond_spec {nid:Nat} {ρ:Operand→AVal} {h:AHeap} {o:Op} {v:AVal} {h':AHeap} (k:(actCond P E nid ρ h o v h').1) {call:ACall} (hc: ∀ c∈(actCond P E nid ρ h o v h').2,c.holds call) :
    aop E call nid ρ h o=some (v,h'):=by
  cases o
  case call c =>
    simp only [actCond]at k hc
    split at k
    · rename_i f hf
      simp only [hf]at hc
      split at k
      · rename_i g fs cs hg
        simp only [hg]at hc
        simp only [aop,hf,hg,acallVal]
        exact hc _ (List.mem_singleton.2 rfl)
      · exact k.elim
    · rename_i b hb
      simp only [aop,hb];exact k
    · exact k.elim
  all_goals exact(aop_noCall E rfl call).symm.trans k
theorem valCond_spec {nid:Nat}{ρ:Operand→AVal}{h:AHeap}{o:Op}{v:AVal}(k:(valCond P E nid ρ h o v).1){call:ACall}(hc: ∀ c∈(valCond P E nid ρ h o v).2,c.holds call) :
    aop E call nid ρ h o=some (v,h):=by
  cases o
  case load t x =>
    simp only [valCond]at k
    split at k
    · rename_i a ha;simp only [aop,ha,k];rfl
    · exact k.elim
  case indexAddr t x i=>simp only [valCond]at k;simp only [aop,k];rfl
  case index t x i=>simp only [valCond]at k;simp only [aop,k];rfl
  case slice t x lo hi mx=>simp only [valCond]at k;simp only [aop,k];rfl
  case binOp op t x y z=>simp only [valCond]at k;simp only [aop,k];rfl
  all_goals exact actCond_spec P E k hc
theorem actCond_does {nid:Nat} {ρ:Operand→AVal} {h:AHeap} {o:Op} {v:AVal} {h':AHeap} (k:(actCond P E nid ρ h o v h').1): ∀ c∈(actCond P E nid ρ h o v h').2,FDoes P E.cond c.f c.args c.h c.v c.h':=by
  cases o
  case call c0 =>
    simp only [actCond]at k ⊢
    cases hcc:c0.callee with
    | value f =>
      rw [hcc]at k
      simp only at k ⊢
      cases hf:ρ f with
      | func fn fs cs =>
        rw [hf]at k
        cases fn with
        | func g =>
          simp only at k ⊢
          intro c hc
          simp only [List.mem_singleton]at hc
          subst hc;exact k.does
        | _=>exact k.elim
      | _=>rw [hf]at k;exact k.elim
    | invoke r m=>rw [hcc]at k;exact k.elim
    | builtin b=>intro c hc;simp at hc
  all_goals (intro c hc;simp [actCond]at hc)
theorem valCond_does {nid:Nat}{ρ:Operand→AVal}{h:AHeap}{o:Op}{v:AVal}(k:(valCond P E nid ρ h o v).1): ∀ c∈(valCond P E nid ρ h o v).2,FDoes P E.cond c.f c.args c.h c.v c.h':=by
  cases o
  case load t x=>intro c hc;simp [valCond]at hc
  case indexAddr t x i=>intro c hc;simp [valCond]at hc
  case index t x i=>intro c hc;simp [valCond]at hc
  case slice t x lo hi mx=>intro c hc;simp [valCond]at hc
  case binOp op t x y z=>intro c hc;simp [valCond]at hc
  all_goals exact actCond_does P E k
def All(l:List Prop):Prop:= ∀ p∈l,p
theorem All.head {p:Prop}{l:List Prop}(h:All (p::l)):p:=h p (by simp)
theorem All.tail {p:Prop}{l:List Prop}(h:All (p::l)):All l:=fun q hq=>h q (by simp [hq])
theorem All.left {a b:List Prop}(h:All (a++b)):All a:=fun p hp=>h p (by simp [hp])
theorem All.right {a b:List Prop}(h:All (a++b)):All b:=fun p hp=>h p (by simp [hp])
def drawCond(ops:Array Oper)(n0 i:Nat)(ρ:Operand→AVal)(h:AHeap)(o:Op)(h':AHeap):List Prop :=
  match cls o with
  | .load=>match loadId ρ o with | some b=>cond (loadSolo ops i || (Nat.blt b n0 || (Nat.blt b (n0+ops.size) && (ordered (aheads ops) (b-n0) i && !looseStore ops (aheads ops) i)))) [] [False] | none=> [False]
  | .store=>match storeId ρ o with | some b=>cond (looseCall ops (aheads ops) i && Nat.blt b n0) [False] [] | none=> [False]
  | .call=>cond (looseCall ops (aheads ops) i) [sameOld (n0+ops.size) h h'=true] []
  | .app=>cond (appOk ops n0 i (appIds ρ o)) [] [False]
  | _=> []
def farL(n0 N:Nat):List Nat→List Prop
  | []=> []
  | b::r=>(b<n0∨N≤b)::farL n0 N r
def farCond(ops:Array Oper)(n0:Nat)(ρ:Operand→AVal)(o:Op):List Prop :=
  match cls o with
  | .load=>match loadId ρ o with | some b=> [b<n0] | none=> [False]
  | .app=>farL n0 (n0+ops.size) (appIds ρ o)
  | _=> [False]
theorem farL_spec {n0 N:Nat} : ∀ {l:List Nat},All (farL n0 N l)→ ∀ b∈l,b<n0∨N≤b
  | [],_,b,hb=>by cases hb
  | a::r,h,b,hb=>by
    rcases List.mem_cons.1 hb with rfl | hb
    · exact h.head
    · exact farL_spec h.tail b hb
theorem far_draw {ops:Array Oper}{n0 i:Nat}{ρ:Operand→AVal}{h h':AHeap}{o:Op}(k:All (farCond ops n0 ρ o)):All (drawCond ops n0 i ρ h o h'):=by
  unfold farCond at k
  unfold drawCond
  split at k
  · rename_i hc
    rw [hc]
    simp only
    split at k
    · rename_i b hb
      have:Nat.blt b n0=true:=Nat.blt_eq.mpr k.head
      rw [this,Bool.true_or,Bool.or_true]
      intro p hp;cases hp
    · exact k.head.elim
  · rename_i hc
    rw [hc]
    simp only
    have:appOk ops n0 i (appIds ρ o)=true:=by
      unfold appOk
      rw [List.all_eq_true]
      intro b hb
      rcases farL_spec k b hb with h | h
      · simp [h]
      · simp [h]
    rw [this]
    intro p hp;cases hp
  · exact k.head.elim
def cvCond(ops:Array Oper)(n0 i:Nat)(ρ:Operand→AVal)(o:Op):List Prop :=
  match convSrc ρ o with
  | some x=>cond ((List.range ops.size).all fun k=>(k == i) || ordered (aheads ops) k i || ordered (aheads ops) i k ||
      match ops[k]? with
      | some y=>decide (cls y.op= .pure) || decide (cls y.op= .load) || decide (cls y.op= .alloc)
      | none=>true) ((idOf x).map fun b=>b<n0) [False]
  | none=> [False]
theorem cvCond_spec {ops:Array Oper}{n0 i:Nat}{ρ:Operand→AVal}{o:Op}(k:All (cvCond ops n0 i ρ o)):readOk ops n0 i ρ o=true:=by
  unfold cvCond at k
  unfold readOk
  split at k
  · rename_i x hx
    cases hq:((List.range ops.size).all fun k=>(k == i) || ordered (aheads ops) k i || ordered (aheads ops) i k ||
      match ops[k]? with
      | some y=>decide (cls y.op= .pure) || decide (cls y.op= .load) || decide (cls y.op= .alloc)
      | none=>true)with
    | false=>rw [hq]at k;exact k.head.elim
    | true =>
      rw [hq,cond_true]at k
      rw [hx]
      simp only
      rw [Bool.and_eq_true]
      refine⟨List.all_eq_true.2 fun b hb=> ?_,rfl⟩
      have:b<n0:=k _ (List.mem_map.2 ⟨b,hb,rfl⟩)
      simp [this]
  · exact k.head.elim
abbrev PRes:=Option (AVal×AHeap×List Hint×List Prop×List CFact)
def popPlain (draw:Bool) (ops:Array Oper) (n0 i:Nat) (F:Facts) (h:AHeap) (o:Op) (hs:List Hint):PRes :=
  cond (plainOp o)
    (match aop E noCall (n0+i) (getF F) h o with
    | some (v,h')=>some (v,h',hs,cond draw (drawCond ops n0 i (getF F) h o h') [],[])
    | none=>cond (!draw || (isConv o && (soloOk ops i || readOk ops n0 i (getF F) o))) (match xop E (n0+i) (getF F) h o with | some (v,h')=>some (v,h',hs,[],[]) | none=>none) none) none
abbrev Enter:=FuncId→List AVal→AHeap→List Hint→Option (AVal×AHeap×List Hint×List Prop)
def popHint (en:Enter) (draw:Bool) (ops:Array Oper) (n0 i:Nat) (F:Facts) (h:AHeap) (o:Op) (x:Hint) (hs:List Hint):PRes :=
  match x with
  | .enter _ =>
    match o with
    | .call c =>
      match c.callee with
      | .value f =>
        match getF F f with
        | .func (.func g) fs cs =>
          match en g (fs++c.args.toList.map (getF F)++cs) h hs with
          | some (v,h',hs',cc)=>some (v,h',hs',cond draw (drawCond ops n0 i (getF F) h o h') []++cc,[⟨g,fs++c.args.toList.map (getF F)++cs,h,v,h'⟩])
          | none=>none
        | _=>none
      | _=>none
    | _=>none
  | .val _ v=>some (v,h,hs,(valCond P E (n0+i) (getF F) h o v).1::cond draw (drawCond ops n0 i (getF F) h o h) [],(valCond P E (n0+i) (getF F) h o v).2)
  | .act _ v g=>some (v,g h,hs,(actCond P E (n0+i) (getF F) h o v (g h)).1::cond draw (drawCond ops n0 i (getF F) h o (g h)) [],(actCond P E (n0+i) (getF F) h o v (g h)).2)
  | .far _ v g=>some (v,g h,hs,(actCond P E (n0+i) (getF F) h o v (g h)).1::cond draw (farCond ops n0 (getF F) o) [],(actCond P E (n0+i) (getF F) h o v (g h)).2)
  | .farV _ v=>some (v,h,hs,(valCond P E (n0+i) (getF F) h o v).1::cond draw (farCond ops n0 (getF F) o) [],(valCond P E (n0+i) (getF F) h o v).2)
  | .go _ =>
    match goOp E (n0+i) (getF F) h o with
    | some (v,h',p)=>some (v,h',hs,p::cond draw (drawCond ops n0 i (getF F) h o h') [],[])
    | none=>none
  | .ld _ e =>
    match ldOp E (getF F) h o e with
    | some (v,p)=>some (v,h,hs,p::cond draw (drawCond ops n0 i (getF F) h o h) [],[])
    | none=>none
  | .st _ e =>
    match stOp E (getF F) h o e with
    | some (h',p)=>some (skipped,h',hs,p::cond draw (drawCond ops n0 i (getF F) h o h') [],[])
    | none=>none
  | .cv _ v g =>
    cond (isConv o && (!draw || (soloOk ops i || readOk ops n0 i (getF F) o)))
    (match aop E noCall (n0+i) (getF F) h o with
    | none=>some (v,g h,hs,[xop E (n0+i) (getF F) h o=some (v,g h)],[])
    | some _=>none) none
  | .cvF _ v g =>
    cond (isConv o)
    (match aop E noCall (n0+i) (getF F) h o with
    | none=>some (v,g h,hs,(xop E (n0+i) (getF F) h o=some (v,g h))::cond draw (cvCond ops n0 i (getF F) o) [],[])
    | some _=>none) none
  | .run _ m =>
    match o with
    | .call c =>
      match c.callee with
      | .value f =>
        match getF F f with
        | .func (.func g) fs cs =>
          match acall P E m g (fs++c.args.toList.map (getF F)++cs) h with
          | some (v,h')=>some (v,h',hs,cond draw (drawCond ops n0 i (getF F) h o h') [],[⟨g,fs++c.args.toList.map (getF F)++cs,h,v,h'⟩])
          | none=>none
        | _=>none
      | _=>none
    | _=>none
  | .runF _ m =>
    match o with
    | .call c =>
      match c.callee with
      | .value f =>
        match getF F f with
        | .func (.func g) fs cs =>
          match fcall P E m g (fs++c.args.toList.map (getF F)++cs) h with
          | some (v,h')=>some (v,h',hs,cond draw (drawCond ops n0 i (getF F) h o h') [],[⟨g,fs++c.args.toList.map (getF F)++cs,h,v,h'⟩])
          | none=>none
        | _=>none
      | _=>none
    | _=>none
  | _=>none
def Hint.at:Hint→Option Nat
  | .val i _=>some i
  | .act i _ _=>some i
  | .far i _ _=>some i
  | .farV i _=>some i
  | .go i=>some i
  | .ld i _=>some i
  | .st i _=>some i
  | .cv i _ _=>some i
  | .cvF i _ _=>some i
  | .run i _=>some i
  | .runF i _=>some i
  | .enter i=>some i
  | _=>none
def pop (en:Enter) (q:Nat) (ops:Array Oper) (draw:Bool) (n0 i:Nat) (F:Facts) (h:AHeap) (o:Op) (hs:List Hint):PRes :=
  match hs with
  | x::r =>
    match x.at with
    | some j=>cond (Nat.beq (1000*q+i) j) (popHint P E en draw ops n0 i F h o x r) (popPlain E draw ops n0 i F h o hs)
    | none=>popPlain E draw ops n0 i F h o hs
  | []=>popPlain E draw ops n0 i F h o hs
def runOp(call:ACall)(ops:Array Oper)(draw:Bool)(n0 i:Nat)(ρ:Operand→AVal)(h:AHeap)(o:Op):Option (AVal×AHeap) :=
  if draw then dop E call ops n0 i ρ h o else aopX E call (n0+i) ρ h o
theorem xop_congr {nid:Nat}{ρ ρ':Operand→AVal}{h:AHeap}{o:Op}(hρ: ∀ x∈o.operands.toList,ρ x=ρ' x):xop E nid ρ h o=xop E nid ρ' h o:=by
  cases o
  case call c =>
    simp only [Op.operands,Call.operands,Array.toList_append,List.mem_append]at hρ
    simp only [xop]
    have ha:=map_congr_ops (xs:=c.args) (fun x hx=>hρ x (.inr hx))
    cases hcal:c.callee with
    | value f =>
      rw [hcal]at hρ
      simp only [ha,hρ f (.inl (by simp))]
    | invoke r m=>rfl
    | builtin b=>rfl
  case convert s d x =>
    simp only [Op.operands]at hρ
    simp only [xop]
    rw [hρ x (by simp)]
  all_goals rfl
theorem conv_cls {o:Op}(h:isConv o=true):cls o= .pure:=by
  cases o<;>simp only [isConv,Bool.false_eq_true]at h<;>rfl
theorem runOp_ofX {call:ACall}{ops:Array Oper}{draw:Bool}{n0 i:Nat}{ρ:Operand→AVal}{h h':AHeap}{o:Op}{v:AVal}(ha:aop E call (n0+i) ρ h o=none)(hx:xop E (n0+i) ρ h o=some (v,h'))
    (hd:draw=true→isConv o=true∧(soloOk ops i=true∨readOk ops n0 i ρ o=true)):runOp E call ops draw n0 i ρ h o=some (v,h'):=by
  unfold runOp
  cases draw with
  | false=>simp only [Bool.false_eq_true,if_false,aopX,ha,hx]
  | true =>
    obtain⟨h1,h2⟩:=hd rfl
    simp only [if_true]
    unfold dop
    simp only [conv_cls h1,ha,h1,h2,and_self,if_true,hx]
theorem runOp_of {call:ACall} {ops:Array Oper} {draw:Bool} {n0 i:Nat} {ρ:Operand→AVal} {h h':AHeap} {o:Op} {v:AVal} (ha:aop E call (n0+i) ρ h o=some (v,h')) (hd:All (cond draw (drawCond ops n0 i ρ h o h') [])) :
    runOp E call ops draw n0 i ρ h o=some (v,h'):=by
  unfold runOp
  cases draw with
  | false=>simp only [Bool.false_eq_true,if_false,aopX,ha]
  | true =>
    have hd:All (drawCond ops n0 i ρ h o h'):=hd
    simp only [if_true]
    unfold dop
    unfold drawCond at hd
    cases hcl:cls o<;>simp only [hcl]at hd ⊢ <;>try exact ha
    · rw [ha]
    · split
      · rename_i b hb
        rw [hb]at hd
        simp only at hd
        cases hq:(loadSolo ops i || (Nat.blt b n0 || (Nat.blt b (n0+ops.size) && (ordered (aheads ops) (b-n0) i && !looseStore ops (aheads ops) i))))with
        | false=>rw [hq]at hd;exact hd.head.elim
        | true =>
          simp only [Bool.or_eq_true,Bool.and_eq_true,Bool.not_eq_true']at hq
          rw [if_pos]
          · exact ha
          · rcases hq with hq | hq | ⟨hq,hq',hq''⟩
            · exact .inl hq
            · exact .inr (.inl (Nat.blt_eq.mp hq))
            · exact .inr (.inr ⟨Nat.blt_eq.mp hq,hq',hq''⟩)
      · rename_i hb;rw [hb]at hd;exact hd.head.elim
    · split
      · rename_i b hb
        rw [hb]at hd
        simp only at hd
        cases hq:(looseCall ops (aheads ops) i && Nat.blt b n0)with
        | true=>rw [hq]at hd;exact hd.head.elim
        | false =>
          rw [if_neg]
          · exact ha
          · rintro ⟨h1,h2⟩
            rw [h1,Nat.blt_eq.mpr h2]at hq;cases hq
      · rename_i hb;rw [hb]at hd;exact hd.head.elim
    · simp only [ha]
      cases hl:looseCall ops (aheads ops) i with
      | false=>simp
      | true =>
        rw [hl,cond_true]at hd
        simp only [if_true]
        rw [if_pos hd.head]
    · cases hq:appOk ops n0 i (appIds ρ o)with
      | true=>simp [ha]
      | false=>rw [hq]at hd;exact hd.head.elim
theorem popPlain_spec {ops:Array Oper} {draw:Bool} {n0 i:Nat} {F:Facts} {h h':AHeap} {o:Op} {hs hs':List Hint} {v:AVal} {cs:List Prop} {ks:List CFact} (hp:popPlain E draw ops n0 i F h o hs=some (v,h',hs',cs,ks)) (hc:All cs) (call:ACall) :
    runOp E call ops draw n0 i (getF F) h o=some (v,h'):=by
  unfold popPlain at hp
  cases hb:plainOp o
  · rw [hb]at hp;cases hp
  · rw [hb,cond_true]at hp
    split at hp
    · rename_i v1 h1 ha
      simp only [Option.some.injEq,Prod.mk.injEq]at hp
      obtain⟨rfl,rfl,_,rfl,_⟩:=hp
      exact runOp_of E ((aop_noCall E hb call).symm.trans ha) hc
    · rename_i ha
      cases hq:(!draw || (isConv o && (soloOk ops i || readOk ops n0 i (getF F) o)))with
      | false=>rw [hq]at hp;cases hp
      | true =>
        rw [hq,cond_true]at hp
        split at hp
        · rename_i v1 h1 hx
          simp only [Option.some.injEq,Prod.mk.injEq]at hp
          obtain⟨rfl,rfl,_,rfl,_⟩:=hp
          refine runOp_ofX E ((aop_noCall E hb call).symm.trans ha) hx fun hdr=> ?_
          rw [hdr]at hq;simpa using hq
        · cases hp
theorem popHint_spec {en:Enter} {ops:Array Oper} {draw:Bool} {n0 i:Nat} {F:Facts} {h h':AHeap} {o:Op} {x:Hint} {hs hs':List Hint} {v:AVal} {cs:List Prop} {ks:List CFact} (hp:popHint P E en draw ops n0 i F h o x hs=some (v,h',hs',cs,ks)) (hc:All cs) {call:ACall}
    (hk: ∀ c∈ks,c.holds call):runOp E call ops draw n0 i (getF F) h o=some (v,h'):=by
  unfold popHint at hp
  split at hp
  · split at hp
    · rename_i c
      split at hp
      · rename_i f hf
        split at hp
        · rename_i g fs cs' hg
          split at hp
          · rename_i v1 h1 hs1 cc hcall
            simp only [Option.some.injEq,Prod.mk.injEq]at hp
            obtain⟨rfl,rfl,_,rfl,rfl⟩:=hp
            refine runOp_of E ?_ hc.left
            simp only [aop,hf,hg,acallVal]
            exact hk _ (List.mem_singleton.2 rfl)
          · cases hp
        · cases hp
      · cases hp
    · cases hp
  · simp only [Option.some.injEq,Prod.mk.injEq]at hp
    obtain⟨rfl,rfl,_,rfl,rfl⟩:=hp
    exact runOp_of E (valCond_spec P E hc.head hk) hc.tail
  · simp only [Option.some.injEq,Prod.mk.injEq]at hp
    obtain⟨rfl,rfl,_,rfl,rfl⟩:=hp
    exact runOp_of E (actCond_spec P E hc.head hk) hc.tail
  · simp only [Option.some.injEq,Prod.mk.injEq]at hp
    obtain⟨rfl,rfl,_,rfl,rfl⟩:=hp
    refine runOp_of E (actCond_spec P E hc.head hk) ?_
    have ht:=hc.tail
    cases draw with
    | false=>intro p hp;cases hp
    | true=>exact far_draw ht
  · simp only [Option.some.injEq,Prod.mk.injEq]at hp
    obtain⟨rfl,rfl,_,rfl,rfl⟩:=hp
    refine runOp_of E (valCond_spec P E hc.head hk) ?_
    have ht:=hc.tail
    cases draw with
    | false=>intro p hp;cases hp
    | true=>exact far_draw ht
  · split at hp
    · rename_i v1 h1 p hg
      simp only [Option.some.injEq,Prod.mk.injEq]at hp
      obtain⟨rfl,rfl,_,rfl,_⟩:=hp
      exact runOp_of E (goOp_spec E hg hc.head call) hc.tail
    · cases hp
  · split at hp
    · rename_i v1 p hg
      simp only [Option.some.injEq,Prod.mk.injEq]at hp
      obtain⟨rfl,rfl,_,rfl,_⟩:=hp
      exact runOp_of E (ldOp_spec E hg hc.head call) hc.tail
    · cases hp
  · split at hp
    · rename_i h1 p hg
      simp only [Option.some.injEq,Prod.mk.injEq]at hp
      obtain⟨rfl,rfl,_,rfl,_⟩:=hp
      exact runOp_of E (stOp_spec E hg hc.head call) hc.tail
    · cases hp
  · cases hq:(isConv o && (!draw || (soloOk ops i || readOk ops n0 i (getF F) o)))with
    | false=>rw [hq]at hp;cases hp
    | true =>
      rw [hq,cond_true]at hp
      simp only [Bool.and_eq_true]at hq
      split at hp
      · rename_i ha
        simp only [Option.some.injEq,Prod.mk.injEq]at hp
        obtain⟨rfl,rfl,_,rfl,_⟩:=hp
        have hpl:plainOp o=true:=by
          cases o<;>first | rfl | (simp [isConv]at hq)
        refine runOp_ofX E ((aop_noCall E hpl call).symm.trans ha) hc.head fun hdr=>⟨hq.1,?_⟩
        have:=hq.2;rw [hdr]at this;simpa using this
      · cases hp
  · cases hq:isConv o with
    | false=>rw [hq]at hp;cases hp
    | true =>
      rw [hq,cond_true]at hp
      split at hp
      · rename_i ha
        simp only [Option.some.injEq,Prod.mk.injEq]at hp
        obtain⟨rfl,rfl,_,rfl,_⟩:=hp
        have hpl:plainOp o=true:=by
          cases o<;>first | rfl | (simp [isConv]at hq)
        refine runOp_ofX E ((aop_noCall E hpl call).symm.trans ha) hc.head fun hdr=>⟨hq,.inr ?_⟩
        have ht:=hc.tail
        rw [hdr]at ht
        exact cvCond_spec ht
      · cases hp
  · split at hp
    · rename_i c
      split at hp
      · rename_i f hf
        split at hp
        · rename_i g fs cs' hg
          split at hp
          · rename_i v1 h1 hcall
            simp only [Option.some.injEq,Prod.mk.injEq]at hp
            obtain⟨rfl,rfl,_,rfl,rfl⟩:=hp
            refine runOp_of E ?_ hc
            simp only [aop,hf,hg,acallVal]
            exact hk _ (List.mem_singleton.2 rfl)
          · cases hp
        · cases hp
      · cases hp
    · cases hp
  · split at hp
    · rename_i c
      split at hp
      · rename_i f hf
        split at hp
        · rename_i g fs cs' hg
          split at hp
          · rename_i v1 h1 hcall
            simp only [Option.some.injEq,Prod.mk.injEq]at hp
            obtain⟨rfl,rfl,_,rfl,rfl⟩:=hp
            refine runOp_of E ?_ hc
            simp only [aop,hf,hg,acallVal]
            exact hk _ (List.mem_singleton.2 rfl)
          · cases hp
        · cases hp
      · cases hp
    · cases hp
  · cases hp
theorem pop_spec {en:Enter}{q:Nat}{ops:Array Oper}{draw:Bool}{n0 i:Nat}{F:Facts}{h h':AHeap}{o:Op}{hs hs':List Hint}{v:AVal}{cs:List Prop}{ks:List CFact}(hp:pop P E en q ops draw n0 i F h o hs=some (v,h',hs',cs,ks))(hc:All cs){call:ACall}
    (hk: ∀ c∈ks,c.holds call):runOp E call ops draw n0 i (getF F) h o=some (v,h'):=by
  unfold pop at hp
  split at hp
  · split at hp
    · rename_i j hj
      cases hb:Nat.beq (1000*q+i) j
      · rw [hb,cond_false]at hp;exact popPlain_spec E hp hc call
      · rw [hb,cond_true]at hp;exact popHint_spec P E hp hc hk
    · exact popPlain_spec E hp hc call
  · exact popPlain_spec E hp hc call
def EnterOk(en:Enter):Prop:= ∀ f args h hs v h' hs' cs,en f args h hs=some (v,h',hs',cs)→All cs→FDoes P E.cond f args h v h'
theorem pop_does (hE:EnvOk P E) (hmix:P.follows .mixedOrders=true) {en:Enter} (hen:EnterOk P E en) {q:Nat} {ops:Array Oper} {draw:Bool} {n0 i:Nat} {F:Facts} {h h':AHeap} {o:Op} {hs hs':List Hint} {v:AVal} {cs:List Prop} {ks:List CFact} (hp:pop P E en q ops draw n0 i F h o hs=some (v,h',hs',cs,ks)) (hc:All cs) :
    ∀ c∈ks,FDoes P E.cond c.f c.args c.h c.v c.h':=by
  have plain: ∀ {hs0:List Hint},popPlain E draw ops n0 i F h o hs0=some (v,h',hs',cs,ks)→ ∀ c∈ks,FDoes P E.cond c.f c.args c.h c.v c.h':=by
    intro hs0 hp
    unfold popPlain at hp
    cases hb:plainOp o
    · rw [hb]at hp;cases hp
    · rw [hb,cond_true]at hp
      split at hp
      · simp only [Option.some.injEq,Prod.mk.injEq]at hp
        obtain⟨_,_,_,_,rfl⟩:=hp
        intro c hc;simp at hc
      · cases hq:(!draw || (isConv o && (soloOk ops i || readOk ops n0 i (getF F) o)))with
        | false=>rw [hq]at hp;cases hp
        | true =>
          rw [hq,cond_true]at hp
          split at hp
          · simp only [Option.some.injEq,Prod.mk.injEq]at hp
            obtain⟨_,_,_,_,rfl⟩:=hp
            intro c hc;simp at hc
          · cases hp
  unfold pop at hp
  split at hp
  · split at hp
    · rename_i j hj
      cases hb:Nat.beq (1000*q+i) j
      · rw [hb,cond_false]at hp;exact plain hp
      · rw [hb, cond_true]at hp
        unfold popHint at hp
        split at hp
        · split at hp
          · split at hp
            · split at hp
              · split at hp
                · rename_i hcall
                  simp only [Option.some.injEq,Prod.mk.injEq]at hp
                  obtain⟨_,_,_,rfl,rfl⟩:=hp
                  intro c hm
                  simp only [List.mem_singleton]at hm
                  subst hm
                  exact hen _ _ _ _ _ _ _ _ hcall hc.right
                · cases hp
              · cases hp
            · cases hp
          · cases hp
        · simp only [Option.some.injEq,Prod.mk.injEq]at hp
          obtain⟨rfl,rfl,_,rfl,rfl⟩:=hp
          exact valCond_does P E hc.head
        · simp only [Option.some.injEq,Prod.mk.injEq]at hp
          obtain⟨rfl,rfl,_,rfl,rfl⟩:=hp
          exact actCond_does P E hc.head
        · simp only [Option.some.injEq,Prod.mk.injEq]at hp
          obtain⟨rfl,rfl,_,rfl,rfl⟩:=hp
          exact actCond_does P E hc.head
        · simp only [Option.some.injEq,Prod.mk.injEq]at hp
          obtain⟨rfl,rfl,_,rfl,rfl⟩:=hp
          exact valCond_does P E hc.head
        all_goals first
          | (split at hp
             · simp only [Option.some.injEq,Prod.mk.injEq]at hp
               obtain⟨_,_,_,_,rfl⟩:=hp
               intro c hc;simp at hc
             · cases hp
             done)
          | (cases hp;done)
          | skip
        · cases hq:(isConv o && (!draw || (soloOk ops i || readOk ops n0 i (getF F) o)))with
          | false=>rw [hq]at hp;cases hp
          | true =>
            rw [hq,cond_true]at hp
            split at hp
            · simp only [Option.some.injEq,Prod.mk.injEq]at hp
              obtain⟨_,_,_,_,rfl⟩:=hp
              intro c hc;simp at hc
            · cases hp
        · cases hq:isConv o with
          | false=>rw [hq]at hp;cases hp
          | true =>
            rw [hq,cond_true]at hp
            split at hp
            · simp only [Option.some.injEq,Prod.mk.injEq]at hp
              obtain⟨_,_,_,_,rfl⟩:=hp
              intro c hc;simp at hc
            · cases hp
        · split at hp
          · split at hp
            · split at hp
              · split at hp
                · rename_i hcall
                  simp only [Option.some.injEq,Prod.mk.injEq]at hp
                  obtain⟨_,_,_,_,rfl⟩:=hp
                  intro c hc
                  simp only [List.mem_singleton]at hc
                  subst hc
                  exact FDoes.of_acall hE hmix hcall
                · cases hp
              · cases hp
            · cases hp
          · cases hp
        · split at hp
          · split at hp
            · split at hp
              · split at hp
                · rename_i hcall
                  simp only [Option.some.injEq,Prod.mk.injEq]at hp
                  obtain⟨_,_,_,_,rfl⟩:=hp
                  intro c hc
                  simp only [List.mem_singleton]at hc
                  subst hc
                  rw [fcall_eq]at hcall
                  exact FDoes.of_acall hE hmix hcall
                · cases hp
              · cases hp
            · cases hp
          · cases hp
    · exact plain hp
  · exact plain hp
def ltDst(n:Nat)(o:Oper):Bool :=
  match o.dst with
  | some d=>Nat.blt d n
  | none=>true
def runL(E:AEnv)(call:ACall)(ops:Array Oper)(draw:Bool)(n0:Nat)(l:List Nat)(s:ASt):Option ASt :=
  if draw then drun E call ops n0 l s else arun E call ops n0 l s
theorem runL_cons_true {call:ACall}{ops:Array Oper}{draw:Bool}{n0 i:Nat}{l:List Nat}{s:List AVal}{h h':AHeap}{o:Oper}{v:AVal}(ho:ops[i]? =some o)(hw:awanted ops s o=some true)
    (ha:runOp E call ops draw n0 i (agetOp s) h o.op=some (v,h')):runL E call ops draw n0 (i::l) ⟨s,h⟩=runL E call ops draw n0 l ⟨aput s o.dst v,h'⟩:=by
  unfold runL runOp at *
  cases draw with
  | false=>simp only [Bool.false_eq_true,if_false]at ha ⊢; simp only [arun,astep,ho,hw,ha]
  | true=>simp only [if_true]at ha ⊢; simp only [drun,dstep,ho,hw,ha]
theorem runL_cons_false {call:ACall}{ops:Array Oper}{draw:Bool}{n0 i:Nat}{l:List Nat}{s:List AVal}{h:AHeap}{o:Oper}(ho:ops[i]? =some o)(hw:awanted ops s o=some false) :
    runL E call ops draw n0 (i::l) ⟨s,h⟩=runL E call ops draw n0 l ⟨aput s o.dst skipped,h⟩:=by
  unfold runL
  cases draw with
  | false=>simp only [Bool.false_eq_true,if_false,arun,astep,ho,hw]
  | true=>simp only [if_true,drun,dstep,ho,hw]
theorem length_aput(s:List AVal)(d:Option Tmp)(v:AVal):(aput s d v).length=s.length:=by cases d<;>simp [aput]
structure Agree(a b:List AVal)(h k:AHeap)(v u:AVal)(h' k':AHeap):Prop where
  agree:a=b→h=k→v=u∧h'=k'
def clash(a b:CFact):List Prop:=cond (Nat.beq a.f b.f) [Agree a.args b.args a.h b.h a.v b.v a.h' b.h'] []
def clashes:List CFact→List Prop
  | []=> []
  | a::r=>r.flatMap (clash a)++clashes r
open Classical in
def callK:List CFact→ACall
  | [],_,_,_=>none
  | k::r,f,args,h=>if k.f=f∧k.args=args∧k.h=h then some (k.v,k.h')else callK r f args h
theorem callK_mem: ∀ {ks:List CFact} {f:FuncId} {args:List AVal} {h:AHeap} {v:AVal} {h':AHeap},callK ks f args h=some (v,h')→ ∃ k∈ks,k.f=f∧k.args=args∧k.h=h∧k.v=v∧k.h'=h'
  | [],f,args,h,v,h',hc=>by cases hc
  | k ::r,f,args,h,v,h',hc=>by
    simp only [callK]at hc
    split at hc
    · rename_i e
      simp only [Option.some.injEq,Prod.mk.injEq]at hc
      exact⟨k,by simp,e.1,e.2.1,e.2.2,hc.1,hc.2⟩
    · obtain⟨k',hm,q⟩:=callK_mem hc
      exact⟨k',by simp [hm],q⟩
theorem callK_holds: ∀ {ks:List CFact},All (clashes ks)→ ∀ c∈ks,c.holds (callK ks)
  | [],_,c,hc=>by simp at hc
  | k ::r,hu,c,hc=>by
    simp only [clashes]at hu
    unfold CFact.holds
    simp only [callK]
    split
    · rename_i e
      rcases List.mem_cons.1 hc with rfl | hm
      · rfl
      · have:=hu.left
        have hq:k.v=c.v∧k.h'=c.h':=by
          have h1:Agree k.args c.args k.h c.h k.v c.v k.h' c.h':=this _ (List.mem_flatMap.2 ⟨c,hm,by unfold clash;rw [beq_true e.1];simp⟩)
          exact h1.agree e.2.1 e.2.2
        rw [hq.1,hq.2]
    · rename_i e
      rcases List.mem_cons.1 hc with rfl | hm
      · exact absurd ⟨rfl,rfl,rfl⟩ e
      · exact callK_holds hu.right c hm
theorem callK_ok {ks:List CFact}(hk: ∀ c∈ks,FDoes P E.cond c.f c.args c.h c.v c.h'){N0:Nat→Prop}{w0:World}(hN:Low N0 w0.heap.size)(hC:E.cond N0 w0):CallOk P N0 w0 (callK ks):=by
  intro f args h v h' hc φ w args' hH hB hA
  obtain⟨k,hm,rfl,rfl,rfl,rfl,rfl⟩:=callK_mem hc
  exact hk k hm N0 w0 hN hC φ w args' hH hB hA
def factsFrom:Nat→List AVal→Facts
  | _,[]=> []
  | i,v::r=>(i,v)::factsFrom (i+1) r
def presults (D:Tys) (F:Facts) (h:AHeap):List ResultVar→List Hint→Option (List AVal×List Prop)
  | [],[]=>some ([],[])
  | [],_=>none
  | .tmp t::r,hs=>match lookF F t,presults D F h r hs with | some v,some (l,cs)=>some (v::l,cs) | _,_=>none
  | .cell a t::r,.cell v::hs=>match lookF F a,presults D F h r hs with | some (.ptr (some p)),some (l,cs)=>some (v::l,(aload D t p h=some v)::cs) | _,_=>none
  | .cell a t::r,hs =>
    match lookF F a with
    | some (.ptr (some p)) =>
      match aload D t p h with
      | some v=>match presults D F h r hs with | some (l,cs)=>some (v::l,cs) | none=>none
      | none=>none
    | _=>none
end
end
end Go.Lift
namespace Go.Lift
noncomputable section
open Go.RowKit
section
variable {P:Program}{E:AEnv}
def FRel(φ:Map)(S:Nat→Prop)(w0:World)(n:Nat)(F:Facts)(h:AHeap)(a:Act)(w:World):Prop:= ∃ s:List AVal,s.length=n∧Has F s∧SRel φ S w0 ⟨s,h⟩ a w
def Tri (P:Program) (C:(Nat→Prop)→World→Prop) (base n:Nat) (goal:(Exit→Act→World→Prop)→Act→World→Prop) (F:Facts) (h:AHeap) (e:AExit) (F':Facts) (h':AHeap):Prop :=
  ∀ (S:Nat→Prop) (w0:World),Low S w0.heap.size→C S w0→ ∀ (φ0 φ:Map) (a:Act) (w:World),(∀ i v p,φ0 i v=some p→i<base)→Keep φ0 φ base→FRel φ S w0 n F h a w →
    ∀ Q:Exit→Act→World→Prop,(∀ φ' a' w',Keep φ0 φ' base→FRel φ' S w0 n F' h' a' w'→Q (toExit e) a' w')→goal Q a w
def Runs(P:Program)(C:(Nat→Prop)→World→Prop)(base n:Nat)(c:Code)(F:Facts)(h:AHeap)(e:AExit)(F':Facts)(h':AHeap):Prop:=Tri P C base n (fun Q a w=>c.wp P Q a w) F h e F' h'
def Loops(P:Program)(C:(Nat→Prop)→World→Prop)(base n:Nat)(c:Code)(F:Facts)(h:AHeap)(e:AExit)(F':Facts)(h':AHeap):Prop:=Tri P C base n (fun Q a w=>LoopW P c Q a w) F h e F' h'
def goalOf(P:Program)(body:Option Code)(c:Code):(Exit→Act→World→Prop)→Act→World→Prop :=
  match body with
  | none=>fun Q a w=>c.wp P Q a w
  | some b=>fun Q a w=>ScopeW P b c Q a w
theorem Runs.of_loops {C:(Nat→Prop)→World→Prop}{base n:Nat}{c:Code}{F F':Facts}{h h':AHeap}{e:AExit}(k:Loops P C base n c F h e F' h'):Runs P C base n (.loop c) F h e F' h' :=
  fun S w0 hS hC φ0 φ a w h0 hk r Q hQ=>wp_of_loopW (k S w0 hS hC φ0 φ a w h0 hk r Q hQ)
theorem Loops.step {C:(Nat→Prop)→World→Prop}{base n:Nat}{c:Code}{F F1 F2:Facts}{h h1 h2:AHeap}{e:AExit}(k1:Runs P C base n c F h .normal F1 h1)(k2:Loops P C base n c F1 h1 e F2 h2):Loops P C base n c F h e F2 h2 :=
  fun S w0 hS hC φ0 φ a w h0 hk r Q hQ=>loopW_round (k1 S w0 hS hC φ0 φ a w h0 hk r _ fun φ' a' w' hk' r'=>k2 S w0 hS hC φ0 φ' a' w' h0 hk' r' Q hQ)
theorem Loops.last {C:(Nat→Prop)→World→Prop}{base n:Nat}{c:Code}{F F1:Facts}{h h1:AHeap}{e:AExit}(he:e≠ .normal)(k1:Runs P C base n c F h e F1 h1):Loops P C base n c F h e F1 h1 :=
  fun S w0 hS hC φ0 φ a w h0 hk r Q hQ=>loopW_round (k1 S w0 hS hC φ0 φ a w h0 hk r _ fun φ' a' w' hk' r'=>by
    have:=hQ φ' a' w' hk' r'
    cases e with
    | normal=>exact absurd rfl he
    | _=>exact this)
def Ent(base n:Nat)(F:Facts)(h:AHeap)(F1:Facts)(h1:AHeap):Prop :=
  ∀ (S:Nat→Prop) (w0:World) (φ0 φ:Map) (a:Act) (w:World),(∀ i v p,φ0 i v=some p→i<base)→Keep φ0 φ base→FRel φ S w0 n F h a w→ ∃ φ1,Keep φ0 φ1 base∧FRel φ1 S w0 n F1 h1 a w
theorem Tri.pre {C:(Nat→Prop)→World→Prop}{base n:Nat}{goal:(Exit→Act→World→Prop)→Act→World→Prop}{F G F':Facts}{h g h':AHeap}{e:AExit}(k:Tri P C base n goal F h e F' h')(i:Ent base n G g F h):Tri P C base n goal G g e F' h' :=
  fun S w0 hS hC φ0 φ a w h0 hk r Q hQ=>by
    obtain⟨φ1,hk1,r1⟩:=i S w0 φ0 φ a w h0 hk r
    exact k S w0 hS hC φ0 φ1 a w h0 hk1 r1 Q hQ
theorem Tri.post {C:(Nat→Prop)→World→Prop}{base n:Nat}{goal:(Exit→Act→World→Prop)→Act→World→Prop}{F F' G':Facts}{h h' g':AHeap}{e:AExit}(k:Tri P C base n goal F h e F' h')(i:Ent base n F' h' G' g'):Tri P C base n goal F h e G' g' :=
  fun S w0 hS hC φ0 φ a w h0 hk r Q hQ=>k S w0 hS hC φ0 φ a w h0 hk r Q fun φ' a' w' hk' r'=>by
    obtain⟨φ1,hk1,r1⟩:=i S w0 φ0 φ' a' w' h0 hk' r'
    exact hQ φ1 a' w' hk1 r1
def Facts.le(G F:Facts):Prop:= ∀ t v,lookF G t=some v→lookF F t=some v
theorem Facts.only_le(F:Facts)(l:List Nat):Facts.le (onlyF F l) F:=fun _ _ h=>lookF_only h
theorem Ent.facts {base n:Nat}{F G:Facts}{h:AHeap}(k:Facts.le G F):Ent base n F h G h :=
  fun S w0 φ0 φ a w h0 hk ⟨s,hn,hF,r⟩=>⟨φ,hk,s,hn,fun t v hv=>hF t v (k t v hv),r⟩
theorem lookF_from: ∀ (l:List AVal) (i t:Nat) (v:AVal),lookF (factsFrom i l) t=some v→i≤t∧l[t-i]? =some v
  | [],i,t,v,h=>by cases h
  | a ::r,i,t,v,h=>by
    simp only [factsFrom,lookF_cons]at h
    split at h
    · rename_i e;subst e;exact⟨Nat.le_refl _,by simpa using h⟩
    · rename_i e
      obtain⟨h1,h2⟩:=lookF_from r (i+1) t v h
      refine⟨by omega,?_⟩
      rw [show t-i=(t- (i+1))+1 by omega,List.getElem?_cons_succ];exact h2
theorem presults_spec {D:Tys} {F:Facts} {h:AHeap} {s:List AVal} (hF:Has F s): ∀ {rs:List ResultVar} {hs:List Hint} {l:List AVal} {cs:List Prop},presults D F h rs hs=some (l,cs)→All cs→aresults D rs ⟨s,h⟩=some l
  | [],hs,l,cs,hp,hc=>by
    cases hs with
    | nil=>simp only [presults,Option.some.injEq,Prod.mk.injEq]at hp;obtain⟨rfl,_⟩:=hp;rfl
    | cons a r=>simp [presults]at hp
  | .tmp t::r,hs,l,cs,hp,hc=>by
    simp only [presults]at hp
    split at hp
    · rename_i v l' cs' hv hx
      simp only [Option.some.injEq,Prod.mk.injEq]at hp
      obtain⟨rfl,rfl⟩:=hp
      simp only [aresults,presults_spec hF hx hc,List.getD_eq_getElem?_getD,hF t v hv];rfl
    · cases hp
  | .cell a t::r,hs,l,cs,hp,hc=>by
    have go : ∀ {hs:List Hint} {l:List AVal} {cs:List Prop},(match lookF F a with
        | some (.ptr (some p)) =>
          match aload D t p h with
          | some v=>match presults D F h r hs with | some (l,cs)=>some (v::l,cs) | none=>none
          | none=>none
        | _=>none)=some (l,cs)→All cs→aresults D (.cell a t::r) ⟨s,h⟩=some l:=by
      intro hs l cs hp hc
      split at hp
      · rename_i p hv
        split at hp
        · rename_i v hl
          split at hp
          · rename_i l' cs' hx
            simp only [Option.some.injEq,Prod.mk.injEq]at hp
            obtain⟨rfl,rfl⟩:=hp
            simp only [aresults,presults_spec hF hx hc,List.getD_eq_getElem?_getD,hF a _ hv,Option.getD_some,hl]
          · cases hp
        · cases hp
      · cases hp
    cases hs with
    | nil=>exact go (hs:= []) hp hc
    | cons q hs =>
      cases q with
      | cell v =>
        simp only [presults]at hp
        split at hp
        · rename_i p l' cs' hv hx
          simp only [Option.some.injEq,Prod.mk.injEq]at hp
          obtain⟨rfl,rfl⟩:=hp
          have hrest:All cs':=fun p hp=>hc p (by simp [hp])
          simp only [aresults,presults_spec hF hx hrest,List.getD_eq_getElem?_getD,hF a _ hv,Option.getD_some,hc.head]
        · cases hp
      | _=>exact go (hs:=_::hs) hp hc
theorem FDoes.of_runs(hE:EnvOk P E){f:FuncId}{fn:Func}{c:Code}(hf:P.funcs[f]? =some fn)(hb:fn.body=some c){args:List AVal}{h h':AHeap}{e:AExit}(he:e= .normal∨e= .ret){F':Facts}{rs:List Hint}{l:List AVal}{cs:List Prop}
    (hr:Runs P E.cond h.next (args.length+(fn.ntmps-args.length)) c (factsFrom 0 args) h e F' h') (hp:presults E.D F' h' fn.results.toList rs=some (l,cs)) (hc:All cs) (hn:h.next≤h'.next):FDoes P E.cond f args h (aresult l) h':=by
  intro S w0 hS hC0 φ w args' hH hsafe hA
  refine⟨⟨fn,c,hf,hb⟩,calls_of_wp hf hb ?_⟩
  have hlen:args'.size=args.length:=by have:=hA.length;rwa [Array.length_toList]at this
  have hF:Has (factsFrom 0 args) (args++List.replicate (fn.ntmps-args.length) skipped):=by
    intro t u hu
    obtain⟨_,h2⟩:=lookF_from args 0 t u hu
    simp only [Nat.sub_zero]at h2
    obtain⟨hlt,_⟩:=List.getElem?_eq_some_iff.1 h2
    rw [List.getElem?_append_left hlt];exact h2
  have r:SRel φ S w0 ⟨args++List.replicate (fn.ntmps-args.length) skipped,h⟩ {tmps:=args'++Array.replicate (fn.ntmps-args'.size) undef,defers:= []} w:=by
    refine⟨?_,hH,hsafe,rfl⟩
    simp only [Array.toList_append,Array.toList_replicate,hlen]
    exact hA.append (VRels.replicate (VRel.skipped φ) _)
  refine hr S w0 hS hC0 φ φ _ w (fun i v p hp=>(hH.dom i v p hp).1) (Keep.refl _ _) ⟨_,by simp,hF,r⟩ _ fun φ' a' w' hk ⟨s',n1,f1,r1⟩=> ?_
  have hl:=presults_spec f1 hp hc
  obtain⟨v',k1,k2⟩:=results_sound hE.tys r1 hl
  rcases he with rfl | rfl
  · exact⟨r1.defers,v',k1,v',φ',rfl,hk,k2,r1.heap,r1.below,hn⟩
  · exact⟨r1.defers,v',k1,v',φ',rfl,hk,k2,r1.heap,r1.below,hn⟩
theorem Ent.refl(base n:Nat)(F:Facts)(h:AHeap):Ent base n F h F h:=fun S w0 φ0 φ a w h0 hk r=>⟨φ,hk,r⟩
theorem Ent.ren {base n:Nat}{F F1:Facts}{h h1:AHeap}{r:Nat→Nat}(hw:Within r h1 h)(hf: ∀ t v,lookF F1 t=some v→t<n∧lookF F t=some (v.ren r)∧Clo (In h1) v)
    (b1: ∀ i,i<base→In h i→In h1 i) (b2: ∀ i,i<base→In h1 i→r i=i) (b3: ∀ i,In h1 i→r i<base→i<base):Ent base n F h F1 h1:=by
  intro S w0 φ0 φ a w h0 hk ⟨s,hn,hF,rl⟩
  have hsize:a.tmps.toList.length=n:=by rw [rl.slots.length];exact hn
  refine⟨pull φ r h1,⟨?_,?_,?_⟩,(List.range n).map (fun t=>(lookF F1 t).getD .undef),by simp,?_,⟨?_,rl.heap.pull hw ?_,rl.below,rl.defers⟩⟩
  · intro i v p hp
    have hi:=h0 i v p hp
    have hp':=hk.le i v p hp
    obtain⟨_,b,hb,_⟩:=rl.heap.dom i v p hp'
    have hin:=b1 i hi (by unfold In;rw [hb];rfl)
    rw [pull_of hin,b2 i hi hin];exact hp'
  · intro i hi hnone u
    have:=hk.new i hi hnone
    unfold pull
    split
    · rename_i hin;rw [b2 i hi hin];exact this u
    · rfl
  · intro i v p hp hro
    obtain⟨hin,hp'⟩:=pull_some hp
    have h1:=hk.ro _ _ _ hp' hro
    have h2:=b3 i hin (h0 _ _ _ h1)
    rw [b2 i h2 hin]at h1;exact h1
  · intro t v hv
    obtain⟨ht,_,_⟩:=hf t v hv
    simp [ht,hv]
  · refine VRels.of_get (by simp [hsize]) fun t x V hx hV=> ?_
    have ht:t<n:=by
      have:=(List.getElem?_eq_some_iff.1 hx).1;simpa using this
    simp only [List.getElem?_map,List.getElem?_range ht,Option.map_some,Option.some.injEq]at hx
    cases hl:lookF F1 t with
    | none=>rw [hl]at hx;simp at hx;subst hx;simp [VRel]
    | some v =>
      rw [hl]at hx;simp at hx;subst hx
      obtain⟨_,g1,g2⟩:=hf t v hl
      obtain⟨V',e1,e2⟩:=rl.slots.get (hF t _ g1)
      rw [hV]at e1;simp at e1;subst e1
      exact VRel.unren (fun i hi v p hp=>by rw [pull_of hi];exact hp) g2 e2
  · intro i v p hp hro
    obtain⟨_,hp'⟩:=pull_some hp
    obtain⟨_,B,_,_,_,_,_,_,hrow⟩:=rl.heap.dom _ _ _ hp'
    exact hrow.base hro
def loops:Code→List Code
  | .seq a b=>loops a++loops b
  | .cond _ a b=>loops a++loops b
  | .block _ c=>loops c
  | .scope c=>loops c
  | .loop c=>c::loops c
  | _=> []
def bodyOf(P:Program)(f:FuncId):Code :=
  match P.funcs[f]? with
  | some fn=>match fn.body with | some c=>c | none=> .skip
  | none=> .skip
def loopAt(P:Program)(f:FuncId)(k:Nat):Code:=(loops (bodyOf P f))[k]?.getD .skip
theorem FDoes.ren {C:(Nat→Prop)→World→Prop}{f:FuncId}{args:List AVal}{h h' h2:AHeap}{v v2:AVal}{r:Nat→Nat}(k:FDoes P C f args h v h')(hw:Within r h2 h')(hv:v=v2.ren r)(hcl:Clo (In h2) v2)
    (b1: ∀ i,i<h.next→In h' i→In h2 i) (b2: ∀ i,i<h.next→In h2 i→r i=i) (b3: ∀ i,In h2 i→r i<h.next→i<h.next) (hn:h.next≤h2.next):FDoes P C f args h v2 h2:=by
  subst hv
  intro S w0 hS hC0 φ w args' hH hsafe hA
  obtain⟨g1,g2⟩:=k S w0 hS hC0 φ w args' hH hsafe hA
  refine⟨g1,g2.mono fun e w' ⟨v',φ',he,kp,hv,hr,hs,hn'⟩=> ?_⟩
  refine⟨v',pull φ' r h2,he,⟨?_,?_,?_⟩,VRel.unren (fun i hi v p hp=>by rw [pull_of hi];exact hp) hcl hv,hr.pull hw ?_,hs,hn⟩
  · intro i u p hp
    have hi:=(hH.dom i u p hp).1
    have hp':=kp.le i u p hp
    obtain⟨_,b,hb,_⟩:=hr.dom i u p hp'
    have hin:=b1 i hi (by unfold In;rw [hb];rfl)
    rw [pull_of hin,b2 i hi hin];exact hp'
  · intro i hi hnone u
    have:=kp.new i hi hnone
    unfold pull
    split
    · rename_i hin;rw [b2 i hi hin];exact this u
    · rfl
  · intro i u p hp hro
    obtain⟨hin,hp'⟩:=pull_some hp
    have h1:=kp.ro _ _ _ hp' hro
    have h2:=b3 i hin (hH.dom _ _ _ h1).1
    rw [b2 i h2 hin]at h1;exact h1
  · intro i u p hp hro
    obtain⟨_,hp'⟩:=pull_some hp
    obtain⟨_,B,_,_,_,_,_,_,hrow⟩:=hr.dom _ _ _ hp'
    exact hrow.base hro
theorem All.nil:All []:=fun p hp=>by simp at hp
theorem All.cons {p:Prop}{l:List Prop}(h:p)(k:All l):All (p::l):=fun q hq=>by
  rcases List.mem_cons.1 hq with rfl | hq
  · exact h
  · exact k q hq
def Bare(v:AVal):Prop:=(∀ r,v.ren r=v)∧Clo (fun _=>False) v
theorem Bare.str(s:List UInt8):Bare (.str s):=⟨fun _=>rfl,trivial⟩
mutual
theorem Clo.mono {D D':Nat→Prop}(h: ∀ i,D i→D' i): ∀ {v:AVal},Clo D v→Clo D' v
  | .ptr (some a),k=>by simp only [Clo]at k ⊢; exact h _ k
  | .slice (some a) _ _,k=>by simp only [Clo]at k ⊢; exact h _ k
  | .func _ f c,k=>by simp only [Clo]at k ⊢; exact⟨Clos.mono h k.1,Clos.mono h k.2⟩
  | .iface _ v,k=>by simp only [Clo]at k ⊢; exact Clo.mono h k
  | .agg cs,k=>by simp only [Clo]at k ⊢; exact Clos.mono h k
  | .tuple vs,k=>by simp only [Clo]at k ⊢; exact Clos.mono h k
  | .undef,_=>by simp [Clo]
  | .bool _,_=>by simp [Clo]
  | .int _ _,_=>by simp [Clo]
  | .str _,_=>by simp [Clo]
  | .ptr none,_=>by simp [Clo]
  | .slice none _ _,_=>by simp [Clo]
  | .nilFunc,_=>by simp [Clo]
  | .nilIface,_=>by simp [Clo]
theorem Clos.mono {D D':Nat→Prop}(h: ∀ i,D i→D' i): ∀ {l:List AVal},Clos D l→Clos D' l
  | [],_=>by simp [Clos]
  | a::l,k=>by simp only [Clos]at k ⊢; exact⟨Clo.mono h k.1,Clos.mono h k.2⟩
end
theorem FDoes.bare {C:(Nat→Prop)→World→Prop}[CondOk C]{f:FuncId}{args:List AVal}{v:AVal}{h':AHeap}(k:FDoes P C f args ⟨0,.nil⟩ v h')(ha: ∀ a∈args,Bare a)(hv:Bare v)(H:AHeap):FDoes P C f args H v H:=by
  have k1:FDoes P C f args ⟨0,.nil⟩ v ⟨0,.nil⟩:=by
    refine k.ren (r:=fun i=>i) (v2:=v) ⟨?_,?_,?_⟩ (hv.1 _).symm (Clo.mono (fun i hi=>hi.elim) hv.2) ?_ ?_ ?_ (Nat.le_refl _)
    · intro i b hb;cases hb
    · intro i j hi;cases hi
    · intro i b hb;cases hb
    · intro i hi;simp at hi
    · intro i hi;simp at hi
    · intro i hi;cases hi
  have k2:=k1.frame (r:=fun i=>H.next+i) (H:=H) (H':=H) ⟨?_,?_,?_⟩ (Clos_iff.2 fun a hm=>Clo.mono (fun i hi=>hi.elim) (ha a hm).2) (fun i _=>by simp) ?_ (by simp) (fun _ _ _=>rfl)
  · rw [hv.1]at k2
    have:args.map (AVal.ren fun i=>H.next+i)=args:=by
      conv=>rhs;rw [← List.map_id args]
      exact List.map_congr_left fun a hm=>(ha a hm).1 _
    rw [this]at k2;exact k2
  · intro i b hb;cases hb
  · intro i j hi;cases hi
  · intro i b hb;cases hb
  · intro i b hb;cases hb
mutual
def AVal.bareB:AVal→Bool
  | .ptr (some _)=>false
  | .slice (some _) _ _=>false
  | .func _ f c=>AVal.baresB f && AVal.baresB c
  | .iface _ v=>AVal.bareB v
  | .agg cs=>AVal.baresB cs
  | .tuple vs=>AVal.baresB vs
  | _=>true
def AVal.baresB:List AVal→Bool
  | []=>true
  | a::l=>AVal.bareB a && AVal.baresB l
end
mutual
theorem bareB_spec: ∀ {v:AVal},v.bareB=true→(∀ r,v.ren r=v)∧Clo (fun _=>False) v
  | .ptr (some a),k=>by simp [AVal.bareB]at k
  | .slice (some a) _ _,k=>by simp [AVal.bareB]at k
  | .func fn f c,k=>by
    simp only [AVal.bareB,Bool.and_eq_true]at k
    have h1:=baresB_spec k.1
    have h2:=baresB_spec k.2
    exact⟨fun r=>by simp only [AVal.ren,h1.1 r,h2.1 r],by simp only [Clo];exact⟨h1.2,h2.2⟩⟩
  | .iface t v,k=>by
    simp only [AVal.bareB]at k
    have h1:=bareB_spec k
    exact⟨fun r=>by simp only [AVal.ren,h1.1 r],by simp only [Clo];exact h1.2⟩
  | .agg cs,k=>by
    simp only [AVal.bareB]at k
    have h1:=baresB_spec k
    exact⟨fun r=>by simp only [AVal.ren,h1.1 r],by simp only [Clo];exact h1.2⟩
  | .tuple vs,k=>by
    simp only [AVal.bareB]at k
    have h1:=baresB_spec k
    exact⟨fun r=>by simp only [AVal.ren,h1.1 r],by simp only [Clo];exact h1.2⟩
  | .undef,_=>⟨fun _=>rfl,by simp [Clo]⟩
  | .bool _,_=>⟨fun _=>rfl,by simp [Clo]⟩
  | .int _ _,_=>⟨fun _=>rfl,by simp [Clo]⟩
  | .str _,_=>⟨fun _=>rfl,by simp [Clo]⟩
  | .ptr none,_=>⟨fun _=>rfl,by simp [Clo]⟩
  | .slice none _ _,_=>⟨fun _=>rfl,by simp [Clo]⟩
  | .nilFunc,_=>⟨fun _=>rfl,by simp [Clo]⟩
  | .nilIface,_=>⟨fun _=>rfl,by simp [Clo]⟩
theorem baresB_spec: ∀ {l:List AVal},AVal.baresB l=true→(∀ r,AVal.rens r l=l)∧Clos (fun _=>False) l
  | [],_=>⟨fun _=>rfl,by simp [Clos]⟩
  | a::l,k=>by
    simp only [AVal.baresB,Bool.and_eq_true]at k
    have h1:=bareB_spec k.1
    have h2:=baresB_spec k.2
    exact⟨fun r=>by simp only [AVal.rens,h1.1 r,h2.1 r],by simp only [Clos];exact⟨h1.2,h2.2⟩⟩
end
theorem Bare.of {v:AVal}(h:v.bareB=true):Bare v:=bareB_spec h
end
end
end Go.Lift
namespace Go.Lift
noncomputable section
open Go.RowKit
def AHeap.rows(n:Nat)(l:List (Nat×ABlk)):AHeap:=l.foldl (fun h p=>h.set p.1 p.2) ⟨n,.nil⟩
theorem AHeap.foldl_get(l:List (Nat×ABlk)): ∀ (h:AHeap) (i:Nat) (b:ABlk),(l.foldl (fun h p=>h.set p.1 p.2) h).get i=some b→h.get i=some b∨(i,b)∈l:=by
  induction l with
  | nil=>intro h i b k;exact .inl k
  | cons p r ih =>
    intro h i b k
    rcases ih _ i b k with k | k
    · rw [AHeap.get_set]at k
      split at k
      · rename_i e;simp only [Option.some.injEq]at k;exact .inr (by rw [← e,← k];exact List.mem_cons_self ..)
      · exact .inl k
    · exact .inr (by simp [k])
theorem AHeap.foldl_in (l:List (Nat×ABlk)): ∀ (h:AHeap) (i:Nat),(In h i∨i∈l.map (·.1))→In (l.foldl (fun h p=>h.set p.1 p.2) h) i:=by
  induction l with
  | nil=>intro h i k;rcases k with k | k;exact k;simp at k
  | cons p r ih =>
    intro h i k
    refine ih _ i ?_
    by_cases e:p.1=i
    · left;unfold In;rw [AHeap.get_set,if_pos e];rfl
    · rcases k with k | k
      · left;unfold In;rw [AHeap.get_set,if_neg e];exact k
      · simp only [List.map_cons,List.mem_cons]at k
        rcases k with k | k
        · exact absurd k.symm e
        · exact .inr k
theorem AHeap.foldl_next(l:List (Nat×ABlk)): ∀ (h:AHeap),(l.foldl (fun h p=>h.set p.1 p.2) h).next=h.next:=by
  induction l with
  | nil=>intro h;rfl
  | cons p r ih=>intro h;rw [List.foldl_cons,ih];rfl
@[simp] theorem AHeap.rows_next (n : Nat) (l : List (Nat × ABlk)) : (AHeap.rows n l).next = n := AHeap.foldl_next _ _
theorem AHeap.rows_get {n:Nat}{l:List (Nat×ABlk)}{i:Nat}{b:ABlk}(h:(AHeap.rows n l).get i=some b):(i,b)∈l:=by
  rcases AHeap.foldl_get l _ i b h with k | k
  · cases k
  · exact k
theorem AHeap.rows_in {n:Nat}{l:List (Nat×ABlk)}{i:Nat}(h:i∈l.map (·.1)):In (AHeap.rows n l) i:=AHeap.foldl_in l _ i (.inr h)
theorem AHeap.rows_in_of {n:Nat}{l:List (Nat×ABlk)}{i:Nat}(h:In (AHeap.rows n l) i):i∈l.map (·.1):=by
  obtain⟨b,hb⟩:=Option.isSome_iff_exists.1 h
  exact List.mem_map.2 ⟨_,AHeap.rows_get hb,rfl⟩
mutual
theorem AVal.ren_id: ∀ (v:AVal),v.ren (fun i=>i)=v
  | .ptr (some a)=>rfl
  | .slice (some a) _ _=>rfl
  | .func fn f c=>by simp only [AVal.ren,AVal.rens_id]
  | .iface t v=>by simp only [AVal.ren,AVal.ren_id v]
  | .agg cs=>by simp only [AVal.ren,AVal.rens_id]
  | .tuple vs=>by simp only [AVal.ren,AVal.rens_id]
  | .undef=>rfl
  | .bool _=>rfl
  | .int _ _=>rfl
  | .str _=>rfl
  | .ptr none=>rfl
  | .slice none _ _=>rfl
  | .nilFunc=>rfl
  | .nilIface=>rfl
theorem AVal.rens_id: ∀ (l:List AVal),AVal.rens (fun i=>i) l=l
  | []=>rfl
  | a::l=>by simp only [AVal.rens,AVal.ren_id a,AVal.rens_id l]
end
theorem ABlk.ren_id(b:ABlk):b.ren (fun i=>i)=b:=by
  unfold ABlk.ren
  have:b.elems.map (AVal.ren fun i=>i)=b.elems:=by
    conv=>rhs;rw [← List.map_id b.elems]
    exact List.map_congr_left fun e he=>AVal.ren_id e
  rw [this]
def BareB(b:ABlk):Prop:= ∀ e∈b.elems,Bare e
theorem BareB.ren {b:ABlk}(h:BareB b)(r:Nat→Nat):b.ren r=b:=by
  unfold ABlk.ren
  have:b.elems.map (AVal.ren r)=b.elems:=by
    conv=>rhs;rw [← List.map_id b.elems]
    exact List.map_congr_left fun e he=>(h e he).1 r
  rw [this]
theorem Bare.clo {v:AVal}(h:Bare v)(D:Nat→Prop):Clo D v:=Clo.mono (fun _ k=>k.elim) h.2
def Ids(l:List Nat):Nat→Prop:=fun i=>i∈l
theorem Ent.drop {base n:Nat} {F:Facts} {h:AHeap} {K:Nat} {l:List (Nat×ABlk)} (hl:l.map (fun p=>h.get p.1)=l.map (fun p=>some p.2)) (hK:l.all (fun p=>Nat.blt p.1 K)=true)
    (hb:(List.range base).all (fun i=>(l.map (·.1)).contains i)=true) (hn:F.all (fun p=>Nat.blt p.1 n)=true) (hF:All (F.map fun p=>Clo (Ids (l.map (·.1))) p.2))
    (hc:All (l.map fun p=> ∀ e∈p.2.elems,Clo (Ids (l.map (·.1))) e)):Ent base n F h F (AHeap.rows K l):=by
  have hget: ∀ i b,(AHeap.rows K l).get i=some b→i<K∧h.get i=some b:=by
    intro i b k
    have hm:=AHeap.rows_get k
    refine⟨Nat.blt_eq.mp (List.all_eq_true.1 hK _ hm),?_⟩
    obtain⟨j,hj,e⟩:=List.mem_iff_getElem.1 hm
    have h1:=congrArg (fun(x:List (Option ABlk))=>x[j]?) hl
    simp only [List.getElem?_map,List.getElem?_eq_getElem hj,Option.map_some,e,Option.some.injEq]at h1
    exact h1
  have hmono: ∀ {v:AVal},Clo (Ids (l.map (·.1))) v→Clo (In (AHeap.rows K l)) v:=Clo.mono fun i hi=>AHeap.rows_in hi
  refine Ent.ren (r:=fun i=>i) ⟨fun i b k=>⟨by rw [AHeap.rows_next];exact(hget i b k).1,by rw [ABlk.ren_id];exact(hget i b k).2⟩,fun i j _ _ e=>e,?_⟩ ?_ ?_ ?_ ?_
  · intro i b k e he
    have hm:=AHeap.rows_get k
    exact hmono (hc _ (List.mem_map.2 ⟨_,hm,rfl⟩) e he)
  · intro t v hv
    have hm:(t,v)∈F:=by
      clear hn hF
      induction F with
      | nil=>cases hv
      | cons p r ih =>
        obtain⟨k,u⟩:=p
        rw [lookF_cons]at hv
        split at hv
        · rename_i e;simp only [Option.some.injEq]at hv;subst e;subst hv;simp
        · exact List.mem_cons_of_mem _ (ih hv)
    exact⟨Nat.blt_eq.mp (List.all_eq_true.1 hn _ hm),by rw [AVal.ren_id];exact hv,hmono (hF _ (List.mem_map.2 ⟨_,hm,rfl⟩))⟩
  · intro i hi _
    exact AHeap.rows_in (by simpa using List.all_eq_true.1 hb i (List.mem_range.2 hi))
  · intro i _ _;rfl
  · intro i _ k;exact k
theorem FDoes.clean {P:Program}{C:(Nat→Prop)→World→Prop}[CondOk C]{f:FuncId}{args:List AVal}{h h':AHeap}{v:AVal}(k:FDoes P C f args h v h')(r:Nat→Nat)(v2:AVal)(K:Nat)(l:List (Nat×ABlk))
    (hl:l.map (fun p=>h'.get (r p.1))=l.map (fun p=>some (p.2.ren r))) (hv:v=v2.ren r) (hK:l.all (fun p=>Nat.blt p.1 K)=true) (hr:((l.map (·.1)).map r).Nodup)
    (hb:(List.range h.next).all (fun i=>(l.map (·.1)).contains i && Nat.beq (r i) i)=true) (hnew:l.all (fun p=>Nat.blt p.1 h.next || Nat.ble h.next (r p.1))=true) (hn:Nat.ble h.next K=true)
    (hvc:Clo (Ids (l.map (·.1))) v2) (hc:All (l.map fun p=> ∀ e∈p.2.elems,Clo (Ids (l.map (·.1))) e)):FDoes P C f args h v2 (AHeap.rows K l):=by
  have hget: ∀ i b,(AHeap.rows K l).get i=some b→i<K∧h'.get (r i)=some (b.ren r):=by
    intro i b k
    have hm:=AHeap.rows_get k
    refine⟨Nat.blt_eq.mp (List.all_eq_true.1 hK _ hm),?_⟩
    obtain⟨j,hj,e⟩:=List.mem_iff_getElem.1 hm
    have h1:=congrArg (fun(x:List (Option ABlk))=>x[j]?) hl
    simp only [List.getElem?_map,List.getElem?_eq_getElem hj,Option.map_some,e,Option.some.injEq]at h1
    exact h1
  have hmono: ∀ {v:AVal},Clo (Ids (l.map (·.1))) v→Clo (In (AHeap.rows K l)) v:=Clo.mono fun i hi=>AHeap.rows_in hi
  refine k.ren (r:=r) ⟨fun i b k=>⟨by rw [AHeap.rows_next];exact(hget i b k).1,(hget i b k).2⟩,?_,?_⟩ hv (hmono hvc) ?_ ?_ ?_ (by rw [AHeap.rows_next];exact Nat.le_of_ble_eq_true hn)
  · intro i j hi hj e
    have hi:=AHeap.rows_in_of hi
    have hj:=AHeap.rows_in_of hj
    obtain⟨a,ha,rfl⟩:=List.mem_iff_getElem.1 hi
    obtain⟨b,hb',rfl⟩:=List.mem_iff_getElem.1 hj
    have h1:((l.map (·.1)).map r)[a]'(by simpa using ha)=((l.map (·.1)).map r)[b]'(by simpa using hb'):=by simpa using e
    have:=(List.getElem_inj hr).1 h1
    subst this;rfl
  · intro i b k e he
    have hm:=AHeap.rows_get k
    exact hmono (hc _ (List.mem_map.2 ⟨_,hm,rfl⟩) e he)
  · intro i hi _
    have:=List.all_eq_true.1 hb i (List.mem_range.2 hi)
    simp only [Bool.and_eq_true]at this
    exact AHeap.rows_in (by simpa using this.1)
  · intro i hi _
    have:=List.all_eq_true.1 hb i (List.mem_range.2 hi)
    simp only [Bool.and_eq_true]at this
    exact Nat.eq_of_beq_eq_true this.2
  · intro i hi hlt
    have hi:=AHeap.rows_in_of hi
    obtain⟨p,hm,rfl⟩:=List.mem_map.1 hi
    have:=List.all_eq_true.1 hnew p hm
    simp only [Bool.or_eq_true]at this
    rcases this with h1 | h1
    · exact Nat.blt_eq.mp h1
    · have:=Nat.le_of_ble_eq_true h1;omega
def AHeap.ofFrom:Nat→List ABlk→AHeap→AHeap
  | _,[],h=>h
  | i,b::r,h=>AHeap.ofFrom (i+1) r (h.set i b)
def AHeap.of(l:List ABlk):AHeap:=AHeap.ofFrom 0 l ⟨l.length,.nil⟩
theorem AHeap.ofFrom_get: ∀ (l:List ABlk) (i:Nat) (h:AHeap) (j:Nat),(AHeap.ofFrom i l h).get j=if i≤j∧j<i+l.length then l[j-i]? else h.get j
  | [],i,h,j=>by simp only [AHeap.ofFrom,List.length_nil];rw [if_neg (by omega)]
  | b ::r,i,h,j=>by
    simp only [AHeap.ofFrom,AHeap.ofFrom_get r,List.length_cons,AHeap.get_set]
    by_cases e:i=j
    · subst e
      rw [if_neg (by omega),if_pos rfl,if_pos (by omega)];simp
    · by_cases c:i+1≤j∧j<i+1+r.length
      · rw [if_pos c,if_pos (by omega),show j-i=(j- (i+1))+1 by omega];simp
      · rw [if_neg c,if_neg e,if_neg (by omega)]
theorem AHeap.ofFrom_next: ∀ (l:List ABlk) (i:Nat) (h:AHeap),(AHeap.ofFrom i l h).next=h.next
  | [],i,h=>rfl
  | b::r,i,h=>by simp only [AHeap.ofFrom,AHeap.ofFrom_next r];rfl
@[simp] theorem AHeap.of_next (l : List ABlk) : (AHeap.of l).next = l.length := AHeap.ofFrom_next _ _ _
theorem AHeap.of_get(l:List ABlk)(j:Nat):(AHeap.of l).get j=l[j]? :=by
  unfold AHeap.of
  rw [AHeap.ofFrom_get]
  split
  · simp
  · rw [List.getElem?_eq_none (by omega)];rfl
theorem AHeap.of_in {l:List ABlk}{j:Nat} :In (AHeap.of l) j↔j<l.length:=by
  unfold In;rw [AHeap.of_get];simp
def toBig(ids:List Nat)(n:Nat)(i:Nat):Nat :=
  match ids[i]? with
  | some j=>j
  | none=>n+(i-ids.length)
def AHeap.updFrom:List Nat→List ABlk→AHeap→AHeap
  | j::ids,b::r,h=>AHeap.updFrom ids r (h.set j b)
  | [],r,h=>AHeap.ofFrom h.next r {h with next:=h.next+r.length}
  | _::_,[],h=>h
def AHeap.upd(h:AHeap)(ids:List Nat)(l:List ABlk):AHeap:=AHeap.updFrom ids l h
theorem AHeap.updFrom_next: ∀ (ids:List Nat) (l:List ABlk) (h:AHeap),ids.length≤l.length→(AHeap.updFrom ids l h).next=h.next+(l.length-ids.length)
  | [],l,h,_=>by simp [AHeap.updFrom,AHeap.ofFrom_next]
  | j::ids,[],h,k=>by simp at k
  | j::ids,b::r,h,k=>by
    simp only [AHeap.updFrom]
    rw [AHeap.updFrom_next ids r _ (by simpa using k)]
    simp
theorem AHeap.updFrom_out: ∀ (ids:List Nat) (l:List ABlk) (h:AHeap) (j:Nat),ids.length≤l.length→j<h.next→j ∉ ids→(AHeap.updFrom ids l h).get j=h.get j
  | [],l,h,j,_,hj,_=>by simp only [AHeap.updFrom];rw [AHeap.ofFrom_get,if_neg (by omega)];rfl
  | i::ids,[],h,j,k,_,_=>by simp at k
  | i::ids,b::r,h,j,k,hj,hm=>by
    simp only [List.mem_cons,not_or]at hm
    simp only [AHeap.updFrom]
    rw [AHeap.updFrom_out ids r (h.set i b) j (by simpa using k) hj hm.2,AHeap.get_set_ne _ _ (Ne.symm hm.1)]
theorem AHeap.updFrom_at: ∀ (ids:List Nat) (l:List ABlk) (h:AHeap) (i:Nat),ids.length≤l.length→ids.Nodup→(∀ j∈ids,j<h.next)→i<l.length→(AHeap.updFrom ids l h).get (toBig ids h.next i)=l[i]?
  | [],l,h,i,_,_,_,hi=>by
    simp only [AHeap.updFrom,toBig,List.getElem?_nil,List.length_nil,Nat.sub_zero]
    rw [AHeap.ofFrom_get,if_pos (by omega)];congr 1;omega
  | j::ids,[],h,i,k,_,_,_=>by simp at k
  | j ::ids,b::r,h,i,k,hnd,hlt,hi=>by
    simp only [List.nodup_cons]at hnd
    simp only [AHeap.updFrom]
    cases i with
    | zero =>
      simp only [toBig,List.getElem?_cons_zero]
      rw [AHeap.updFrom_out ids r (h.set j b) j (by simpa using k) (hlt j (by simp)) hnd.1,AHeap.get_set_self]
    | succ i =>
      have e:toBig (j::ids) h.next (i+1)=toBig ids (h.set j b).next i:=by
        simp only [toBig,List.getElem?_cons_succ,List.length_cons,AHeap.next_set]
        cases ids[i]? with
        | some x=>rfl
        | none=>simp only;omega
      rw [e,AHeap.updFrom_at ids r (h.set j b) i (by simpa using k) hnd.2 (fun x hx=>hlt x (by simp [hx])) (by simpa using hi)]
      simp
theorem FDoes.up {P:Program}{C:(Nat→Prop)→World→Prop}[CondOk C]{f:FuncId}{args:List AVal}{v:AVal}{l l':List ABlk}(k:FDoes P C f args (AHeap.of l) v (AHeap.of l'))(hb: ∀ b∈l,BareB b)(hb': ∀ b∈l',BareB b)(hll:l.length≤l'.length)(ha:Clos (fun i=>i<l.length) args)
    {H H':AHeap} (ids:List Nat) (hn:ids.Nodup) (hlt: ∀ j∈ids,j<H.next) (hl:ids.map H.get=l.map some) (hnext:H'.next=H.next+(l'.length-l.length)) (hat: ∀ i,i<l'.length→H'.get (toBig ids H.next i)=l'[i]?)
    (hout: ∀ j,j<H.next→j ∉ ids→H'.get j=H.get j):FDoes P C f (args.map (AVal.ren (toBig ids H.next))) H (v.ren (toBig ids H.next)) H':=by
  have hlen:ids.length=l.length:=by have:=congrArg List.length hl;simpa using this
  have hbig: ∀ i (hi:i<ids.length),toBig ids H.next i=ids[i]:=fun i hi=>by simp [toBig,List.getElem?_eq_getElem hi]
  refine k.frame (r:=toBig ids H.next) ⟨?_,?_,?_⟩ ?_ ?_ ?_ ?_ ?_
  · intro i b hg
    rw [AHeap.of_get]at hg
    have hi:=(List.getElem?_eq_some_iff.1 hg).1
    refine⟨by rw [AHeap.of_next];exact hi,?_⟩
    rw [(hb b (List.mem_of_getElem? hg)).ren,hbig i (by omega)]
    have h1:=congrArg (fun(x:List (Option ABlk))=>x[i]?) hl
    simp only [List.getElem?_map,List.getElem?_eq_getElem (show i<ids.length by omega),Option.map_some,hg,Option.some.injEq]at h1
    exact h1
  · intro i j hi hj e
    rw [AHeap.of_in]at hi hj
    rw [hbig i (by omega),hbig j (by omega)]at e
    exact(List.getElem_inj hn).1 e
  · intro i b hg e he
    rw [AHeap.of_get]at hg
    exact(hb b (List.mem_of_getElem? hg) e he).clo _
  · exact Clos.mono (fun i hi=>AHeap.of_in.2 hi) ha
  · intro i hi
    rw [AHeap.of_next]at hi
    simp only [toBig,List.getElem?_eq_none (show ids.length≤i by omega),AHeap.of_next,hlen]
  · intro i b hg _
    rw [AHeap.of_get]at hg
    rw [(hb' b (List.mem_of_getElem? hg)).ren,hat i (List.getElem?_eq_some_iff.1 hg).1,hg]
  · rw [hnext];simp
  · intro j hj hne
    refine hout j hj fun hm=> ?_
    obtain⟨i,hi,e⟩:=List.mem_iff_getElem.1 hm
    exact hne i (AHeap.of_in.2 (by omega)) (by rw [hbig i hi];exact e)
theorem FDoes.upN {P:Program}{C:(Nat→Prop)→World→Prop}[CondOk C]{f:FuncId}{args:List AVal}{v:AVal}{l l2:List ABlk}(k:FDoes P C f args (AHeap.of l) v (AHeap.of (l++l2)))(hb: ∀ b∈l,BareB b)(hb': ∀ b∈l2,BareB b)(ha:Clos (fun i=>i<l.length) args)
    {H:AHeap} (ids:List Nat) (hn:ids.Nodup) (hlt: ∀ j∈ids,j<H.next) (hl:ids.map H.get=l.map some):FDoes P C f (args.map (AVal.ren (toBig ids H.next))) H (v.ren (toBig ids H.next)) (H.upd [] l2):=by
  have hlen:ids.length=l.length:=by have:=congrArg List.length hl;simpa using this
  refine k.up hb (fun b hm=>(List.mem_append.1 hm).elim (hb b) (hb' b)) (by simp) ha ids hn hlt hl ?_ ?_ ?_
  · show(AHeap.updFrom [] l2 H).next=_
    rw [AHeap.updFrom_next [] l2 H (by simp)];simp
  · intro i hi
    show(AHeap.updFrom [] l2 H).get _=_
    by_cases c:i<ids.length
    · have h1:=congrArg (fun(x:List (Option ABlk))=>x[i]?) hl
      simp only [List.getElem?_map,List.getElem?_eq_getElem c,List.getElem?_eq_getElem (show i<l.length by omega),Option.map_some,Option.some.injEq]at h1
      simp only [toBig,List.getElem?_eq_getElem c]
      rw [AHeap.updFrom_out [] l2 H _ (by simp) (hlt _ (List.getElem_mem c)) (by simp),h1,List.getElem?_append_left (by omega),List.getElem?_eq_getElem (show i<l.length by omega)]
    · have e:toBig ids H.next i=toBig [] H.next (i-ids.length):=by simp [toBig,List.getElem?_eq_none (show ids.length≤i by omega)]
      rw [List.length_append]at hi
      rw [e,AHeap.updFrom_at [] l2 H (i-ids.length) (by simp) (by simp) (by simp) (by omega),List.getElem?_append_right (by omega),hlen]
  · intro j hj hm
    exact AHeap.updFrom_out [] l2 H j (by simp) hj (by simp)
def idxd:Nat→List ABlk→List (Nat×ABlk)
  | _,[]=> []
  | i,b::r=>(i,b)::idxd (i+1) r
theorem AHeap.ofFrom_eq: ∀ (l:List ABlk) (i:Nat) (h:AHeap),AHeap.ofFrom i l h=(idxd i l).foldl (fun h p=>h.set p.1 p.2) h
  | [],i,h=>rfl
  | b::r,i,h=>by simp only [AHeap.ofFrom,idxd,List.foldl_cons];exact AHeap.ofFrom_eq r _ _
theorem AHeap.of_rows(l:List ABlk):AHeap.of l=AHeap.rows l.length (idxd 0 l):=AHeap.ofFrom_eq _ _ _
theorem idxd_fst: ∀ (l:List ABlk) (i:Nat),(idxd i l).map (·.1)=List.range' i l.length
  | [],i=>rfl
  | b::r,i=>by simp only [idxd,List.map_cons,idxd_fst r,List.length_cons,List.range'_succ]
theorem idxd_snd: ∀ (l:List ABlk) (i:Nat),(idxd i l).map (·.2)=l
  | [],i=>rfl
  | b::r,i=>by simp only [idxd,List.map_cons,idxd_snd r]
theorem List.Nodup.map_on' {f:Nat→Nat}{n:Nat}(h: ∀ a∈List.range n,∀ b∈List.range n,f a=f b→a=b):((List.range n).map f).Nodup:=by
  rw [List.nodup_iff_pairwise_ne,List.pairwise_map]
  refine List.Pairwise.imp_of_mem ?_ (List.nodup_range (n:=n))
  intro a b ha hb hne e
  exact hne (h a ha b hb e)
def finR(k:Nat)(js:List Nat)(i:Nat):Nat:=if i<k then i else(js[i-k]?).getD 0
theorem FDoes.fin {P:Program}{C:(Nat→Prop)→World→Prop}[CondOk C]{f:FuncId}{args:List AVal}{h':AHeap}{v:AVal}{l:List ABlk}(k:FDoes P C f args (AHeap.of l) v h')(js:List Nat)(l':List ABlk)(v2:AVal)(hb': ∀ b∈l',BareB b)
    (hlen:l'.length=l.length+js.length) (hget:(List.range l'.length).map (fun i=>h'.get (finR l.length js i))=l'.map some) (hv:v=v2.ren (finR l.length js)) (hvc:Clo (fun i=>i<l'.length) v2)
    (hjs:js.all (fun j=>Nat.ble l.length j)=true) (hnd:js.Nodup):FDoes P C f args (AHeap.of l) v2 (AHeap.of l'):=by
  have hfst:(idxd 0 l').map (·.1)=List.range l'.length:=by rw [idxd_fst,List.range_eq_range']
  have hge: ∀ j∈js,l.length≤j:=fun j hj=>Nat.le_of_ble_eq_true (List.all_eq_true.1 hjs j hj)
  have hhi: ∀ i,l.length≤i→i<l'.length→ ∃ (h:i-l.length<js.length),finR l.length js i=js[i-l.length]:=by
    intro i h1 h2
    have h3:i-l.length<js.length:=by omega
    exact⟨h3,by simp only [finR,if_neg (show ¬ i<l.length by omega),List.getElem?_eq_getElem h3,Option.getD_some]⟩
  rw [AHeap.of_rows l']
  refine k.clean (finR l.length js) v2 l'.length (idxd 0 l') ?_ hv ?_ ?_ ?_ ?_ (Nat.ble_eq.mpr ?_) ?_ ?_
  · have h1:(idxd 0 l').map (fun p=>h'.get (finR l.length js p.1))=((idxd 0 l').map (·.1)).map (fun i=>h'.get (finR l.length js i)):=by rw [List.map_map];rfl
    have h2:(idxd 0 l').map (fun p=>some (p.2.ren (finR l.length js)))=((idxd 0 l').map (·.2)).map (fun b=>some (b.ren (finR l.length js))):=by rw [List.map_map];rfl
    rw [h1,h2,hfst,idxd_snd,hget]
    exact List.map_congr_left fun b hm=>by rw [(hb' b hm).ren]
  · rw [List.all_eq_true]
    intro p hp
    have:p.1∈(idxd 0 l').map (·.1):=List.mem_map.2 ⟨p,hp,rfl⟩
    rw [hfst]at this
    exact Nat.blt_eq.mpr (List.mem_range.1 this)
  · rw [hfst]
    refine List.Nodup.map_on' ?_
    intro a ha b hb e
    have ha:=List.mem_range.1 ha
    have hb:=List.mem_range.1 hb
    by_cases c1:a<l.length<;>by_cases c2:b<l.length
    · simpa [finR,c1,c2]using e
    · obtain⟨h3,h4⟩:=hhi b (by omega) hb
      rw [h4,show finR l.length js a=a by simp [finR,c1]]at e
      have:=hge _ (List.getElem_mem h3);omega
    · obtain⟨h3,h4⟩:=hhi a (by omega) ha
      rw [h4,show finR l.length js b=b by simp [finR,c2]]at e
      have:=hge _ (List.getElem_mem h3);omega
    · obtain⟨h3,h4⟩:=hhi a (by omega) ha
      obtain⟨h5,h6⟩:=hhi b (by omega) hb
      rw [h4,h6]at e
      have:=(List.getElem_inj hnd).1 e;omega
  · rw [List.all_eq_true,AHeap.of_next]
    intro i hi
    have hi:=List.mem_range.1 hi
    rw [hfst,Bool.and_eq_true]
    exact⟨by simp;omega,beq_true (by simp [finR,hi])⟩
  · rw [List.all_eq_true,AHeap.of_next]
    intro p hp
    have:p.1∈(idxd 0 l').map (·.1):=List.mem_map.2 ⟨p,hp,rfl⟩
    rw [hfst]at this
    have hlt:=List.mem_range.1 this
    rw [Bool.or_eq_true]
    by_cases c:p.1<l.length
    · exact .inl (Nat.blt_eq.mpr c)
    · obtain⟨h3,h4⟩:=hhi p.1 (by omega) hlt
      exact .inr (Nat.ble_eq.mpr (by rw [h4];exact hge _ (List.getElem_mem h3)))
  · rw [AHeap.of_next];omega
  · rw [hfst];exact Clo.mono (fun i hi=>List.mem_range.2 hi) hvc
  · intro p hp
    obtain⟨q,hq,rfl⟩:=List.mem_map.1 hp
    intro e he
    exact(hb' q.2 (by have:q.2∈(idxd 0 l').map (·.2):=List.mem_map.2 ⟨q,hq,rfl⟩;rwa [idxd_snd]at this) e he).clo _
theorem FDoes.new1 {P:Program}{C:(Nat→Prop)→World→Prop}[CondOk C]{f:FuncId}{args:List AVal}{h':AHeap}{j es n c ver:Nat}{l:List ABlk}{bn:ABlk}(k:FDoes P C f args (AHeap.of l) (.slice (some ⟨j,ver,0,0,es⟩) n c) h')(hb: ∀ b∈l,BareB b)(hbn:BareB bn)
    (hget:(List.range l.length).map h'.get=l.map some) (hnew:h'.get j=some bn) (hj:l.length≤j) (ha:Clos (fun i=>i<l.length) args) {H:AHeap} (ids:List Nat) (hn:ids.Nodup) (hlt: ∀ j∈ids,j<H.next) (hl:ids.map H.get=l.map some) :
    FDoes P C f (args.map (AVal.ren (toBig ids H.next))) H (.slice (some ⟨H.next,ver,0,0,es⟩) n c) (H.upd [] [bn]):=by
  have hlen:ids.length=l.length:=by have:=congrArg List.length hl;simpa using this
  have k1:=k.fin [j] (l++ [bn]) (.slice (some ⟨l.length,ver,0,0,es⟩) n c) (fun b hm=>(List.mem_append.1 hm).elim (hb b) (fun h=>by rw [List.mem_singleton.1 h];exact hbn)) (by simp) (by
    rw [List.length_append,List.length_singleton,List.range_succ,List.map_append,List.map_append]
    congr 1
    · rw [← hget]
      exact List.map_congr_left fun i hi=>by rw [show finR l.length [j] i=i by simp [finR,List.mem_range.1 hi]]
    · simp [finR,hnew]) (by simp [AVal.ren,AAddr.ren,finR]) (by simp [Clo]) (by simp [hj]) (by simp)
  have k2:=k1.upN hb (fun b hm=>by rw [List.mem_singleton.1 hm];exact hbn) ha ids hn hlt hl
  have e:(AVal.slice (some ⟨l.length,ver,0,0,es⟩) n c).ren (toBig ids H.next)= .slice (some ⟨H.next,ver,0,0,es⟩) n c:=by
    simp only [AVal.ren,AAddr.ren,toBig,List.getElem?_eq_none (show ids.length≤l.length by omega),hlen,Nat.sub_self,Nat.add_zero]
  rwa [e]at k2
theorem sameOld_refl(n:Nat)(h:AHeap):sameOld n h h=true:=Trie.sameBelow_of ABlk.same_refl n h.blks h.blks 0 1 fun _ _=>rfl
def SlArg(o:Option AAddr)(n c id ver off es:Nat):Prop:=o=some ⟨id,ver,off,0,es⟩∨(o=none∧n=0∧c=0)
theorem SlArg.index {o:Option AAddr}{n c id ver off es:Nat}(h:SlArg o n c id ver off es){D:Tys}{t e:TypeId}{d xd:TyD}(hd:D t=some d)(hk:d.kind= .slice e)(hx:D e=some xd)(hes:es=xd.size){k:IntKind}{i:Int}(h0:0≤i)(hi:i<n) :
    aindexAddr D t (.slice o n c) (.int k i)=some (.ptr (some ⟨id,ver,off+i.toNat,0,es⟩)):=by
  rcases h with rfl | ⟨_,rfl,_⟩
  · simp only [aindexAddr,hd,hk,hx]
    rw [if_pos ⟨h0,hi,hes,trivial⟩]
  · omega
structure SlTy(D:Tys)(t e:TypeId)(sz by':Nat):Prop where
  ty: ∃ d xd,D t=some d∧d.kind= .slice e∧D e=some xd∧xd.size=sz∧xd.bytes=by'∧0<sz∧xd.zeroFits=true
section
variable {E:AEnv}{t e:TypeId}{sz by' nid:Nat}{h:AHeap}{x:AVal}{new:List AVal}
theorem app_start(hs:SlTy E.D t e sz by')(s:AVal):abuiltin E .append #[t,t] [s,x] nid h=aappend E.D t s x nid h:=by
  obtain⟨d,xd,h1,h2,h3,rfl,rfl,h4,h5⟩:=hs.ty
  simp only [abuiltin,List.getElem?_toArray,List.getElem?_cons_zero,List.getElem?_cons_succ,h1,h2]
theorem app_new(hs:SlTy E.D t e sz by')(hx:elemsOf sz x h=some new)(hne:new≠ [])(hb:(new.length+new.length / 4+512)*by'≤2^48)(hl:new.length<2^62) :
    abuiltin E .append #[t,t] [.slice none 0 0,x] nid h=some (newSlice nid sz new.length new.length,h.set nid (.made new sz false (some (e,0)))):=by
  rw [app_start hs]
  obtain⟨d,xd,h1,h2,h3,rfl,rfl,h4,h5⟩:=hs.ty
  have hn: ¬ 0+new.length=0:=by rw [Nat.zero_add];intro c;exact hne (List.eq_nil_of_length_eq_zero c)
  simp only [aappend,h1,h2,h3,hx]
  rw [if_pos ⟨h4,by simpa using hb,by simpa using hl,h5⟩]
  rw [if_neg hn,if_pos ⟨trivial,trivial⟩,Nat.zero_add]
theorem app_grow(hs:SlTy E.D t e sz by')(hx:elemsOf sz x h=some new)(hne:new≠ []){a:AAddr}{len cap:Nat}{b:ABlk}(hb:((len+new.length)+(len+new.length) / 4+512)*by'≤2^48)(hl:len+new.length<2^62)
    (hg:h.get a.id=some b) (hes:a.es=sz∧a.fld=0) (hcap: ¬ len+new.length≤cap) (h6:b.exact=false) (h7:b.ro=false) (h8:a.ver=b.ver) (h9:a.idx+len=b.elems.length) (h10:b.ty=none∨b.ty=some (e,0)) :
    abuiltin E .append #[t,t] [.slice (some a) len cap,x] nid h=some (.slice (some {a with ver:=a.ver+1}) (len+new.length) (len+new.length),h.set a.id (b.grow new)):=by
  rw [app_start hs]
  obtain⟨d,xd,h1,h2,h3,rfl,rfl,h4,h5⟩:=hs.ty
  simp only [aappend,h1,h2,h3,hx]
  rw [if_pos ⟨h4,hb,hl,h5⟩]
  rw [if_pos hes]
  simp only [hg]
  rw [if_neg hcap,if_neg (by rw [h6];simp),if_pos ⟨h7,h8,h9,hne,h10⟩]
theorem app_copy(hs:SlTy E.D t e sz by')(hx:elemsOf sz x h=some new){a:AAddr}{len cap:Nat}{b:ABlk}{old:List AVal}(hb:((len+new.length)+(len+new.length) / 4+512)*by'≤2^48)(hl:len+new.length<2^62)
    (hg:h.get a.id=some b) (hes:a.es=sz∧a.fld=0) (hcap: ¬ len+new.length≤cap) (h6:b.exact=true) (ho:elemsOf sz (.slice (some a) len cap) h=some old) :
    abuiltin E .append #[t,t] [.slice (some a) len cap,x] nid h=some (newSlice nid sz (len+new.length) (len+new.length),h.set nid (.made (old++new) sz false (some (e,0)))):=by
  rw [app_start hs]
  obtain⟨d,xd,h1,h2,h3,rfl,rfl,h4,h5⟩:=hs.ty
  simp only [aappend,h1,h2,h3,hx]
  rw [if_pos ⟨h4,hb,hl,h5⟩]
  rw [if_pos hes]
  simp only [hg]
  rw [if_neg hcap,if_pos h6]
  simp only [ho]
theorem app_none(hs:SlTy E.D t e sz by')(hx:elemsOf sz x h=some []){o:Option AAddr}{len cap:Nat}{b:ABlk}(hb:(len+len / 4+512)*by'≤2^48)(hl:len<2^62)
    (hg: ∀ a,o=some a→h.get a.id=some b∧a.es=sz∧a.fld=0) (hcap:len≤cap) (hn:o=none→len=0):abuiltin E .append #[t,t] [.slice o len cap,x] nid h=some (.slice o len cap,h):=by
  rw [app_start hs]
  obtain⟨d,xd,h1,h2,h3,rfl,rfl,h4,h5⟩:=hs.ty
  simp only [aappend,h1,h2,h3,hx]
  rw [if_pos ⟨h4,by simpa using hb,by simpa using hl,h5⟩]
  cases o with
  | none=>have:=hn rfl;subst this;simp
  | some a =>
    obtain⟨k1,k2⟩:=hg a rfl
    simp only
    rw [if_pos k2]
    simp only [k1]
    rw [if_pos (by simpa using hcap),if_pos trivial]
    simp
end
theorem elemsOf_slice {h:AHeap} {o:Option AAddr} {n c id ver off sz:Nat} (hs:SlArg o n c id ver off sz) {b:ABlk} (hg:h.get id=some b) {f:Nat→AVal} (hx: ∀ j,j<n→b.elem? ver (off+j)=some (f j)) :
    elemsOf sz (.slice o n c) h=some ((List.range n).map f):=by
  rcases hs with rfl | ⟨rfl,rfl,rfl⟩
  · simp only [elemsOf,if_true,hg]
    by_cases hn:n=0
    · subst hn;simp
    · rw [if_neg hn]
      have key: ∀ j,j<n→off+j<b.lim ver∧b.elems[off+j]? =some (f j):=by
        intro j hj
        have:=hx j hj
        unfold ABlk.elem? at this
        split at this
        · exact⟨‹_›,this⟩
        · cases this
      have hlast:=key (n-1) (by omega)
      have hlen:=(List.getElem?_eq_some_iff.1 hlast.2).1
      rw [if_pos ⟨by omega,by omega⟩]
      congr 1
      apply List.ext_getElem?
      intro j
      by_cases hj:j<n
      · rw [List.getElem?_take,if_pos hj,List.getElem?_drop,(key j hj).2];simp [hj]
      · rw [List.getElem?_take,if_neg hj,List.getElem?_eq_none (by simp;omega)]
  · simp [elemsOf]
theorem Loops.round {P:Program}{C:(Nat→Prop)→World→Prop}{base n:Nat}{c:Code}{F F1 F2:Facts}{h h1 h1' h2:AHeap}{e:AExit}(k1:Runs P C base n c F h .normal F1 h1)(i:Ent base n F1 h1 F1 h1')(k2:Loops P C base n c F1 h1' e F2 h2):Loops P C base n c F h e F2 h2 :=
  Loops.step (k1.post i) k2
end
end Go.Lift
namespace Go.Lift
noncomputable section
open Go.RowKit
inductive HT:Type 1 where
  | nil
  | hint (x:Hint) (r:HT)
  | br (i:Nat) (y n:HT)
  | cases (i:Nat) (p:Prop) (y n:HT)
  | ex (i:Nat) {α:Type} (p:α→Prop) (f:α→HT)
  | skip (i:Nat) (r:HT)
def AllC:List Prop→Prop→Prop
  | [],k=>k
  | p::r,k=>p∧AllC r k
theorem AllC_spec: ∀ {l:List Prop} {k:Prop},AllC l k→All l∧k
  | [],k,h=>⟨All.nil,h⟩
  | p::r,k,h=>⟨All.cons h.1 (AllC_spec h.2).1,(AllC_spec h.2).2⟩
abbrev TPost:=AVal→AHeap→HT→List CFact→Prop
abbrev TEnter:=FuncId→List AVal→AHeap→HT→(AVal→AHeap→HT→Prop)→Prop
abbrev TX:=AExit→Facts→AHeap→HT→Prop
def brOp (ρ:Operand→AVal) (o:Op):Option (Prop×Bool) :=
  match o with
  | .binOp op t x y _ =>
    match ρ x,ρ y with
    | .int k a,.int k' b =>
      match decEq k k' with
      | isTrue _ =>
        match op with
        | .eql=>some (a=b,true)
        | .neq=>some (a=b,false)
        | .lss=>some (a<b,true)
        | .leq=>some (a≤b,true)
        | .gtr=>some (b<a,true)
        | .geq=>some (b≤a,true)
        | _=>none
      | isFalse _=>none
    | .str a,.str b =>
      match op with
      | .eql=>some (a=b,true)
      | .neq=>some (a=b,false)
      | _=>none
    | _,_=>none
  | _=>none
theorem brOp_spec {E:AEnv}{ρ:Operand→AVal}{o:Op}{p:Prop}{b:Bool}(k:brOp ρ o=some (p,b))(call:ACall)(nid:Nat)(h:AHeap):(p→aop E call nid ρ h o=some (.bool b,h))∧(¬ p→aop E call nid ρ h o=some (.bool (!b),h)):=by
  cases o<;>simp only [brOp]at k<;>try (cases k;done)
  rename_i op t x y ty
  split at k
  · rename_i k1 a k2 c hx hy
    split at k
    · rename_i hk _
      subst hk
      split at k<;>first | (cases k;done) | (simp only [Option.some.injEq,Prod.mk.injEq]at k)
      all_goals (obtain⟨rfl,rfl⟩:=k)
      all_goals (constructor<;>intro hp<;>simp [aop,hx,hy,abin,aint,hp])
      all_goals omega
    · cases k
  · rename_i a c hx hy
    split at k<;>first | (cases k;done) | (simp only [Option.some.injEq,Prod.mk.injEq]at k)
    all_goals (obtain⟨rfl,rfl⟩:=k)
    all_goals (constructor<;>intro hp<;>simp [aop,hx,hy,abin,astr,hp])
  · cases k
inductive Alts where
  | one (v:AVal) (h:AHeap) (ps:List Prop)
  | or (p:Prop) (a b:Alts)
  | some (v:AVal) (ps:List Prop) (p:AHeap→Prop)
def Alts.Ok(P:Program)(C:(Nat→Prop)→World→Prop)(f:FuncId)(args:List AVal)(h:AHeap):Alts→Prop
  | .one v h' ps=>All ps→FDoes P C f args h v h'
  | .or p a b=>(p→Alts.Ok P C f args h a)∧(¬ p→Alts.Ok P C f args h b)
  | .some v ps p=>All ps→ ∃ h',FDoes P C f args h v h'∧p h'
abbrev Specs:=FuncId→Option (List AVal→AHeap→Option Alts)
def SpecsOk(P:Program)(C:(Nat→Prop)→World→Prop)(S:Specs):Prop:= ∀ f g,S f=some g→ ∀ args h a,g args h=some a→a.Ok P C f args h
def noSpecs:Specs:=fun _=>none
theorem noSpecs_ok {P:Program}{C:(Nat→Prop)→World→Prop} :SpecsOk P C noSpecs:=fun _ _ h=>by cases h
def Specs.add(S:Specs)(f:FuncId)(g:List AVal→AHeap→Option Alts):Specs:=fun k=>_root_.cond (Nat.beq k f) (some g) (S k)
theorem SpecsOk.add {P:Program}{C:(Nat→Prop)→World→Prop}{S:Specs}(k:SpecsOk P C S){f:FuncId}{g:List AVal→AHeap→Option Alts}(hg: ∀ args h a,g args h=some a→a.Ok P C f args h):SpecsOk P C (S.add f g):=by
  intro f' g' hf
  unfold Specs.add at hf
  rcases beq_cases f' f with ⟨e,e'⟩ | ⟨e,e'⟩
  · rw [e',cond_true]at hf;simp only [Option.some.injEq]at hf;subst hf;subst e;exact hg
  · rw [e',cond_false]at hf;exact k f' g' hf
def bytesA(l:List UInt8):List AVal:=l.map fun b=> .int .u8 b.toNat
def strOf(l:List AVal):List UInt8:=(bytesOf l).getD []
def intAt(l:List AVal)(i:Nat):Int:=match l[i]? with | some (.int _ n)=>n | _=>0
def goX (E:AEnv) (draw:Bool) (ops:Array Oper) (n0 i:Nat) (ρ:Operand→AVal) (h:AHeap) (o:Op):Option (AVal×AHeap×List Prop) :=
  match o with
  | .convert s d x =>
    match ρ x with
    | .slice (some a) n c =>
      match E.D s,E.D d,h.get a.id with
      | some sd,some dd,some b =>
        match sd.kind,dd.kind with
        | .slice e,.string =>
          match E.D e with
          | some ed =>
            match ed.kind with
            | .int .u8 =>
              cond (Nat.beq a.fld 0 && Nat.beq a.es 1 && (!draw || (soloOk ops i || readOk ops n0 i ρ (.convert s d x))))
                (some (.str (strOf ((b.elems.drop a.idx).take n)),h,[a.ver=b.ver,a.idx+n≤b.elems.length,∃ l,(b.elems.drop a.idx).take n=bytesA l])) none
            | _=>none
          | none=>none
        | _,_=>none
      | _,_,_=>none
    | _=>none
  | .load t x =>
    match ρ x with
    | .ptr (some a) =>
      match E.D t,h.get a.id with
      | some d,some b =>
        match d.kind with
        | .int k =>
          cond (Nat.beq a.fld 0 && Nat.beq d.size 1)
            (some (.int k (intAt b.elems a.idx),h,[a.ver=b.ver,b.elems[a.idx]? =some (.int k (intAt b.elems a.idx))]++cond draw (drawCond ops n0 i ρ h o h) [])) none
        | _=>none
      | _,_=>none
    | _=>none
  | _=>none
theorem bytesOf_bytesA: ∀ (l:List UInt8),bytesOf (bytesA l)=some l
  | []=>rfl
  | b::r=>by
    have:=bytesOf_bytesA r
    unfold bytesA at this
    simp only [bytesA,List.map_cons,bytesOf,this,Option.map_some]
    simp
theorem strOf_bytesA(l:List UInt8):strOf (bytesA l)=l:=by unfold strOf;rw [bytesOf_bytesA];rfl
theorem goX_spec {P :Program} {E:AEnv} {draw:Bool} {ops:Array Oper} {n0 i:Nat} {ρ:Operand→AVal} {h h':AHeap} {o:Op} {v:AVal} {ps:List Prop} (k:goX E draw ops n0 i ρ h o=some (v,h',ps)) (hp:All ps) (call:ACall):runOp E call ops draw n0 i ρ h o=some (v,h'):=by
  cases o<;>simp only [goX]at k<;>try (cases k;done)
  case convert s d x =>
    split at k
    · rename_i a n c hx
      split at k
      · rename_i sd dd b hs hd hg
        split at k
        · rename_i e hk1 hk2
          split at k
          · rename_i ed he
            split at k
            · rename_i hek
              cases hq:(Nat.beq a.fld 0 && Nat.beq a.es 1 && (!draw || (soloOk ops i || readOk ops n0 i ρ (.convert s d x))))with
              | false=>rw [hq]at k;cases k
              | true =>
                rw [hq,cond_true]at k
                simp only [Option.some.injEq,Prod.mk.injEq]at k
                obtain⟨rfl,rfl,rfl⟩:=k
                simp only [Bool.and_eq_true]at hq
                have q1:=Nat.eq_of_beq_eq_true hq.1.1
                have q2:=Nat.eq_of_beq_eq_true hq.1.2
                have p1:a.ver=b.ver:=hp.head
                have p2:a.idx+n≤b.elems.length:=hp.tail.head
                obtain⟨l,p3⟩: ∃ l,(b.elems.drop a.idx).take n=bytesA l:=hp.tail.tail.head
                have hlim:b.lim a.ver=b.elems.length:=by rw [p1];simp [ABlk.lim]
                have hel:elemsOf 1 (.slice (some a) n c) h=some (bytesA l):=by
                  by_cases hn:n=0
                  · subst hn
                    simp only [elemsOf,q1,q2,if_true,hg]
                    rw [← p3];simp
                  · simp only [elemsOf,q1,q2,if_true,hg]
                    rw [if_neg hn,if_pos ⟨by rw [hlim];exact p2,p2⟩,p3]
                refine runOp_ofX E ?_ ?_ ?_
                · simp only [aop,hx,aconvert,hs,hd];rfl
                · simp only [xop,hx,aconvX,hs,hd,hk1,hk2,he,hek,hel,bytesOf_bytesA,Option.map_some]
                  rw [p3,strOf_bytesA]
                · intro hdr
                  refine⟨rfl,?_⟩
                  have:=hq.2;rw [hdr]at this;simpa using this
            · cases k
          · cases k
        · cases k
      · cases k
    · cases k
  case load t x =>
    split at k
    · rename_i a hx
      split at k
      · rename_i d b hd hg
        split at k
        · rename_i kk hk
          cases hq:(Nat.beq a.fld 0 && Nat.beq d.size 1)with
          | false=>rw [hq]at k;cases k
          | true =>
            rw [hq,cond_true]at k
            simp only [Option.some.injEq,Prod.mk.injEq]at k
            obtain⟨rfl,rfl,rfl⟩:=k
            simp only [Bool.and_eq_true]at hq
            have q1:=Nat.eq_of_beq_eq_true hq.1
            have p1:a.ver=b.ver:=hp.head
            have p2:b.elems[a.idx]? =some (.int kk (intAt b.elems a.idx)):=hp.tail.head
            refine runOp_of E ?_ hp.tail.tail
            have hlt:=(List.getElem?_eq_some_iff.1 p2).1
            have hel:b.elem? a.ver a.idx=some (.int kk (intAt b.elems a.idx)):=by
              unfold ABlk.elem?
              rw [if_pos (by rw [p1];simpa [ABlk.lim]using hlt)];exact p2
            simp only [aop,hx,aload,hd,hg,hel,hk,TK.isAgg,loadElem,q1,if_true,Option.map_some,Bool.false_eq_true,if_false]
        · cases k
      · cases k
    · cases k
section
variable(P:Program)(E:AEnv)(S:Specs)
def tbase (draw:Bool) (ops:Array Oper) (n0 i:Nat) (F:Facts) (h:AHeap) (o:Op):Option (AVal×AHeap×List Prop×List CFact) :=
  match o with
  | .call c =>
    match c.callee with
    | .value f =>
      match getF F f with
      | .func (.func g) fs cs =>
        match S g with
        | some pr =>
          match pr (fs++c.args.toList.map (getF F)++cs) h with
          | some (.one v h' ps)=>some (v,h',ps++cond draw (drawCond ops n0 i (getF F) h o h') [],[⟨g,fs++c.args.toList.map (getF F)++cs,h,v,h'⟩])
          | _=>none
        | none=>none
      | _=>none
    | _=>match popPlain E draw ops n0 i F h o []with | some (v,h',_,cs,ks)=>some (v,h',cs,ks) | none=>none
  | _=>match popPlain E draw ops n0 i F h o []with | some (v,h',_,cs,ks)=>some (v,h',cs,ks) | none=>none
def talts(draw:Bool)(ops:Array Oper)(n0 i:Nat)(F:Facts)(o:Op)(g:FuncId)(args:List AVal)(h:AHeap)(K:TPost):Alts→HT→Prop
  | .one v h' ps,hs=>AllC (ps++cond draw (drawCond ops n0 i (getF F) h o h') []) (K v h' hs [⟨g,args,h,v,h'⟩])
  | .or p a b,.br _ y n=>(p→talts draw ops n0 i F o g args h K a y)∧(¬ p→talts draw ops n0 i F o g args h K b n)
  | .or _ _ _,_=>False
  | .some v ps p,hs=>AllC ps (∀ h',p h'→AllC (cond draw (drawCond ops n0 i (getF F) h o h') []) (K v h' hs [⟨g,args,h,v,h'⟩]))
def tspec (F:Facts) (h:AHeap) (o:Op):Option (Alts×FuncId×List AVal) :=
  match o with
  | .call c =>
    match c.callee with
    | .value f =>
      match getF F f with
      | .func (.func g) fs cs =>
        match S g with
        | some pr=>match pr (fs++c.args.toList.map (getF F)++cs) h with | some a=>some (a,g,fs++c.args.toList.map (getF F)++cs) | none=>none
        | none=>none
      | _=>none
    | _=>none
  | _=>none
def tdo (draw:Bool) (ops:Array Oper) (n0 i:Nat) (F:Facts) (h:AHeap) (o:Op) (hs:HT) (K:TPost):Prop :=
  match tbase E S draw ops n0 i F h o with
  | some (v,h',cs,ks)=>AllC cs (K v h' hs ks)
  | none =>
    match tspec S F h o with
    | some (.some v ps p,g,args)=>talts draw ops n0 i F o g args h K (.some v ps p) hs
    | _=>False
def tbr (draw:Bool) (ops:Array Oper) (n0 i:Nat) (F:Facts) (h:AHeap) (o:Op) (y n:HT) (K:TPost):Prop :=
  match brOp (getF F) o with
  | some (p,b)=>(p→AllC (cond draw (drawCond ops n0 i (getF F) h o h) []) (K (.bool b) h y []))∧(¬ p→AllC (cond draw (drawCond ops n0 i (getF F) h o h) []) (K (.bool (!b)) h n []))
  | none =>
    match tbase E S draw ops n0 i F h o with
    | some (.bool b,h',cs,ks)=>AllC cs ((b=true→K (.bool true) h' y ks)∧(b=false→K (.bool false) h' n ks))
    | _=>False
def tbrX(draw:Bool)(ops:Array Oper)(n0 i:Nat)(F:Facts)(h:AHeap)(o:Op)(j:Nat)(y n:HT)(K:TPost):Prop :=
  match tspec S F h o with
  | some (.or p a b,g,args)=>talts draw ops n0 i F o g args h K (.or p a b) (.br j y n)
  | _=>tbr E S draw ops n0 i F h o y n K
def tact (en:TEnter) (draw:Bool) (ops:Array Oper) (n0 i:Nat) (F:Facts) (h:AHeap) (o:Op) (x:Hint) (r:HT) (K:TPost):Prop :=
  match x with
  | .enter _ =>
    match o with
    | .call c =>
      match c.callee with
      | .value f =>
        match getF F f with
        | .func (.func g) fs cs =>
          en g (fs++c.args.toList.map (getF F)++cs) h r fun v h' r'=>AllC (cond draw (drawCond ops n0 i (getF F) h o h') []) (K v h' r' [⟨g,fs++c.args.toList.map (getF F)++cs,h,v,h'⟩])
        | _=>False
      | _=>False
    | _=>False
  | _ =>
    match popHint P E (fun _ _ _ _=>none) draw ops n0 i F h o x []with
    | some (v,h',_,cs,ks)=>AllC cs (K v h' r ks)
    | none=>match goX E draw ops n0 i (getF F) h o with | some (v,h',cs)=>AllC cs (K v h' r []) | none=>False
def tpop(en:TEnter)(q:Nat)(ops:Array Oper)(draw:Bool)(n0 i:Nat)(F:Facts)(h:AHeap)(o:Op)(K:TPost):HT→Prop
  | .nil=>tdo E S draw ops n0 i F h o .nil K
  | .hint x r=>match x.at with | some j=>cond (Nat.beq (1000*q+i) j) (tact P E en draw ops n0 i F h o x r K) (tdo E S draw ops n0 i F h o (.hint x r) K) | none=>tdo E S draw ops n0 i F h o (.hint x r) K
  | .br j y n=>cond (Nat.beq (1000*q+i) j) (tbrX E S draw ops n0 i F h o j y n K) (tdo E S draw ops n0 i F h o (.br j y n) K)
  | .cases j p y n=>cond (Nat.beq (1000*q+i) j) ((p→tpop en q ops draw n0 i F h o K y)∧(¬ p→tpop en q ops draw n0 i F h o K n)) (tdo E S draw ops n0 i F h o (.cases j p y n) K)
  | .ex j p f=>cond (Nat.beq (1000*q+i) j) ((∃ x,p x)∧ ∀ x,p x→tpop en q ops draw n0 i F h o K (f x)) (tdo E S draw ops n0 i F h o (.ex j p f) K)
  | .skip j r=>cond (Nat.beq (1000*q+i) j) (tdo E S draw ops n0 i F h o r K) (tdo E S draw ops n0 i F h o (.skip j r) K)
def TDoes(ops:Array Oper)(draw:Bool)(n0 i:Nat)(F:Facts)(h:AHeap)(o:Op)(K:TPost):Prop :=
  ∃ v h' hs' ks,K v h' hs' ks∧(∀ c∈ks,FDoes P E.cond c.f c.args c.h c.v c.h')∧ ∀ call:ACall,(∀ c∈ks,c.holds call)→runOp E call ops draw n0 i (getF F) h o=some (v,h')
def TEnterOk(en:TEnter):Prop:= ∀ f args h hs K,en f args h hs K→ ∃ v h' hs',FDoes P E.cond f args h v h'∧K v h' hs'
variable {P E S}
theorem tbase_spec (hE:EnvOk P E) (hmix:P.follows .mixedOrders=true) (hS:SpecsOk P E.cond S) {draw:Bool} {ops:Array Oper} {n0 i:Nat} {F:Facts} {h h':AHeap} {o:Op} {v:AVal} {cs:List Prop} {ks:List CFact} (k:tbase E S draw ops n0 i F h o=some (v,h',cs,ks)) (hc:All cs) :
    (∀ c∈ks,FDoes P E.cond c.f c.args c.h c.v c.h')∧ ∀ call:ACall,(∀ c∈ks,c.holds call)→runOp E call ops draw n0 i (getF F) h o=some (v,h'):=by
  have plain: ∀ {r:Option (AVal×AHeap×List Prop×List CFact)},(match popPlain E draw ops n0 i F h o []with | some (v,h',_,cs,ks)=>some (v,h',cs,ks) | none=>none)=some (v,h',cs,ks) →
      (∀ c∈ks,FDoes P E.cond c.f c.args c.h c.v c.h')∧ ∀ call:ACall,(∀ c∈ks,c.holds call)→runOp E call ops draw n0 i (getF F) h o=some (v,h'):=by
    intro r k
    split at k
    · rename_i v1 h1 hs1 c1 k1 hp
      simp only [Option.some.injEq,Prod.mk.injEq]at k
      obtain⟨rfl,rfl,rfl,rfl⟩:=k
      have hen:EnterOk P E (fun _ _ _ _=>none):=fun _ _ _ _ _ _ _ _ h=>by cases h
      have hp':pop P E (fun _ _ _ _=>none) 0 ops draw n0 i F h o []=some (v1,h1,hs1,c1,k1):=hp
      exact⟨pop_does P E hE hmix hen hp' hc,fun call hk=>pop_spec P E hp' hc hk⟩
    · cases k
  unfold tbase at k
  split at k
  · rename_i c
    split at k
    · rename_i f hf
      split at k
      · rename_i g fs cs' hg
        split at k
        · rename_i pr hpr
          split at k
          · rename_i v1 h1 ps hcall
            simp only [Option.some.injEq,Prod.mk.injEq]at k
            obtain⟨rfl,rfl,rfl,rfl⟩:=k
            refine⟨fun c hm=> ?_,fun call hk=> ?_⟩
            · rw [List.mem_singleton.1 hm];exact hS _ _ hpr _ _ _ hcall hc.left
            · refine runOp_of E ?_ hc.right
              simp only [aop,hf,hg,acallVal]
              exact hk _ (List.mem_singleton.2 rfl)
          · cases k
        · cases k
      · cases k
    · exact plain (r:=none) k
  · exact plain (r:=none) k
theorem talts_spec {draw:Bool}{ops:Array Oper}{n0 i:Nat}{F:Facts}{h:AHeap}{c:Call}{f:Operand}(hf:c.callee= .value f){g:FuncId}{fs cs:List AVal}(hg:getF F f= .func (.func g) fs cs){K:TPost} :
    ∀ (a:Alts) (hs:HT),a.Ok P E.cond g (fs++c.args.toList.map (getF F)++cs) h→talts draw ops n0 i F (.call c) g (fs++c.args.toList.map (getF F)++cs) h K a hs→TDoes P E ops draw n0 i F h (.call c) K
  | .one v h' ps,hs,ok,k=>by
    obtain⟨hc,hK⟩:=AllC_spec (by simpa only [talts]using k)
    refine⟨v,h',hs,_,hK,fun c hm=> ?_,fun call hk=> ?_⟩
    · rw [List.mem_singleton.1 hm];exact ok hc.left
    · refine runOp_of E ?_ hc.right
      simp only [aop,hf,hg,acallVal]
      exact hk _ (List.mem_singleton.2 rfl)
  | .some v ps p,hs,ok,k=>by
    obtain⟨hc,hK⟩:=AllC_spec (by simpa only [talts]using k)
    obtain⟨h',hd,hp⟩:=ok hc
    obtain⟨hc2,hK⟩:=AllC_spec (hK h' hp)
    refine⟨v,h',hs,_,hK,fun c hm=> ?_,fun call hk=> ?_⟩
    · rw [List.mem_singleton.1 hm];exact hd
    · refine runOp_of E ?_ hc2
      simp only [aop,hf,hg,acallVal]
      exact hk _ (List.mem_singleton.2 rfl)
  | .or p a b,.br j y n,ok,k=>by
    simp only [talts]at k
    by_cases hp:p
    · exact talts_spec hf hg a y (ok.1 hp) (k.1 hp)
    · exact talts_spec hf hg b n (ok.2 hp) (k.2 hp)
  | .or p a b,.nil,ok,k=>k.elim
  | .or p a b,.hint _ _,ok,k=>k.elim
  | .or p a b,.cases _ _ _ _,ok,k=>k.elim
  | .or p a b,.ex _ _ _,ok,k=>k.elim
  | .or p a b,.skip _ _,ok,k=>k.elim
theorem tspec_spec (hS:SpecsOk P E.cond S) {draw:Bool} {ops:Array Oper} {n0 i:Nat} {F:Facts} {h:AHeap} {o:Op} {a:Alts} {g:FuncId} {args:List AVal} (ht:tspec S F h o=some (a,g,args)) {K:TPost} {hs:HT} (k:talts draw ops n0 i F o g args h K a hs):TDoes P E ops draw n0 i F h o K:=by
  unfold tspec at ht
  split at ht
  · rename_i c
    split at ht
    · rename_i f hf
      split at ht
      · rename_i g' fs cs hg
        split at ht
        · rename_i pr hpr
          split at ht
          · rename_i a' hcall
            simp only [Option.some.injEq,Prod.mk.injEq]at ht
            obtain⟨rfl,rfl,rfl⟩:=ht
            exact talts_spec hf hg _ _ (hS _ _ hpr _ _ _ hcall) k
          · cases ht
        · cases ht
      · cases ht
    · cases ht
  · cases ht
theorem tdo_spec(hE:EnvOk P E)(hmix:P.follows .mixedOrders=true)(hS:SpecsOk P E.cond S){draw:Bool}{ops:Array Oper}{n0 i:Nat}{F:Facts}{h:AHeap}{o:Op}{hs:HT}{K:TPost}(k:tdo E S draw ops n0 i F h o hs K):TDoes P E ops draw n0 i F h o K:=by
  unfold tdo at k
  split at k
  · rename_i v h' cs ks hb
    obtain⟨hc,hK⟩:=AllC_spec k
    obtain⟨k1,k2⟩:=tbase_spec hE hmix hS hb hc
    exact⟨v,h',hs,ks,hK,k1,k2⟩
  · split at k
    · rename_i ht;exact tspec_spec hS ht k
    · exact k.elim
theorem tbr_spec(hE:EnvOk P E)(hmix:P.follows .mixedOrders=true)(hS:SpecsOk P E.cond S){draw:Bool}{ops:Array Oper}{n0 i:Nat}{F:Facts}{h:AHeap}{o:Op}{y n:HT}{K:TPost}(k:tbr E S draw ops n0 i F h o y n K):TDoes P E ops draw n0 i F h o K:=by
  unfold tbr at k
  split at k
  · rename_i p b hb
    by_cases hp:p
    · obtain⟨hc,hK⟩:=AllC_spec (k.1 hp)
      exact⟨_,_,_,_,hK,fun c hm=>by simp at hm,fun call _=>runOp_of E ((brOp_spec hb call (n0+i) h).1 hp) hc⟩
    · obtain⟨hc,hK⟩:=AllC_spec (k.2 hp)
      exact⟨_,_,_,_,hK,fun c hm=>by simp at hm,fun call _=>runOp_of E ((brOp_spec hb call (n0+i) h).2 hp) hc⟩
  · split at k
    · rename_i b h' cs ks hb
      obtain⟨hc,hK⟩:=AllC_spec k
      obtain⟨k1,k2⟩:=tbase_spec hE hmix hS hb hc
      cases b with
      | true=>exact⟨_,_,_,_,hK.1 rfl,k1,k2⟩
      | false=>exact⟨_,_,_,_,hK.2 rfl,k1,k2⟩
    · exact k.elim
theorem tbrX_spec(hE:EnvOk P E)(hmix:P.follows .mixedOrders=true)(hS:SpecsOk P E.cond S){draw:Bool}{ops:Array Oper}{n0 i:Nat}{F:Facts}{h:AHeap}{o:Op}{j:Nat}{y n:HT}{K:TPost}(k:tbrX E S draw ops n0 i F h o j y n K):TDoes P E ops draw n0 i F h o K:=by
  unfold tbrX at k
  split at k
  · rename_i ht;exact tspec_spec hS ht k
  · exact tbr_spec hE hmix hS k
theorem tact_spec (hE:EnvOk P E) (hmix:P.follows .mixedOrders=true) (hS:SpecsOk P E.cond S) {en:TEnter} (hen:TEnterOk P E en) {q:Nat} {draw:Bool} {ops:Array Oper} {n0 i:Nat} {F:Facts} {h:AHeap} {o:Op} {x:Hint} (hx:x.at=some (1000*q+i)) {r:HT} {K:TPost} (k:tact P E en draw ops n0 i F h o x r K) :
    TDoes P E ops draw n0 i F h o K:=by
  unfold tact at k
  split at k
  · split at k
    · rename_i c
      split at k
      · rename_i f hf
        split at k
        · rename_i g fs cs hg
          obtain⟨v,h',hs',hd,hK⟩:=hen _ _ _ _ _ k
          obtain⟨hc,hK⟩:=AllC_spec hK
          refine⟨v,h',hs',_,hK,fun c hm=> ?_,fun call hk=> ?_⟩
          · rw [List.mem_singleton.1 hm];exact hd
          · refine runOp_of E ?_ hc
            simp only [aop,hf,hg,acallVal]
            exact hk _ (List.mem_singleton.2 rfl)
        · exact k.elim
      · exact k.elim
    · exact k.elim
  · split at k
    · rename_i v h' hs1 cs ks hp
      obtain⟨hc,hK⟩:=AllC_spec k
      have hen':EnterOk P E (fun _ _ _ _=>none):=fun _ _ _ _ _ _ _ _ h=>by cases h
      have hp':pop P E (fun _ _ _ _=>none) q ops draw n0 i F h o [x]=some (v,h',hs1,cs,ks):=by
        unfold pop
        simp only [hx]
        rw [beq_true rfl,cond_true];exact hp
      exact⟨v,h',r,ks,hK,pop_does P E hE hmix hen' hp' hc,fun call hk=>pop_spec P E hp' hc hk⟩
    · split at k
      · rename_i v h' cs hp
        obtain⟨hc,hK⟩:=AllC_spec k
        exact⟨v,h',r,[],hK,fun c hm=>by simp at hm,fun call _=>goX_spec (P:=P) hp hc call⟩
      · exact k.elim
theorem tpop_spec(hE:EnvOk P E)(hmix:P.follows .mixedOrders=true)(hS:SpecsOk P E.cond S){en:TEnter}(hen:TEnterOk P E en){q:Nat}{draw:Bool}{ops:Array Oper}{n0 i:Nat}{F:Facts}{h:AHeap}{o:Op}{K:TPost} : ∀ (hs:HT),tpop P E S en q ops draw n0 i F h o K hs→TDoes P E ops draw n0 i F h o K
  | .nil,k=>tdo_spec hE hmix hS k
  | .hint x r,k=>by
    simp only [tpop]at k
    split at k
    · rename_i j hj
      rcases beq_cases (1000*q+i) j with ⟨e,e'⟩ | ⟨e,e'⟩
      · rw [e',cond_true]at k;exact tact_spec hE hmix hS hen (by rw [hj,e]) k
      · rw [e',cond_false]at k;exact tdo_spec hE hmix hS k
    · exact tdo_spec hE hmix hS k
  | .br j y n,k=>by
    simp only [tpop]at k
    rcases beq_cases (1000*q+i) j with ⟨e,e'⟩ | ⟨e,e'⟩
    · rw [e',cond_true]at k;exact tbrX_spec hE hmix hS k
    · rw [e',cond_false]at k;exact tdo_spec hE hmix hS k
  | .cases j p y n,k=>by
    simp only [tpop]at k
    rcases beq_cases (1000*q+i) j with ⟨e,e'⟩ | ⟨e,e'⟩
    · rw [e',cond_true]at k
      by_cases hp:p
      · exact tpop_spec hE hmix hS hen y (k.1 hp)
      · exact tpop_spec hE hmix hS hen n (k.2 hp)
    · rw [e',cond_false]at k;exact tdo_spec hE hmix hS k
  | .ex j p f,k=>by
    simp only [tpop]at k
    rcases beq_cases (1000*q+i) j with ⟨e,e'⟩ | ⟨e,e'⟩
    · rw [e',cond_true]at k
      obtain⟨⟨x,hx⟩,k⟩:=k
      exact tpop_spec hE hmix hS hen (f x) (k x hx)
    · rw [e',cond_false]at k;exact tdo_spec hE hmix hS k
  | .skip j r,k=>by
    simp only [tpop]at k
    rcases beq_cases (1000*q+i) j with ⟨e,e'⟩ | ⟨e,e'⟩
    · rw [e',cond_true]at k;exact tdo_spec hE hmix hS k
    · rw [e',cond_false]at k;exact tdo_spec hE hmix hS k
variable(P E S)
def trun (en:TEnter) (q:Nat) (ops:Array Oper) (draw:Bool) (n n0:Nat):List Oper→Nat→Facts→AHeap→HT→List CFact→(Facts→AHeap→HT→List CFact→Prop)→Prop
  | [],_,F,h,hs,ks,K=>K F h hs ks
  | o::r,i,F,h,hs,ks,K =>
    cond (ltDst n o)
    (match awantedF ops F o with
    | some true=>cond (o.op.operands.toList.all (knownF F)) (tpop P E S en q ops draw n0 i F h o.op (fun v h' hs' k2=>trun en q ops draw n n0 r (i+1) (setF F o.dst v) h' hs' (ks++k2) K) hs) False
    | some false=>trun en q ops draw n n0 r (i+1) (setF F o.dst skipped) h hs ks K
    | none=>False) False
variable {P E S}
theorem trun_spec (hE:EnvOk P E) (hmix:P.follows .mixedOrders=true) (hS:SpecsOk P E.cond S) {en:TEnter} (hen:TEnterOk P E en) {q:Nat} {ops:Array Oper} {draw:Bool} {n n0:Nat} : ∀ (l:List Oper) (i:Nat) (F:Facts) (h:AHeap) (hs:HT) (ks:List CFact) {K:Facts→AHeap→HT→List CFact→Prop},(∀ j,l[j]? =ops[i+j]?) →
    trun P E S en q ops draw n n0 l i F h hs ks K→ ∃ F' h' hs' k2,K F' h' hs' (ks++k2)∧(∀ c∈k2,FDoes P E.cond c.f c.args c.h c.v c.h')∧ ∀ call:ACall,(∀ c∈k2,c.holds call)→ ∀ s:List AVal,s.length=n→Has F s→ ∃ s',s'.length=n∧Has F' s' ∧
      runL E call ops draw n0 (List.range' i l.length) ⟨s,h⟩=some ⟨s',h'⟩
  | [],i,F,h,hs,ks,K,hl,k=>⟨F,h,hs,[],by simpa [trun]using k,fun c hm=>by simp at hm,fun call _ s hn hF=>⟨s,hn,hF,by unfold runL;cases draw<;>rfl⟩⟩
  | o :: r, i,F,h,hs,ks,K,hl,k=>by
    have ho:ops[i]? =some o:=by have:=hl 0;simpa using this.symm
    have hr: ∀ j,r[j]? =ops[i+1+j]? :=fun j=>by have:=hl (j+1);simp at this;rw [this];congr 1;omega
    simp only [trun]at k
    cases hd:ltDst n o with
    | false=>rw [hd]at k;exact k.elim
    | true =>
      rw [hd,cond_true]at k
      have hdst: ∀ m,m=n→ ∀ t,o.dst=some t→t<m:=by
        intro m hm t ht
        unfold ltDst at hd
        rw [ht]at hd
        rw [hm];exact Nat.blt_eq.mp hd
      rw [List.length_cons,List.range'_succ]
      split at k
      · rename_i hg
        cases hall:o.op.operands.toList.all (knownF F)with
        | false=>rw [hall]at k;exact k.elim
        | true =>
          rw [hall,cond_true]at k
          obtain⟨v,h1,hs1,k1,hK,hd1,hrun1⟩:=tpop_spec hE hmix hS hen hs k
          obtain⟨F',h',hs',k2,hK2,hd2,hrun2⟩:=trun_spec hE hmix hS hen r (i+1) _ _ _ _ hr hK
          refine⟨F',h',hs',k1++k2,by rw [← List.append_assoc];exact hK2,fun c hm=>(List.mem_append.1 hm).elim (hd1 c) (hd2 c),fun call hk s hn hF=> ?_⟩
          have ha1:=hrun1 call fun c hm=>hk c (by simp [hm])
          obtain⟨s',e1,e2,hm2⟩:=hrun2 call (fun c hm=>hk c (by simp [hm])) (aput s o.dst v) (by rw [length_aput];exact hn) (hF.set (hdst s.length hn) v)
          refine⟨s',e1,e2,?_⟩
          have heq:runOp E call ops draw n0 i (agetOp s) h o.op=some (v,h1):=by
            rw [← ha1]
            have hcg: ∀ x∈o.op.operands.toList,agetOp s x=getF F x:=fun x hx=>(hF.get (List.all_eq_true.1 hall x hx)).symm
            have h0: ∀ nid,aop E call nid (agetOp s) h o.op=aop E call nid (getF F) h o.op:=fun nid=>aop_congr hcg
            have hlo:loadId (agetOp s) o.op=loadId (getF F) o.op:=by
              cases hoo:o.op<;>simp only [loadId]
              rename_i t x
              rw [hoo]at hcg
              rw [hcg x (by simp [Op.operands])]
            have hso:storeId (agetOp s) o.op=storeId (getF F) o.op:=by
              cases hoo:o.op<;>simp only [storeId]
              rename_i t x y
              rw [hoo]at hcg
              rw [hcg x (by simp [Op.operands])]
            have hxo: ∀ nid,xop E nid (agetOp s) h o.op=xop E nid (getF F) h o.op:=fun nid=>xop_congr E hcg
            have hap:appIds (agetOp s) o.op=appIds (getF F) o.op:=by
              cases hoo:o.op<;>simp only [appIds]
              rename_i c
              rw [hoo]at hcg
              rw [map_congr_ops (xs:=c.args) (fun x hx=>hcg x (by simp only [Op.operands,Call.operands,Array.toList_append,List.mem_append];exact .inr hx))]
            have hrd:readOk ops n0 i (agetOp s) o.op=readOk ops n0 i (getF F) o.op:=by
              have:convSrc (agetOp s) o.op=convSrc (getF F) o.op:=by
                cases hoo:o.op<;>simp only [convSrc]
                rename_i a b x
                rw [hoo]at hcg
                rw [hcg x (by simp [Op.operands])]
              unfold readOk;rw [this]
            unfold runOp dop aopX
            simp only [h0,hlo,hso,hxo,hap,hrd]
          exact(runL_cons_true E ho (awantedF_eq hF hg) heq).trans hm2
      · rename_i hg
        obtain⟨F',h',hs',k2,hK2,hd2,hrun2⟩:=trun_spec hE hmix hS hen r (i+1) _ _ _ _ hr k
        refine⟨F',h',hs',k2,hK2,hd2,fun call hk s hn hF=> ?_⟩
        obtain⟨s',e1,e2,hm2⟩:=hrun2 call hk (aput s o.dst skipped) (by rw [length_aput];exact hn) (hF.set (hdst s.length hn) skipped)
        exact⟨s',e1,e2,(runL_cons_false E ho (awantedF_eq hF hg)).trans hm2⟩
      · exact k.elim
def trounds(step:Facts→AHeap→HT→TX→Prop)(K:TX):Nat→Facts→AHeap→HT→Prop
  | 0,_,_,_=>False
  | m+1,F,h,hs=>step F h hs fun e F1 h1 hs1=>match e with | .normal=>trounds step K m F1 h1 hs1 | e=>K e F1 h1 hs1
def tres(D:Tys)(rs:List ResultVar)(e:AExit)(F:Facts)(h h':AHeap)(K:AVal→Prop):Prop :=
  match e with
  | .normal=>match presults D F h' rs []with | some (l,cs)=>AllC cs (cond (Nat.ble h.next h'.next) (K (aresult l)) False) | none=>False
  | .ret=>match presults D F h' rs []with | some (l,cs)=>AllC cs (cond (Nat.ble h.next h'.next) (K (aresult l)) False) | none=>False
  | _=>False
def frees(P:Program)(C:(Nat→Prop)→World→Prop):List CFact→List Prop
  | []=> []
  | [c]=> [c.h'=c.h,∀ h,CallT P C c.f c.args h c.v h]
  | _=> [False]
open Classical in
noncomputable def callF:List CFact→ACall
  | [],_,_,_=>none
  | c::_,f,args,h=>if c.f=f∧c.args=args then some (c.v,h)else none
theorem callF_free(ks:List CFact):FreeC (callF ks):=by
  intro f args h v h' e
  cases ks with
  | nil=>cases e
  | cons c r =>
    simp only [callF]at e ⊢
    split at e
    · rename_i q
      simp only [Option.some.injEq,Prod.mk.injEq]at e
      exact⟨e.2.symm,fun h2=>by rw [if_pos q,e.1]⟩
    · cases e
theorem callF_holds {P:Program}{C:(Nat→Prop)→World→Prop}{ks:List CFact}(h:All (frees P C ks)): ∀ c∈ks,c.holds (callF ks):=by
  match ks,h with
  | [],_=>intro c hc;cases hc
  | [k],h =>
    intro c hc
    obtain rfl:=List.mem_singleton.1 hc
    have e:c.h'=c.h:=h.head
    unfold CFact.holds
    simp only [callF]
    rw [if_pos ⟨trivial,trivial⟩,e]
  | a::b::r,h=>exact(h _ (List.mem_singleton.2 rfl):False).elim
theorem callF_ok {P:Program}{E:AEnv}{ks:List CFact}(hk:All (frees P E.cond ks)){N0:Nat→Prop}{w0:World}(hN:Low N0 w0.heap.size)(hC:E.cond N0 w0):CallOk P N0 w0 (callF ks):=by
  match ks,hk with
  | [],_=>intro f args h v h' hc;cases hc
  | a::b::r,h=>exact(h _ (List.mem_singleton.2 rfl):False).elim
  | [k],hk =>
    intro f args h v h' hc φ w args' hH hB hA
    simp only [callF]at hc
    split at hc
    · rename_i q
      simp only [Option.some.injEq,Prod.mk.injEq]at hc
      obtain⟨rfl,rfl⟩:=q
      obtain⟨rfl,rfl⟩:=hc
      have hd: ∀ h,CallT P E.cond k.f k.args h k.v h:=hk _ (by simp [frees])
      exact(hd h).does N0 w0 hN hC φ w args' hH hB hA
    · cases hc
variable(P E S)
def tenter (ex:Nat→Nat→Code→Facts→AHeap→HT→TX→Prop):TEnter:=fun f args h hs K =>
  match P.funcs[f]? with
  | some fn =>
    match fn.body with
    | some c=>ex h.next (args.length+(fn.ntmps-args.length)) c (factsFrom 0 args) h hs fun e F h' hs'=>tres E.D fn.results.toList e F h h' fun v=>K v h' hs'
    | none=>False
  | none=>False
def texec (R:Nat→Nat→Code→Facts→AHeap→AExit→Facts→AHeap→Prop):Nat→Nat→Nat→Option Code→Code→Facts→AHeap→HT→TX→Prop
  | 0,_,_,_,_,_,_,_,_=>False
  | k + 1,base,n,some body,c,F,h,hs,K =>
    texec R k base n none c F h hs fun e F1 h1 hs1 =>
      match e with
      | .goto l =>
        match findLabel body l with
        | some rest=>texec R k base n (some body) rest F1 h1 hs1 K
        | none=>K (.goto l) F1 h1 hs1
      | e=>K e F1 h1 hs1
  | k + 1,base,n,none,c,F,h,hs,K =>
    match c with
    | .skip=>K .normal F h hs
    | .label _=>K .normal F h hs
    | .region q ops draw =>
      cond (!draw || drawOk ops)
      (cond (Nat.ble base h.next && true)
      (trun P E S (tenter P E fun b m c F h hs K=>texec R k b m none c F h hs K) q ops draw n h.next ops.toList 0 F {h with next:=h.next+ops.size} hs [] fun F1 h1 hs1 ks=>AllC (clashes ks) (K .normal F1 h1 hs1)) False)
      (cond (Nat.ble base h.next && drawOkF ops)
      (trun P E S (tenter P E fun b m c F h hs K=>texec R k b m none c F h hs K) q ops true n h.next ops.toList 0 F {h with next:=h.next+ops.size} hs [] fun F1 h1 hs1 ks=>AllC (frees P E.cond ks) (K .normal F1 h1 hs1)) False)
    | .seq a b =>
      texec R k base n none a F h hs fun e F1 h1 hs1 =>
        match e with
        | .normal=>texec R k base n none b F1 h1 hs1 K
        | e=>K e F1 h1 hs1
    | .cond x a b =>
      cond (knownF F x)
      (match getF F x with
      | .bool true=>texec R k base n none a F h hs K
      | .bool false=>texec R k base n none b F h hs K
      | _=>False) False
    | .block id c =>
      texec R k base n none c F h hs fun e F1 h1 hs1 =>
        match e with
        | .exit j=>K (cond (Nat.beq j id) .normal (.exit j)) F1 h1 hs1
        | e=>K e F1 h1 hs1
    | .loop c =>
      match hs with
      | .hint (.keep l) (.hint (.loop F1 h1 e) r)=>R base n (.loop c) (onlyF F l) h e F1 h1∧K e F1 h1 r
      | .hint (.loop F1 h1 e) r=>R base n (.loop c) F h e F1 h1∧K e F1 h1 r
      | .hint (.rounds m) r=>trounds (fun F h hs K=>texec R k base n none c F h hs K) K m F h r
      | .cases _ p y n'=>(p→texec R k base n none (.loop c) F h y K)∧(¬ p→texec R k base n none (.loop c) F h n' K)
      | .ex _ p f=>(∃ x,p x)∧ ∀ x,p x→texec R k base n none (.loop c) F h (f x) K
      | _=>False
    | .scope c=>texec R k base n (some c) c F h hs K
    | .goto l=>K (.goto l) F h hs
    | .exit id=>K (.exit id) F h hs
    | .ret=>K .ret F h hs
    | _=>False
variable {P E S}
theorem tres_does (hE:EnvOk P E) {f:FuncId} {fn:Func} {c:Code} (hf:P.funcs[f]? =some fn) (hb:fn.body=some c) {args:List AVal} {h h':AHeap} {e:AExit} {F':Facts} {K:AVal→Prop}
    (hr:Runs P E.cond h.next (args.length+(fn.ntmps-args.length)) c (factsFrom 0 args) h e F' h') (k:tres E.D fn.results.toList e F' h h' K): ∃ v,FDoes P E.cond f args h v h'∧K v:=by
  have fin:(e= .normal∨e= .ret)→(match presults E.D F' h' fn.results.toList []with | some (l,cs)=>AllC cs (cond (Nat.ble h.next h'.next) (K (aresult l)) False) | none=>False)→ ∃ v,FDoes P E.cond f args h v h'∧K v:=by
    intro he k
    split at k
    · rename_i l cs hp
      obtain⟨hc,k⟩:=AllC_spec k
      cases hle:Nat.ble h.next h'.next with
      | false=>rw [hle]at k;exact k.elim
      | true =>
        rw [hle,cond_true]at k
        exact⟨_,FDoes.of_runs hE hf hb he hr hp hc (Nat.le_of_ble_eq_true hle),k⟩
    · exact k.elim
  cases e with
  | normal=>exact fin (.inl rfl) k
  | ret=>exact fin (.inr rfl) k
  | exit j=>exact k.elim
  | goto l=>exact k.elim
theorem texec_spec (hE:EnvOk P E) (hmix:P.follows .mixedOrders=true) (hS:SpecsOk P E.cond S): ∀ (k:Nat) {base n:Nat} (body:Option Code) (c:Code) (F:Facts) (h:AHeap) (hs:HT) {K:TX},
    texec P E S (Runs P E.cond) k base n body c F h hs K→ ∃ e F' h' hs',Tri P E.cond base n (goalOf P body c) F h e F' h'∧K e F' h' hs':=by
  intro k
  induction k with
  | zero=>intro base n body c F h hs K hp;exact hp.elim
  | succ k ih =>
    intro base n body c F h hs K hp
    cases body with
    | some body =>
      simp only [texec]at hp
      obtain⟨e,F1,h1,hs1,t1,hp⟩:=ih none c F h hs hp
      have pass:(∀ l,e≠ .goto l)→Tri P E.cond base n (goalOf P (some body) c) F h e F1 h1:=by
        intro hne S w0 hS hC0 φ0 φ a w h0 hk r Q hQ
        refine scopeW_of_wp (t1 S w0 hS hC0 φ0 φ a w h0 hk r _ fun φ' a' w' hk' r'=> ?_)
        have:=hQ φ' a' w' hk' r'
        cases e with
        | goto l=>exact absurd rfl (hne l)
        | _=>exact this
      cases e with
      | goto l =>
        simp only at hp
        cases hl:findLabel body l with
        | none =>
          rw [hl]at hp
          refine⟨.goto l,F1,h1,hs1,?_,hp⟩
          intro S w0 hS hC0 φ0 φ a w h0 hk r Q hQ
          refine scopeW_of_wp (t1 S w0 hS hC0 φ0 φ a w h0 hk r _ fun φ' a' w' hk' r'=> ?_)
          show scopePost P body Q (.goto l) a' w'
          simp only [scopePost,hl]
          exact hQ φ' a' w' hk' r'
        | some rest =>
          rw [hl]at hp
          obtain⟨e2,F2,h2,hs2,t2,hp⟩:=ih (some body) rest F1 h1 hs1 hp
          refine⟨e2,F2,h2,hs2,?_,hp⟩
          intro S w0 hS hC0 φ0 φ a w h0 hk r Q hQ
          refine scopeW_of_wp (t1 S w0 hS hC0 φ0 φ a w h0 hk r _ fun φ' a' w' hk' r'=> ?_)
          show scopePost P body Q (.goto l) a' w'
          simp only [scopePost,hl]
          exact t2 S w0 hS hC0 φ0 φ' a' w' h0 hk' r' Q hQ
      | normal=>exact⟨_,F1,h1,hs1,pass (fun l=>by simp),hp⟩
      | exit j=>exact⟨_,F1,h1,hs1,pass (fun l=>by simp),hp⟩
      | ret=>exact⟨_,F1,h1,hs1,pass (fun l=>by simp),hp⟩
    | none =>
      have stop: ∀ {e0:AExit},(∀ (Q:Exit→Act→World→Prop) (a:Act) (w:World),Q (toExit e0) a w→c.wp P Q a w)→K e0 F h hs→ ∃ e F' h' hs',Tri P E.cond base n (goalOf P none c) F h e F' h'∧K e F' h' hs':=by
        intro e0 h0 hp
        refine⟨e0,F,h,hs,?_,hp⟩
        intro S w0 hS hC0 φ0 φ a w hd hk r Q hQ
        exact h0 Q a w (hQ φ a w hk r)
      cases c
      case skip=>exact stop (e0:= .normal) (fun _ _ _ hq=>wp_skip hq) hp
      case label l=>exact stop (e0:= .normal) (fun _ _ _ hq=>wp_label hq) hp
      case goto l=>exact stop (e0:= .goto l) (fun _ _ _ hq=>wp_goto hq) hp
      case exit id=>exact stop (e0:= .exit id) (fun _ _ _ hq=>wp_exit hq) hp
      case ret=>exact stop (e0:= .ret) (fun _ _ _ hq=>wp_ret hq) hp
      case region id ops draw =>
        simp only [texec]at hp
        have hl: ∀ j:Nat,ops.toList[j]? =ops[0+j]? :=fun j=>by simp
        have hen:TEnterOk P E (tenter P E fun b m c F h hs K=>texec P E S (Runs P E.cond) k b m none c F h hs K):=by
          intro f args h hs K hq
          unfold tenter at hq
          split at hq
          · rename_i fn hf
            split at hq
            · rename_i c hb
              obtain⟨e,F',h',hs',t,hq⟩:=ih none c _ _ _ hq
              obtain⟨v,hd,hK⟩:=tres_does hE hf hb t hq
              exact⟨v,h',hs',hd,hK⟩
            · exact hq.elim
          · exact hq.elim
        cases hd0:(!draw || drawOk ops)with
        | true =>
          rw [hd0,cond_true]at hp
          cases hd:(Nat.ble base h.next && true)with
          | false=>rw [hd]at hp;exact hp.elim
          | true =>
          rw [hd,cond_true]at hp
          rw [Bool.and_true]at hd
          have hb:base≤h.next:=Nat.le_of_ble_eq_true hd
          obtain⟨F1,h1,hs1,k1,hK,hkd,hrun⟩:=trun_spec hE hmix hS hen ops.toList 0 F _ hs [] hl hp
          rw [List.nil_append]at hK
          obtain⟨hcl,hK⟩:=AllC_spec hK
          refine⟨.normal,F1,h1,hs1,?_,hK⟩
          intro S w0 hS hC0 φ0 φ a w h0 hk ⟨s,hn,hF,r⟩ Q hQ
          obtain⟨s',g1,g2,hm'⟩:=hrun (callK k1) (callK_holds hcl) s hn hF
          have hrg:List.range' 0 ops.toList.length=List.range ops.size:=by rw [List.range_eq_range',Array.length_toList]
          rw [hrg]at hm'
          have hreg:aregion E (callK k1) ops draw ⟨s,h⟩=some ⟨s',h1⟩:=by
            unfold aregion
            unfold runL at hm'
            cases draw with
            | false=>simpa using hm'
            | true =>
              have hd:drawOk ops=true:=by simpa using hd0
              simp only [if_true,hd]
              simpa using hm'
          exact aregion_sound hE hS (callK_ok P E hkd hS hC0) hmix r hreg fun a' w' φ' q1 q2 q3=>hQ φ' a' w' (hk.trans (q1.mono hb)) ⟨s',g1,g2,q2⟩
        | false =>
          rw [hd0,cond_false]at hp
          obtain rfl:draw=true:=by cases draw<;>simp_all
          cases hd:(Nat.ble base h.next && drawOkF ops)with
          | false=>rw [hd]at hp;exact hp.elim
          | true =>
          rw [hd,cond_true]at hp
          rw [Bool.and_eq_true]at hd
          have hb:base≤h.next:=Nat.le_of_ble_eq_true hd.1
          obtain⟨F1,h1,hs1,k1,hK,hkd,hrun⟩:=trun_spec hE hmix hS hen ops.toList 0 F _ hs [] hl hp
          rw [List.nil_append]at hK
          obtain⟨hcl,hK⟩:=AllC_spec hK
          refine⟨.normal,F1,h1,hs1,?_,hK⟩
          intro S w0 hS hC0 φ0 φ a w h0 hk ⟨s,hn,hF,r⟩ Q hQ
          obtain⟨s',g1,g2,hm'⟩:=hrun (callF k1) (callF_holds hcl) s hn hF
          have hrg:List.range' 0 ops.toList.length=List.range ops.size:=by rw [List.range_eq_range',Array.length_toList]
          rw [hrg]at hm'
          unfold runL at hm'
          simp only [if_true]at hm'
          exact aregionF_sound hE hS (callF_ok hcl hS hC0) (callF_free k1) hmix r hd.2 hm' fun a' w' φ' q1 q2 q3=>hQ φ' a' w' (hk.trans (q1.mono hb)) ⟨s',g1,g2,q2⟩
      case seq x y =>
        simp only [texec]at hp
        obtain⟨e,F1,h1,hs1,t1,hp⟩:=ih none x F h hs hp
        have pass:e≠ .normal→Tri P E.cond base n (goalOf P none (.seq x y)) F h e F1 h1:=by
          intro hne S w0 hS hC0 φ0 φ a w h0 hk r Q hQ
          refine wp_seq (t1 S w0 hS hC0 φ0 φ a w h0 hk r _ fun φ' a' w' hk' r'=> ?_)
          have:=hQ φ' a' w' hk' r'
          cases e with
          | normal=>exact absurd rfl hne
          | _=>exact this
        cases e with
        | normal =>
          obtain⟨e2,F2,h2,hs2,t2,hp⟩:=ih none y F1 h1 hs1 hp
          refine⟨e2,F2,h2,hs2,?_,hp⟩
          intro S w0 hS hC0 φ0 φ a w h0 hk r Q hQ
          exact wp_seq (t1 S w0 hS hC0 φ0 φ a w h0 hk r _ fun φ' a' w' hk' r'=>t2 S w0 hS hC0 φ0 φ' a' w' h0 hk' r' Q hQ)
        | exit j=>exact⟨_,F1,h1,hs1,pass (by simp),hp⟩
        | goto l=>exact⟨_,F1,h1,hs1,pass (by simp),hp⟩
        | ret=>exact⟨_,F1,h1,hs1,pass (by simp),hp⟩
      case cond x y z =>
        simp only [texec]at hp
        cases hk:knownF F x with
        | false=>rw [hk]at hp;exact hp.elim
        | true =>
          rw [hk,cond_true]at hp
          have go: ∀ {q:Bool},getF F x= .bool q→texec P E S (Runs P E.cond) k base n none (cond q y z) F h hs K→ ∃ e F' h' hs',Tri P E.cond base n (goalOf P none (.cond x y z)) F h e F' h'∧K e F' h' hs':=by
            intro q hq hp
            obtain⟨e,F1,h1,hs1,t1,hp⟩:=ih none (cond q y z) F h hs hp
            refine⟨e,F1,h1,hs1,?_,hp⟩
            intro S w0 hS hC0 φ0 φ a w h0 hk' r Q hQ
            have hw:=t1 S w0 hS hC0 φ0 φ a w h0 hk' r Q hQ
            obtain⟨s,hn,hF,r⟩:=r
            have hx:=r.eval x
            simp only at hx
            rw [← hF.get hk,hq]at hx
            simp only [VRel]at hx
            cases q
            · exact wp_cond_false hx hw
            · exact wp_cond_true hx hw
          split at hp
          · rename_i hq;exact go (q:=true) hq hp
          · rename_i hq;exact go (q:=false) hq hp
          · exact hp.elim
      case block id c =>
        simp only [texec]at hp
        obtain⟨e,F1,h1,hs1,t1,hp⟩:=ih none c F h hs hp
        have pass:(∀ j,e≠ .exit j)→Tri P E.cond base n (goalOf P none (.block id c)) F h e F1 h1:=by
          intro hne S w0 hS hC0 φ0 φ a w h0 hk r Q hQ
          refine wp_block (t1 S w0 hS hC0 φ0 φ a w h0 hk r _ fun φ' a' w' hk' r'=> ?_)
          have:=hQ φ' a' w' hk' r'
          cases e with
          | exit j=>exact absurd rfl (hne j)
          | _=>exact this
        cases e with
        | exit j =>
          refine⟨_,F1,h1,hs1,?_,hp⟩
          intro S w0 hS hC0 φ0 φ a w h0 hk r Q hQ
          refine wp_block (t1 S w0 hS hC0 φ0 φ a w h0 hk r _ fun φ' a' w' hk' r'=> ?_)
          have:=hQ φ' a' w' hk' r'
          simp only [toExit,Exit.inBlock]
          rcases beq_cases j id with ⟨hj,ej⟩ | ⟨hj,ej⟩
          · rw [ej,cond_true]at this;rw [if_pos hj];exact this
          · rw [ej,cond_false]at this;rw [if_neg hj];exact this
        | normal=>exact⟨_,F1,h1,hs1,pass (fun j=>by simp),hp⟩
        | goto l=>exact⟨_,F1,h1,hs1,pass (fun j=>by simp),hp⟩
        | ret=>exact⟨_,F1,h1,hs1,pass (fun j=>by simp),hp⟩
      case loop c =>
        simp only [texec]at hp
        split at hp
        · rename_i l F1 h1 e1 r1
          have hx:Tri P E.cond base n (goalOf P none (.loop c)) (onlyF F l) h e1 F1 h1:=hp.1
          exact⟨_,_,_,_,hx.pre (Ent.facts fun t v hv=>lookF_only hv),hp.2⟩
        · exact⟨_,_,_,_,hp.1,hp.2⟩
        · rename_i m r
          have key: ∀ (m:Nat) (F:Facts) (h:AHeap) (hs:HT),trounds (fun F h hs K=>texec P E S (Runs P E.cond) k base n none c F h hs K) K m F h hs→ ∃ e F' h' hs',Loops P E.cond base n c F h e F' h'∧K e F' h' hs':=by
            intro m
            induction m with
            | zero=>intro F h hs hp;exact hp.elim
            | succ m im =>
              intro F h hs hp
              simp only [trounds]at hp
              obtain⟨e,F1,h1,hs1,t1,hp⟩:=ih none c F h hs hp
              cases e with
              | normal =>
                obtain⟨e2,F2,h2,hs2,t2,hp⟩:=im F1 h1 hs1 hp
                exact⟨e2,F2,h2,hs2,Loops.step t1 t2,hp⟩
              | exit j=>exact⟨_,F1,h1,hs1,Loops.last (by simp) t1,hp⟩
              | goto j=>exact⟨_,F1,h1,hs1,Loops.last (by simp) t1,hp⟩
              | ret=>exact⟨_,F1,h1,hs1,Loops.last (by simp) t1,hp⟩
          obtain⟨e,F',h',hs',t,hK⟩:=key m F h r hp
          exact⟨e,F',h',hs',Runs.of_loops t,hK⟩
        · rename_i p y n'
          by_cases hq:p
          · exact ih none (.loop c) F h y (hp.1 hq)
          · exact ih none (.loop c) F h n' (hp.2 hq)
        · rename_i α p f
          obtain⟨⟨x,hx⟩,hp⟩:=hp
          exact ih none (.loop c) F h (f x) (hp x hx)
        · exact hp.elim
      case scope c =>
        simp only [texec]at hp
        obtain⟨e,F1,h1,hs1,t1,hp⟩:=ih (some c) c F h hs hp
        refine⟨e,F1,h1,hs1,?_,hp⟩
        intro S w0 hS hC0 φ0 φ a w h0 hk r Q hQ
        exact wp_of_scopeW (t1 S w0 hS hC0 φ0 φ a w h0 hk r Q hQ)
      all_goals exact hp.elim
variable(P E S)
def tcall(f:FuncId)(args:List AVal)(h:AHeap)(hs:HT)(K:AVal→AHeap→Prop):Prop :=
  tenter P E (fun b m c F h hs K=>texec P E S (Runs P E.cond) 1000 b m none c F h hs K) f args h hs fun v h' _=>K v h'
def tpath(base n:Nat)(c:Code)(F:Facts)(h:AHeap)(hs:HT)(keep:List Nat)(K:AExit→Facts→AHeap→Prop):Prop :=
  texec P E S (Runs P E.cond) 1000 base n none c F h hs fun e F' h' _=>K e (onlyF F' keep) h'
variable {P E S}
theorem tcall_does(hE:EnvOk P E)(hmix:P.follows .mixedOrders=true)(hS:SpecsOk P E.cond S){f:FuncId}{args:List AVal}{h:AHeap}{hs:HT}{K:AVal→AHeap→Prop}{p:Prop}(e:tcall P E S f args h hs K=p)(k:p): ∃ v h',FDoes P E.cond f args h v h'∧K v h':=by
  rw [← e]at k
  unfold tcall tenter at k
  split at k
  · rename_i fn hf
    split at k
    · rename_i c hb
      obtain⟨e,F',h',hs',t,hq⟩:=texec_spec hE hmix hS 1000 none c _ _ _ k
      obtain⟨v,hd,hK⟩:=tres_does hE hf hb t hq
      exact⟨v,h',hd,hK⟩
    · exact k.elim
  · exact k.elim
theorem tpath_runs(hE:EnvOk P E)(hmix:P.follows .mixedOrders=true)(hS:SpecsOk P E.cond S){base n:Nat}{c:Code}{F:Facts}{h:AHeap}{hs:HT}{keep:List Nat}{K:AExit→Facts→AHeap→Prop}{p:Prop}(e:tpath P E S base n c F h hs keep K=p)(k:p) :
    ∃ e F' h',Runs P E.cond base n c F h e F' h'∧K e F' h':=by
  rw [← e]at k
  obtain⟨e,F',h',hs',t,hq⟩:=texec_spec hE hmix hS 1000 none c _ _ _ k
  exact⟨e,_,h',t.post (Ent.facts (Facts.only_le _ _)),hq⟩
end
end
end Go.Lift
namespace Go.Lift
noncomputable section
open Go.RowKit
mutual
theorem AVal.ren_on {D:Nat→Prop}{r:Nat→Nat}(h: ∀ i,D i→r i=i): ∀ {v:AVal},Clo D v→v.ren r=v
  | .ptr (some a),k=>by simp only [Clo]at k;simp only [AVal.ren,AAddr.ren,h _ k]
  | .slice (some a) _ _,k=>by simp only [Clo]at k;simp only [AVal.ren,AAddr.ren,h _ k]
  | .func fn f c,k=>by simp only [Clo]at k;simp only [AVal.ren,AVal.rens_on h k.1,AVal.rens_on h k.2]
  | .iface t v,k=>by simp only [Clo]at k;simp only [AVal.ren,AVal.ren_on h k]
  | .agg cs,k=>by simp only [Clo]at k;simp only [AVal.ren,AVal.rens_on h k]
  | .tuple vs,k=>by simp only [Clo]at k;simp only [AVal.ren,AVal.rens_on h k]
  | .undef,_=>rfl
  | .bool _,_=>rfl
  | .int _ _,_=>rfl
  | .str _,_=>rfl
  | .ptr none,_=>rfl
  | .slice none _ _,_=>rfl
  | .nilFunc,_=>rfl
  | .nilIface,_=>rfl
theorem AVal.rens_on {D:Nat→Prop}{r:Nat→Nat}(h: ∀ i,D i→r i=i): ∀ {l:List AVal},Clos D l→AVal.rens r l=l
  | [],_=>rfl
  | a::l,k=>by simp only [Clos]at k;simp only [AVal.rens,AVal.ren_on h k.1,AVal.rens_on h k.2]
end
def CloB(D:Nat→Prop)(b:ABlk):Prop:= ∀ e∈b.elems,Clo D e
theorem ABlk.ren_on {D:Nat→Prop}{r:Nat→Nat}(h: ∀ i,D i→r i=i){b:ABlk}(k:CloB D b):b.ren r=b:=by
  unfold ABlk.ren
  have:b.elems.map (AVal.ren r)=b.elems:=by
    conv=>rhs;rw [← List.map_id b.elems]
    exact List.map_congr_left fun e he=>AVal.ren_on h (k e he)
  rw [this]
end
end Go.Lift
namespace Go.Lift
noncomputable section
open Go.RowKit
def find0:List (Nat×ABlk)→Option ABlk
  | []=>none
  | (k,b)::r=>_root_.cond (Nat.beq k 0) (some b) (find0 r)
def partL(o:Nat):List (Nat×ABlk)→List (Nat×ABlk)
  | []=> []
  | (k,b)::r=>_root_.cond (Nat.beq k 0) (partL o r) (_root_.cond (Nat.beq (Nat.mod k 2) o) (((k- (2-o)) / 2,b)::partL o r) (partL o r))
def ofLT:Nat→List (Nat×ABlk)→Trie ABlk
  | _,[]=> .nil
  | 0,_=> .nil
  | d+1,l=> .node (find0 l) (ofLT d (partL 1 l)) (ofLT d (partL 0 l))
def AHeap.rowsT(n:Nat)(l:List (Nat×ABlk)):AHeap:=⟨n,ofLT 20 l⟩
theorem FDoes.ofVC {P:Program}{C:(Nat→Prop)→World→Prop}[CondOk C]{f:FuncId}{args:List AVal}{v:AVal}(k: ∃ v1 h1,FDoes P C f args ⟨0,.nil⟩ v1 h1∧v1=v)(ha:AVal.baresB args=true)(hv:v.bareB=true)(H:AHeap):FDoes P C f args H v H:=by
  obtain⟨v1,h1,hd,rfl⟩:=k
  have hargs: ∀ {l:List AVal},AVal.baresB l=true→ ∀ a∈l,Bare a:=by
    intro l
    induction l with
    | nil=>intro _ a ha;cases ha
    | cons x r ih =>
      intro hl a ha
      simp only [AVal.baresB,Bool.and_eq_true]at hl
      rcases List.mem_cons.1 ha with rfl | hm
      · exact Bare.of hl.1
      · exact ih hl.2 a hm
  exact hd.bare (hargs ha) (Bare.of hv) H
def pureS(g:List AVal→Option (AVal×List Prop)):List AVal→AHeap→Option Alts:=fun args h=>match g args with | some (v,ps)=>some (.one v h ps) | none=>none
theorem pureS_ok {P:Program}{C:(Nat→Prop)→World→Prop}{f:FuncId}{g:List AVal→Option (AVal×List Prop)}(k: ∀ args v ps,g args=some (v,ps)→All ps→ ∀ H,FDoes P C f args H v H): ∀ args h a,pureS g args h=some a→a.Ok P C f args h:=by
  intro args h a e
  unfold pureS at e
  split at e
  · rename_i u qs hu
    simp only [Option.some.injEq]at e
    subst e
    exact fun hp=>k _ _ _ hu hp h
  · cases e
end
end Go.Lift
namespace Go.Proofs.YtjpfnbihopoeeaaGreatDoor
open Go.Lift
set_option maxRecDepth 1000000
abbrev Bytes:=List UInt8
instance:CondOk cnd where
  mono _ hC hs hn:=hC.keep hs hn
instance:CondOk env.cond:=inferInstanceAs (CondOk cnd)
end Go.Proofs.YtjpfnbihopoeeaaGreatDoor
namespace Go.Proofs.YtjpfnbihopoeeaaGreatDoor
open Go.Lift
abbrev Bys:=List UInt8
def partsAt(c:UInt8):Bys→List Bys
  | []=> [[]]
  | b::r=>if b=c then []::partsAt c r else match partsAt c r with | []=> [[b]] | w::t=>(b::w)::t
theorem partsAt_ne(c:UInt8): ∀ s:Bys,partsAt c s≠ []
  | []=>by simp [partsAt]
  | b ::r=>by
    unfold partsAt
    split
    · simp
    · cases h:partsAt c r with
      | nil=>exact absurd h (partsAt_ne c r)
      | cons w t=>simp
theorem partsAt_len (c:UInt8): ∀ s:Bys,(partsAt c s).length=s.count c+1
  | []=>rfl
  | b ::r=>by
    have ih:=partsAt_len c r
    unfold partsAt
    split
    · rename_i h;subst h;simp [ih]
    · rename_i h
      cases hs:partsAt c r with
      | nil=>exact absurd hs (partsAt_ne c r)
      | cons w t =>
        rw [hs]at ih
        simp only [List.length_cons]at ih ⊢
        rw [List.count_cons_of_ne (by simpa using h)]
        omega
theorem parts_none {c:UInt8} : ∀ {s:Bys},s.count c=0→partsAt c s= [s]
  | [],_=>rfl
  | b ::r,h=>by
    have hb: ¬ b=c:=by
      intro e;subst e;simp at h
    rw [List.count_cons_of_ne (by simpa using hb)]at h
    unfold partsAt
    rw [if_neg hb,parts_none h]
theorem parts_step {c:UInt8} : ∀ {s:Bys},s.count c≠0→ ∃ m:Nat,Go.Lib.indexByte s c=m∧m<s.length∧partsAt c s=s.take m::partsAt c (s.drop (m+1))∧s.count c=(s.drop (m+1)).count c+1
  | [],h=>by simp at h
  | b ::r,h=>by
    by_cases hb:b=c
    · subst hb
      refine⟨0,by simp [Go.Lib.indexByte],by simp,?_,by simp⟩
      rw [partsAt,if_pos rfl];simp
    · rw [List.count_cons_of_ne (by simpa using hb)]at h ⊢
      obtain⟨m,e1,e2,e3,e4⟩:=parts_step h
      refine⟨m+1,?_,by simp;omega,?_,by simpa using e4⟩
      · unfold Go.Lib.indexByte
        rw [if_neg (by simpa using hb),e1,if_neg (by rw [beq_iff_eq];omega)];rfl
      · rw [partsAt,if_neg hb,e3];simp
end Go.Proofs.YtjpfnbihopoeeaaGreatDoor
namespace Go.Proofs.YtjpfnbihopoeeaaGreatDoor
open Go.Lift
set_option maxRecDepth 1000000
abbrev sRow(l:List AVal)(mv:Nat):ABlk:= {elems:=l,es:=1,exact:=true,ro:=false,ver:=0,minVer:=mv,forkLen:=0,ty:=none}
theorem split_vc(c:UInt8)(s t:Bys)(m i k:Nat)(l:List AVal)(K0:AVal→AHeap→Prop)(vc:CallT Tryz.prog cnd 131 [AVal.str s,AVal.str [c]] (AHeap.rowsT 12 []) (AVal.int IntKind.i64 (↑k:Int)) (AHeap.rowsT 12 [])∧(-9223372036854775808≤(↑k:Int)+1∧(↑k:Int)+1≤9223372036854775807)∧(-9223372036854775808≤(↑(List.length s):Int)+1∧(↑(List.length s):Int)+1≤9223372036854775807)∧((0≤if(↑(List.length s):Int)+1<(↑k:Int)+1 then(↑(List.length s):Int)+1 else(↑k:Int)+1)∧((if(↑(List.length s):Int)+1<(↑k:Int)+1 then(↑(List.length s):Int)+1 else(↑k:Int)+1)≤if(↑(List.length s):Int)+1<(↑k:Int)+1 then(↑(List.length s):Int)+1 else(↑k:Int)+1)∧(if(↑(List.length s):Int)+1<(↑k:Int)+1 then(↑(List.length s):Int)+1 else(↑k:Int)+1)<4611686018427387904∧(16*if(↑(List.length s):Int)+1<(↑k:Int)+1 then(↑(List.length s):Int)+1 else(↑k:Int)+1)≤281474976710656)∧(-9223372036854775808≤(if(↑(List.length s):Int)+1<(↑k:Int)+1 then(↑(List.length s):Int)+1 else(↑k:Int)+1)-1∧(if(↑(List.length s):Int)+1<(↑k:Int)+1 then(↑(List.length s):Int)+1 else(↑k:Int)+1)-1≤9223372036854775807)∧Runs Tryz.prog cnd 0 66 (Code.loop (loopAt Tryz.prog 81 0)) [(0,AVal.str s),(1,AVal.str [c]),(2,AVal.int IntKind.i64 (0)),(3,AVal.int IntKind.i64 ((if(↑(List.length s):Int)+1<(↑k:Int)+1 then(↑(List.length s):Int)+1 else(↑k:Int)+1)-1)),(9,AVal.slice (some ⟨19,0,0,0,1⟩) (Int.toNat (if(↑(List.length s):Int)+1<(↑k:Int)+1 then(↑(List.length s):Int)+1 else(↑k:Int)+1)) (Int.toNat (if(↑(List.length s):Int)+1<(↑k:Int)+1 then(↑(List.length s):Int)+1 else(↑k:Int)+1))),(10,AVal.int IntKind.i64 (0))] (AHeap.rowsT 25 [(19,ABlk.made (List.replicate (Int.toNat (if(↑(List.length s):Int)+1<(↑k:Int)+1 then(↑(List.length s):Int)+1 else(↑k:Int)+1)) (AVal.str [])) 1 true)]) (AExit.exit 0) [(0,AVal.str t),(9,AVal.slice (some ⟨50,0,0,0,1⟩) m m),(10,AVal.int IntKind.i64 (↑i:Int))] (AHeap.rowsT 60 [(50,sRow l 0)])∧(0≤(↑i:Int)∧(↑i:Int)<(↑m:Int))∧(0=0∧l[0+Int.toNat (↑i:Int)]? =some (AVal.str []))∧(-9223372036854775808≤(↑i:Int)+1∧(↑i:Int)+1≤9223372036854775807)∧(0≤(↑i:Int)+1∧(↑i:Int)+1≤(↑m:Int))∧K0 (AVal.slice (some ⟨50,0,0,0,1⟩) (i+1) m) (AHeap.rowsT 70 [(50,(ABlk.made (List.set l (0+Int.toNat (↑i:Int)) (AVal.str t)) 1 true))])) :
    ∃ v h1,FDoes Tryz.prog cnd 81 [.str s,.str [c],.int .i64 0,.int .i64 (-1)] (⟨0,.nil⟩) v h1∧K0 v h1 :=
  tcall_does env_ok mixed noSpecs_ok (hs:= .hint (.val 6002 (AVal.int IntKind.i64 (↑k:Int))) (.hint (.go 6003) (.hint (.go 7003) (.hint (.go 8001) (.hint (.go 9001) (.hint (.keep [0,1,2,3,9,10]) (.hint (.loop [(0,AVal.str t),(9,AVal.slice (some ⟨50,0,0,0,1⟩) m m),(10,AVal.int IntKind.i64 (↑i:Int))] (AHeap.rowsT 60 [(50,sRow l 0)]) (AExit.exit 0)) (.hint (.go 17003) (.hint (.st 17004 (AVal.str [])) (.hint (.go 18002) (.hint (.go 18003) .nil))))))))))) (by kernel_rfl) vc
theorem splitS_vp(c:UInt8)(s:Bys)(m n i k:Nat)(l:List AVal)(K0:AExit→Facts→AHeap→Prop)(vc:((↑i:Int)<(↑n:Int)→CallT Tryz.prog cnd 132 [AVal.str s,AVal.str [c]] (AHeap.rowsT 67 [(50,(ABlk.made (l) 1 true))]) (AVal.int IntKind.i64 (↑k:Int)) (AHeap.rowsT 67 [(50,(ABlk.made (l) 1 true))])∧(-9223372036854775808≤(↑k:Int)+0∧(↑k:Int)+0≤9223372036854775807)∧(0≤(↑k:Int)+0∧(↑k:Int)+0≤(↑(List.length s):Int))∧(0≤(↑i:Int)∧(↑i:Int)<(↑m:Int))∧(0=0∧l[0+Int.toNat (↑i:Int)]? =some (AVal.str []))∧(-9223372036854775808≤(↑k:Int)+1∧(↑k:Int)+1≤9223372036854775807)∧(0≤(↑k:Int)+1∧(↑k:Int)+1≤(↑(List.length s):Int))∧(-9223372036854775808≤(↑i:Int)+1∧(↑i:Int)+1≤9223372036854775807)∧K0 AExit.normal [(0,AVal.str (List.drop (k+1) s)),(1,AVal.str [c]),(2,AVal.int IntKind.i64 (0)),(3,AVal.int IntKind.i64 (↑n:Int)),(9,AVal.slice (some ⟨50,0,0,0,1⟩) m m),(10,AVal.int IntKind.i64 ((↑i:Int)+1))] (AHeap.rowsT 88 [(50,(ABlk.made (List.set l (0+Int.toNat (↑i:Int)) (AVal.str (List.take (k+0) s))) 1 true))]))∧(¬(↑i:Int)<(↑n:Int)→K0 (AExit.exit 0) [(0,AVal.str s),(1,AVal.str [c]),(2,AVal.int IntKind.i64 (0)),(3,AVal.int IntKind.i64 (↑n:Int)),(9,AVal.slice (some ⟨50,0,0,0,1⟩) m m),(10,AVal.int IntKind.i64 (↑i:Int))] (AHeap.rowsT 63 [(50,(ABlk.made (l) 1 true))]))) :
    ∃ e F1 h1,Runs Tryz.prog cnd 0 66 (loopAt Tryz.prog 81 0) [(0,.str s),(1,.str [c]),(2,.int .i64 0),(3,.int .i64 n),(9,.slice (some ⟨50,0,0,0,1⟩) m m),(10,.int .i64 i)] (AHeap.rows 60 [(50,sRow l 0)]) e F1 h1∧K0 e F1 h1 :=
  tpath_runs env_ok mixed noSpecs_ok (hs:= .br 11002 (.hint (.val 12002 (AVal.int IntKind.i64 (↑k:Int))) (.hint (.go 14005) (.hint (.go 14006) (.hint (.go 14007) (.hint (.st 14008 (AVal.str [])) (.hint (.go 15004) (.hint (.go 15005) (.hint (.go 16001) .nil)))))))) .nil) (keep:= [0,1,2,3,9,10]) (by kernel_rfl) vc
end Go.Proofs.YtjpfnbihopoeeaaGreatDoor
namespace Go.Proofs.YtjpfnbihopoeeaaGreatDoor
open Go.Lift Go.Shelf Go.RowKit
set_option maxRecDepth 1000000
def rhoC:Ren where
  f:=fun x=>if x=138 then 131 else if x=143 then 132 else if x=195 then 170 else if x=217 then 205 else if x=218 then 172 else if x=219 then 173 else if x=224 then 207 else if x=225 then 206 else if x=266 then 229 else if x=267 then 208 else if x=314 then 230 else 0
  t:=fun x=>if x=0 then 0 else if x=3 then 3 else if x=4 then 4 else if x=5 then 5 else if x=9 then 9 else if x=46 then 108 else if x=51 then 148 else if x=146 then 181 else 0
  g:=fun x=>if x=1 then 0 else 0
theorem lays138:Lays.n138 Tryz.prog rhoC:=by
  constructor
  all_goals first | kernel_rfl | (intro w;kernel_rfl)
theorem lays143:Lays.n143 Tryz.prog rhoC:=by
  constructor
  all_goals first | kernel_rfl | (intro w;kernel_rfl)
theorem str_oneC {c:UInt8}{b:ByteArray}(h:b.data.toList= [c]):b=⟨#[c]⟩:=by
  obtain⟨d⟩:=b
  simp only at h
  congr 1
  exact Array.toList_inj.1 (by simpa using h)
theorem count_does(s:Bys)(c:UInt8)(H:AHeap):FDoes Tryz.prog cnd 131 [.str s,.str [c]] H (.int .i64 (Lib.countByte s c)) H:=by
  intro N0 w0 hN hC φ w args' hH hB hA
  obtain⟨l⟩:=args'
  simp only [VRels,VRel]at hA
  obtain⟨a,t,rfl,⟨u,rfl,rfl⟩,b,t2,rfl,⟨d,rfl,hd⟩,rfl⟩:=hA
  refine⟨⟨Tryz.f131,_,by kernel_rfl,rfl⟩,?_⟩
  have k:=Any.strings_Count_one lays138 u c w
  rw [← str_oneC hd]at k
  exact k.mono fun e w' ⟨he,hw⟩=>by
    subst hw
    exact⟨_,φ,he,Keep.refl _ _,by simp only [VRel],hH,hB,Nat.le_refl _⟩
theorem sindex_does(s:Bys)(c:UInt8)(H:AHeap):FDoes Tryz.prog cnd 132 [.str s,.str [c]] H (.int .i64 (Lib.indexByte s c)) H:=by
  intro N0 w0 hN hC φ w args' hH hB hA
  obtain⟨l⟩:=args'
  simp only [VRels,VRel]at hA
  obtain⟨a,t,rfl,⟨u,rfl,rfl⟩,b,t2,rfl,⟨d,rfl,hd⟩,rfl⟩:=hA
  refine⟨⟨Tryz.f132,_,by kernel_rfl,rfl⟩,?_⟩
  have k:=Any.strings_Index_one lays143 u c w
  rw [← str_oneC hd]at k
  exact k.mono fun e w' ⟨he,hw⟩=>by
    subst hw
    exact⟨_,φ,he,Keep.refl _ _,by simp only [VRel],hH,hB,Nat.le_refl _⟩
end Go.Proofs.YtjpfnbihopoeeaaGreatDoor
namespace Go.Lift
noncomputable section
open Go.RowKit
theorem lookF_mem {F:Facts}{t:Nat}{v:AVal}(hv:lookF F t=some v):(t,v)∈F:=by
  induction F with
  | nil=>cases hv
  | cons p r ih =>
    obtain⟨k,u⟩:=p
    rw [lookF_cons]at hv
    split at hv
    · rename_i e;simp only [Option.some.injEq]at hv;subst e;subst hv;simp
    · exact List.mem_cons_of_mem _ (ih hv)
theorem lookF_map {F:Facts}{g:AVal→AVal}{t:Nat}{v:AVal}(hv:lookF F t=some v):lookF (F.map fun p=>(p.1,g p.2)) t=some (g v):=by
  induction F with
  | nil=>cases hv
  | cons p r ih =>
    obtain⟨k,u⟩:=p
    rw [List.map_cons,lookF_cons]
    rw [lookF_cons]at hv
    split at hv
    · rename_i e;simp only [Option.some.injEq]at hv;subst hv;rw [if_pos e]
    · rename_i e;rw [if_neg e];exact ih hv
theorem Ent.move {base n:Nat}{F F1:Facts}{h:AHeap}{K:Nat}{l:List (Nat×ABlk)}(r:Nat→Nat)(hl:l.map (fun p=>h.get (r p.1))=l.map (fun p=>some (p.2.ren r)))(hK:l.all (fun p=>Nat.blt p.1 K)=true)
    (hr:((l.map (·.1)).map r).Nodup) (hb:(List.range base).all (fun i=>(l.map (·.1)).contains i && Nat.beq (r i) i)=true) (hnew:l.all (fun p=>Nat.blt p.1 base || Nat.ble base (r p.1))=true)
    (hFF:F=F1.map fun p=>(p.1,p.2.ren r)) (hn:F1.all (fun p=>Nat.blt p.1 n)=true) (hF:All (F1.map fun p=>Clo (Ids (l.map (·.1))) p.2))
    (hc:All (l.map fun p=> ∀ e∈p.2.elems,Clo (Ids (l.map (·.1))) e)):Ent base n F h F1 (AHeap.rows K l):=by
  have hget: ∀ i b,(AHeap.rows K l).get i=some b→i<K∧h.get (r i)=some (b.ren r):=by
    intro i b k
    have hm:=AHeap.rows_get k
    refine⟨Nat.blt_eq.mp (List.all_eq_true.1 hK _ hm),?_⟩
    obtain⟨j,hj,e⟩:=List.mem_iff_getElem.1 hm
    have h1:=congrArg (fun(x:List (Option ABlk))=>x[j]?) hl
    simp only [List.getElem?_map,List.getElem?_eq_getElem hj,Option.map_some,e,Option.some.injEq]at h1
    exact h1
  have hmono: ∀ {v:AVal},Clo (Ids (l.map (·.1))) v→Clo (In (AHeap.rows K l)) v:=Clo.mono fun i hi=>AHeap.rows_in hi
  subst hFF
  refine Ent.ren (r:=r) ⟨fun i b k=>⟨by rw [AHeap.rows_next];exact(hget i b k).1,(hget i b k).2⟩,?_,?_⟩ ?_ ?_ ?_ ?_
  · intro i j hi hj e
    have hi:=AHeap.rows_in_of hi
    have hj:=AHeap.rows_in_of hj
    obtain⟨a,ha,rfl⟩:=List.mem_iff_getElem.1 hi
    obtain⟨b,hb',rfl⟩:=List.mem_iff_getElem.1 hj
    have h1:((l.map (·.1)).map r)[a]'(by simpa using ha)=((l.map (·.1)).map r)[b]'(by simpa using hb'):=by simpa using e
    have:=(List.getElem_inj hr).1 h1
    subst this;rfl
  · intro i b k e he
    have hm:=AHeap.rows_get k
    exact hmono (hc _ (List.mem_map.2 ⟨_,hm,rfl⟩) e he)
  · intro t v hv
    have hm:=lookF_mem hv
    exact⟨Nat.blt_eq.mp (List.all_eq_true.1 hn _ hm),lookF_map hv,hmono (hF _ (List.mem_map.2 ⟨_,hm,rfl⟩))⟩
  · intro i hi _
    have:=List.all_eq_true.1 hb i (List.mem_range.2 hi)
    simp only [Bool.and_eq_true]at this
    exact AHeap.rows_in (by simpa using this.1)
  · intro i hi _
    have:=List.all_eq_true.1 hb i (List.mem_range.2 hi)
    simp only [Bool.and_eq_true]at this
    exact Nat.eq_of_beq_eq_true this.2
  · intro i hi hlt
    have hi:=AHeap.rows_in_of hi
    obtain⟨p,hm,rfl⟩:=List.mem_map.1 hi
    have:=List.all_eq_true.1 hnew p hm
    simp only [Bool.or_eq_true]at this
    rcases this with h1 | h1
    · exact Nat.blt_eq.mp h1
    · have:=Nat.le_of_ble_eq_true h1;omega
end
end Go.Lift
namespace Go.Proofs.YtjpfnbihopoeeaaGreatDoor
open Go.Lift
set_option maxRecDepth 1000000
def sEl(d:List Bys)(k:Nat):List AVal:=d.map AVal.str++List.replicate k (.str [])
theorem sEl_bare(d:List Bys)(k:Nat): ∀ e∈sEl d k,Bare e:=by
  intro e he
  rcases List.mem_append.1 he with h | h
  · obtain⟨w,_,rfl⟩:=List.mem_map.1 h;exact Bare.str w
  · rw [(List.mem_replicate.1 h).2];exact Bare.str []
theorem sEl_get(d:List Bys)(k:Nat):(sEl d (k+1))[d.length]? =some (.str []):=by
  unfold sEl
  rw [List.getElem?_append_right (by simp)]
  simp
theorem sEl_set(d:List Bys)(k:Nat)(w:Bys):(sEl d (k+1)).set d.length (.str w)=sEl (d++ [w]) k:=by
  unfold sEl
  rw [List.set_append_right _ _ (by simp),List.replicate_succ]
  simp
abbrev spF(c:UInt8)(s:Bys)(n i:Nat):Facts:= [(0,.str s),(1,.str [c]),(2,.int .i64 0),(3,.int .i64 (n:Nat)),(9,.slice (some ⟨50,0,0,0,1⟩) (n+1) (n+1)),(10,.int .i64 (i:Nat))]
theorem clo50s {l c:Nat} :Clo (Go.Lift.Ids [50]) (.slice (some ⟨50,0,0,0,1⟩) l c):=(by show(50:Nat)∈ [50];simp)
theorem sp_ent {c:UInt8}{s:Bys}{n i:Nat}{h:AHeap}{d:List Bys}{k:Nat}(hg:h.get 50=some (sRow (sEl d k) 0)):Ent 0 66 (spF c s n i) h (spF c s n i) (AHeap.rows 60 [(50,sRow (sEl d k) 0)]) :=
  Ent.drop (K:=60) (l:= [(50,sRow (sEl d k) 0)]) (by simp [hg]) rfl rfl rfl (All.cons trivial (All.cons trivial (All.cons trivial (All.cons trivial (All.cons clo50s (All.cons trivial All.nil)))))) (All.cons (fun e he=>(sEl_bare d k e he).clo _) All.nil)
theorem split_loop (c:UInt8) (n:Nat) (hn:n<2^40): ∀ (k:Nat) (s:Bys) (d:List Bys),s.count c=k→d.length+k=n→s.length<2^40→ ∃ (t:Bys) (d':List Bys),d'++ [t]=d++partsAt c s∧d'.length=n ∧
    Loops Tryz.prog cnd 0 66 (loopAt Tryz.prog 81 0) (spF c s n d.length) (AHeap.rows 60 [(50,sRow (sEl d (k+1)) 0)]) (.exit 0) (spF c t n n) (AHeap.rows 60 [(50,sRow (sEl d' 1) 0)]):=by
  intro k
  induction k with
  | zero =>
    intro s d hk hd hs
    obtain rfl:n=d.length:=by omega
    obtain⟨e,F1,h1,hr,rfl,rfl,hg⟩:=splitS_vp c s (d.length+1) d.length d.length 0 (sEl d 1) (fun e F1 h1=>e= .exit 0∧F1=spF c s d.length d.length∧h1.get 50=some (sRow (sEl d 1) 0)) ⟨fun h=>by omega,fun _=>⟨rfl,rfl,rfl⟩⟩
    exact⟨s,d,by rw [parts_none hk],rfl,(Loops.last (by simp) hr).post (sp_ent hg)⟩
  | succ k ih =>
    intro s d hk hd hs
    obtain⟨m,e1,e2,e3,e4⟩:=parts_step (c:=c) (s:=s) (by omega)
    obtain⟨e,F1,h1,hr,rfl,rfl,hg⟩:=splitS_vp c s (n+1) n d.length m (sEl d (k+1+1)) (fun e F1 h1=>e= .normal∧F1=spF c (s.drop (m+1)) n (d.length+1)∧h1.get 50=some (sRow (sEl (d++ [s.take m]) (k+1)) 0)) (by
      have si:((d.length:Int)+1)=((d.length+1:Nat):Int):=by omega
      have st:0+Int.toNat (d.length:Int)=d.length:=by simp
      refine⟨fun _=>⟨⟨?_⟩,⟨by omega,by omega⟩,⟨by omega,by omega⟩,⟨by omega,by omega⟩,⟨rfl,by rw [st];exact sEl_get d (k+1)⟩,⟨by omega,by omega⟩,⟨by omega,by omega⟩,⟨by omega,by omega⟩,rfl,by rw [si],?_⟩,fun h=>by omega⟩
      · have:=sindex_does s c (AHeap.rowsT 67 [(50,ABlk.made (sEl d (k+1+1)) 1 true)])
        rw [e1]at this;exact this
      · rw [← sEl_set d (k+1) (s.take m),st,Nat.add_zero];rfl)
    obtain⟨t,d',h1',h2,h3⟩:=ih (s.drop (m+1)) (d++ [s.take m]) (by omega) (by simp;omega) (by rw [List.length_drop];omega)
    refine⟨t,d',?_,h2,?_⟩
    · rw [h1',e3];simp
    · have el:(d++ [s.take m]).length=d.length+1:=by simp
      rw [show spF c (s.drop (m+1)) n (d++ [s.take m]).length=spF c (s.drop (m+1)) n (d.length+1)by rw [el]]at h3
      exact Loops.round hr (sp_ent hg) h3
theorem genSplit_does (c:UInt8) (s:Bys) (hs:s.length<2^40) (H:AHeap):FDoes Tryz.prog cnd 81 [.str s,.str [c],.int .i64 0,.int .i64 (-1)] H
    (.slice (some ⟨H.next,0,0,0,1⟩) (partsAt c s).length (partsAt c s).length) (H.upd [] [sRow ((partsAt c s).map AVal.str) 0]):=by
  have hk:s.count c≤s.length:=List.count_le_length
  obtain⟨t,d',h1,h2,h3⟩:=split_loop c (s.count c) (by omega) (s.count c) s [] rfl (by simp) hs
  have hc: ¬ ((s.length:Int)+1<(s.count c:Int)+1):=by omega
  have hn:Int.toNat ((s.count c:Int)+1)=s.count c+1:=by omega
  have h0:=count_does s c (AHeap.rowsT 12 [])
  obtain ⟨v,h4,hd,hv,hg⟩:=split_vc c s t (s.count c+1) (s.count c) (s.count c) (sEl d' 1) (fun v h4=>v= .slice (some ⟨50,0,0,0,1⟩) (s.count c+1) (s.count c+1)∧h4.get 50=some (sRow ((partsAt c s).map AVal.str) 0)) (by
    rw [if_neg hc,hn]
    refine⟨⟨h0⟩,⟨by omega,by omega⟩,⟨by omega,by omega⟩,⟨by omega,by omega,by omega,by omega⟩,⟨by omega,by omega⟩,?_,⟨by omega,by omega⟩,⟨rfl,?_⟩,⟨by omega,by omega⟩,⟨by omega,by omega⟩,rfl,?_⟩
    · have hL :=Runs.of_loops (h3.pre (Ent.move (F:= [(0,AVal.str s),(1,AVal.str [c]),(2,AVal.int .i64 0),(3,AVal.int .i64 ((s.count c:Int)+1-1)),(9,AVal.slice (some ⟨19,0,0,0,1⟩) (s.count c+1) (s.count c+1)),(10,AVal.int .i64 0)]) (h:=AHeap.rowsT 25 [(19,ABlk.made (List.replicate (s.count c+1) (AVal.str [])) 1 true)]) (K:=60) (l:= [(50,sRow (sEl [] (s.count c+1)) 0)]) (fun _=>19) ?_ rfl (by simp) rfl rfl ?_ rfl (All.cons trivial (All.cons trivial (All.cons trivial (All.cons trivial (All.cons clo50s (All.cons trivial All.nil)))))) (All.cons (fun e he=>(sEl_bare [] _ e he).clo _) All.nil)))
      · exact (hL.post (Ent.facts (G:= [(0,AVal.str t),(9,AVal.slice (some ⟨50,0,0,0,1⟩) (s.count c+1) (s.count c+1)),(10,AVal.int .i64 (s.count c:Nat))]) (by
          intro j u hu
          rw [lookF_cons]at hu
          split at hu
          · rename_i hj;subst hj;rw [← hu];rfl
          · rw [lookF_cons]at hu
            split at hu
            · rename_i hj;subst hj;rw [← hu];rfl
            · rw [lookF_cons]at hu
              split at hu
              · rename_i hj;subst hj;rw [← hu];rfl
              · cases hu))).post (by
            have:AHeap.rows 60 [(50,sRow (sEl d' 1) 0)]=AHeap.rowsT 60 [(50,sRow (sEl d' 1) 0)]:=by kernel_rfl
            rw [this];exact Ent.refl _ _ _ _)
      · simp only [List.map_cons,List.map_nil]
        rw [show(sRow (sEl [] (s.count c+1)) 0).ren (fun _=>19)=sRow (sEl [] (s.count c+1)) 0 from BareB.ren (b:=sRow (sEl [] (s.count c+1)) 0) (sEl_bare [] _) _]
        rfl
      · simp [AVal.ren,AAddr.ren]
    · have:=sEl_get d' 0
      rw [h2]at this
      simpa using this
    · have:=sEl_set d' 0 t
      rw [h2,h1]at this
      show some (ABlk.made (List.set (sEl d' 1) (0+Int.toNat (s.count c:Int)) (AVal.str t)) 1 true)=_
      rw [show 0+Int.toNat (s.count c:Int)=s.count c by simp,this]
      simp [sEl,ABlk.made])
  subst hv
  rw [partsAt_len]
  exact FDoes.new1 (l:= []) (bn:=sRow ((partsAt c s).map AVal.str) 0) hd (fun b hb=>by cases hb) (by
    intro e he
    obtain⟨w,_,rfl⟩:=List.mem_map.1 he
    exact Bare.str w) rfl hg (by simp) (by exact⟨trivial,trivial,trivial,trivial,trivial⟩) [] List.nodup_nil (fun j hj=>by cases hj) rfl
end Go.Proofs.YtjpfnbihopoeeaaGreatDoor
namespace Go.Proofs.YtjpfnbihopoeeaaGreatDoor
open Go.Lift
set_option maxRecDepth 1000000
noncomputable def genS:List AVal→AHeap→Option Alts:=fun args h=>match args with
  | [.str s,.str [c],.int .i64 a,.int .i64 b]=>some (.one (.slice (some ⟨h.next,0,0,0,1⟩) (partsAt c s).length (partsAt c s).length) (h.upd [] [sRow ((partsAt c s).map AVal.str) 0]) [a=0,b= -1,s.length<2^40])
  | _=>none
theorem genS_ok: ∀ args h a,genS args h=some a→a.Ok Tryz.prog cnd 81 args h:=by
  intro args h a e
  unfold genS at e
  split at e<;>first | (cases e;done) | skip
  simp only [Option.some.injEq]at e
  subst e
  intro hp
  rw [hp.head,hp.tail.head]
  exact genSplit_does _ _ hp.tail.tail.head h
noncomputable def specsG:Specs:=noSpecs.add 81 genS
theorem specsG_ok:SpecsOk Tryz.prog cnd specsG:=noSpecs_ok.add genS_ok
theorem splitW_vc(c:UInt8)(s:Bys)(K0:AVal→AHeap→Prop)(vc:(0:Int)=0∧(-1:Int)= -1∧List.length s<1099511627776∧K0 (AVal.slice (some ⟨5,0,0,0,1⟩) (List.length (partsAt c s)) (List.length (partsAt c s))) (AHeap.upd (AHeap.rowsT 5 []) [] [(ABlk.made (List.map AVal.str (partsAt c s)) 1 true)])) :
    ∃ v h1,FDoes Tryz.prog cnd 43 [.str s,.str [c]] (⟨0,.nil⟩) v h1∧K0 v h1 :=
  tcall_does env_ok mixed specsG_ok (hs:= .nil) (by kernel_rfl) vc
end Go.Proofs.YtjpfnbihopoeeaaGreatDoor
namespace Go.Proofs.YtjpfnbihopoeeaaGreatDoor
open Go.Lift
set_option maxRecDepth 1000000
theorem split_does(c:UInt8)(s:Bys)(hs:s.length<2^40)(H:AHeap):FDoes Tryz.prog cnd 43 [.str s,.str [c]] H (.slice (some ⟨H.next,0,0,0,1⟩) (partsAt c s).length (partsAt c s).length) (H.upd [] [sRow ((partsAt c s).map AVal.str) 0]):=by
  obtain⟨v,h1,hd,j,rfl,hg⟩:=splitW_vc c s (fun v h1=> ∃ j,v= .slice (some ⟨j,0,0,0,1⟩) (partsAt c s).length (partsAt c s).length∧h1.get j=some (sRow ((partsAt c s).map AVal.str) 0)) ⟨rfl,rfl,hs,_,rfl,rfl⟩
  exact FDoes.new1 (l:= []) (bn:=sRow ((partsAt c s).map AVal.str) 0) hd (fun b hb=>by cases hb) (by
    intro e he
    obtain⟨w,_,rfl⟩:=List.mem_map.1 he
    exact Bare.str w) rfl hg (by simp) (by exact⟨trivial,trivial,trivial⟩) [] List.nodup_nil (fun j hj=>by cases hj) rfl
end Go.Proofs.YtjpfnbihopoeeaaGreatDoor
namespace Go.Proofs.YtjpfnbihopoeeaaGreatDoor
open Go.Lift
set_option maxRecDepth 1000000
end Go.Proofs.YtjpfnbihopoeeaaGreatDoor
namespace Go.Proofs.YtjpfnbihopoeeaaGreatDoor
open Go.Lift Go.Shelf Go.RowKit
set_option maxRecDepth 1000000
end Go.Proofs.YtjpfnbihopoeeaaGreatDoor
namespace Go.Proofs.YtjpfnbihopoeeaaGreatDoor
open Go.Lift
set_option maxRecDepth 1000000
end Go.Proofs.YtjpfnbihopoeeaaGreatDoor
namespace Go.Proofs.YtjpfnbihopoeeaaGreatDoor
open Go.Lift
set_option maxRecDepth 1000000
theorem str_at(t:Bytes)(i:Nat)(hi:i<t.length):aindex (AEnv.D env) 9 (.str t) (.int .i64 (i:Nat))=some (.int .u8 ((t[i]).toNat:Nat)):=by
  have hD:(AEnv.D env 9).map (fun d=>d.kind)=some .string:=by kernel_rfl
  obtain⟨d,h1,h2⟩:=Option.map_eq_some_iff.1 hD
  unfold aindex
  rw [h1]
  simp only [h2]
  rw [if_pos (by omega)]
  simp [hi]
end Go.Proofs.YtjpfnbihopoeeaaGreatDoor
namespace Go.Proofs.YtjpfnbihopoeeaaGreatDoor
open Go.Lift
set_option maxRecDepth 1000000
end Go.Proofs.YtjpfnbihopoeeaaGreatDoor
namespace Go.Proofs.YtjpfnbihopoeeaaGreatDoor
open Go.Lift
set_option maxRecDepth 1000000
end Go.Proofs.YtjpfnbihopoeeaaGreatDoor
namespace Go.Proofs.YtjpfnbihopoeeaaGreatDoor
open Go.Lift
set_option maxRecDepth 1000000
end Go.Proofs.YtjpfnbihopoeeaaGreatDoor
namespace Go.Proofs.YtjpfnbihopoeeaaGreatDoor
open Go.Lift
set_option maxRecDepth 1000000
end Go.Proofs.YtjpfnbihopoeeaaGreatDoor
namespace Go.Proofs.YtjpfnbihopoeeaaGreatDoor
open Go.Lift
set_option maxRecDepth 1000000
abbrev up(H:AHeap)(m:Nat):AHeap:=⟨H.next+m,H.blks⟩
theorem condL {a b:Nat}{p:Prop}(h:a≤b)(k:p):_root_.cond (Nat.ble a b) p False:=by rw [Nat.ble_eq.mpr h];exact k
theorem bifL {a b:Nat}{p:Prop}(h:a≤b)(k:p):bif Nat.ble a b && true then p else False:=by rw [Nat.ble_eq.mpr h];exact k
theorem bump {f:FuncId}{args:List AVal}{H h':AHeap}{v:AVal}{n:Nat}(k:FDoes Tryz.prog cnd f args H v h')(hn:h'.next≤n):FDoes Tryz.prog cnd f args H v ⟨n,h'.blks⟩:=by
  intro S w0 hS hC0 φ w args' hH hB hA
  obtain⟨g1,g2⟩:=k S w0 hS hC0 φ w args' hH hB hA
  exact⟨g1,g2.mono fun e w' ⟨v',φ',a1,a2,a3,a4,a5,a6⟩=>⟨v',φ',a1,a2,a3,a4.next hn,a5,Nat.le_trans a6 hn⟩⟩
end Go.Proofs.YtjpfnbihopoeeaaGreatDoor
namespace Go.Proofs.YtjpfnbihopoeeaaGreatDoor
open Go.Lift
set_option maxRecDepth 1000000
theorem ptN_vp(H:AHeap)(B:Nat)(s:Bys)(i a c x:Nat)(lv:AVal)(K0:AExit→Facts→AHeap→Prop)(vc:bif Nat.ble B (AHeap.next H) && true then some (AVal.bool (decide ((↑i:Int)<(↑(List.length s):Int))))=some (AVal.bool true)∧bif Nat.ble B (AHeap.next H+4) && true then aindex (AEnv.D env) 9 (AVal.str s) (AVal.int IntKind.i64 (↑i:Int))=some (AVal.int IntKind.u8 (↑x:Int))∧some (AVal.bool ((↑x:Int) == (↑c:Int)))=some (AVal.bool false)∧bif Nat.ble B (AHeap.next H+9) && true then(-9223372036854775808≤(↑i:Int)+1∧(↑i:Int)+1≤9223372036854775807)∧K0 AExit.normal [(0,AVal.str s),(1,AVal.int IntKind.u8 (↑c:Int)),(5,lv),(6,AVal.int IntKind.i64 (↑a:Int)),(7,AVal.int IntKind.i64 ((↑i:Int)+1))] (AHeap.mk (AHeap.next H+9+3) (AHeap.blks (AHeap.mk (AHeap.next H+4+5) (AHeap.blks (AHeap.mk (AHeap.next H+4) (AHeap.blks H))))))else False else False else False) :
    ∃ e F1 h1,Runs Tryz.prog cnd B 34 (loopAt Tryz.prog 42 0) [(0,.str s),(1,.int .u8 c),(5,lv),(6,.int .i64 a),(7,.int .i64 i)] H e F1 h1∧K0 e F1 h1 :=
  tpath_runs env_ok mixed noSpecs_ok (hs:= .hint (.val 4003 (AVal.bool true)) (.hint (.val 6002 (AVal.int IntKind.u8 (↑x:Int))) (.hint (.val 6004 (AVal.bool false)) (.hint (.go 5001) .nil)))) (keep:= [0,1,5,6,7]) (by kernel_rfl) vc
theorem ptE_vp(H:AHeap)(B:Nat)(s:Bys)(i a c x:Nat)(lv:AVal)(K0:AExit→Facts→AHeap→Prop)(vc:bif Nat.ble B (AHeap.next H) && true then some (AVal.bool (decide ((↑i:Int)<(↑(List.length s):Int))))=some (AVal.bool false)∧K0 (AExit.exit 0) [(0,AVal.str s),(1,AVal.int IntKind.u8 (↑c:Int)),(5,lv),(6,AVal.int IntKind.i64 (↑a:Int)),(7,AVal.int IntKind.i64 (↑i:Int))] (AHeap.mk (AHeap.next H+4) (AHeap.blks H))else False) :
    ∃ e F1 h1,Runs Tryz.prog cnd B 34 (loopAt Tryz.prog 42 0) [(0,.str s),(1,.int .u8 c),(5,lv),(6,.int .i64 a),(7,.int .i64 i)] H e F1 h1∧K0 e F1 h1 :=
  tpath_runs env_ok mixed noSpecs_ok (hs:= .hint (.val 4003 (AVal.bool false)) .nil) (keep:= [0,1,5,6,7]) (by kernel_rfl) vc
theorem ptY_vp(H H1 H2:AHeap)(B:Nat)(s:Bys)(i a c x q:Nat)(lv lv2:AVal)(K0:AExit→Facts→AHeap→Prop)(vc:bif Nat.ble B (AHeap.next H) && true then some (AVal.bool (decide ((↑i:Int)<(↑(List.length s):Int))))=some (AVal.bool true)∧bif Nat.ble B (AHeap.next H+4) && true then aindex (AEnv.D env) 9 (AVal.str s) (AVal.int IntKind.i64 (↑i:Int))=some (AVal.int IntKind.u8 (↑x:Int))∧some (AVal.bool ((↑x:Int) == (↑c:Int)))=some (AVal.bool true)∧bif Nat.ble B (AHeap.next H+9) && true then(0≤(↑a:Int)∧(↑a:Int)≤(↑i:Int)∧(↑i:Int)≤(↑(List.length s):Int))∧aop env noCall (AHeap.next H+14) (getF [(23,AVal.str (List.drop a (List.take i s))),(22,AVal.int IntKind.i64 (↑i:Int)),(21,AVal.int IntKind.i64 (↑a:Int)),(20,AVal.str s),(19,lv),(18,AVal.bool true),(17,AVal.int IntKind.u8 (↑c:Int)),(16,AVal.int IntKind.u8 (↑x:Int)),(15,AVal.int IntKind.i64 (↑i:Int)),(14,AVal.str s),(11,AVal.bool true),(10,AVal.int IntKind.i64 (↑(List.length s):Int)),(9,AVal.str s),(8,AVal.int IntKind.i64 (↑i:Int)),(0,AVal.str s),(1,AVal.int IntKind.u8 (↑c:Int)),(5,lv),(6,AVal.int IntKind.i64 (↑a:Int)),(7,AVal.int IntKind.i64 (↑i:Int))]) (AHeap.mk (AHeap.next H+17) (H.2)) (Op.buildSlice 36 1 {toList:= [(0,Operand.tmp 23)]})=some (AVal.slice (some ⟨q,0,0,0,1⟩) 1 1,H1)∧abuiltin env Builtin.append {toList:= [36,36]} [lv,AVal.slice (some ⟨q,0,0,0,1⟩) 1 1] (AHeap.next H+15) H1=some (lv2,H2)∧bif Nat.ble B (AHeap.next H2) && true then(-9223372036854775808≤(↑i:Int)+1∧(↑i:Int)+1≤9223372036854775807)∧bif Nat.ble B (AHeap.next H2+3) && true then(-9223372036854775808≤(↑i:Int)+1∧(↑i:Int)+1≤9223372036854775807)∧K0 AExit.normal [(0,AVal.str s),(1,AVal.int IntKind.u8 (↑c:Int)),(5,lv2),(6,AVal.int IntKind.i64 ((↑i:Int)+1)),(7,AVal.int IntKind.i64 ((↑i:Int)+1))] (AHeap.mk (AHeap.next H2+3+3) (AHeap.blks (AHeap.mk (AHeap.next H2+3) (AHeap.blks H2))))else False else False else False else False else False) :
    ∃ e F1 h1,Runs Tryz.prog cnd B 34 (loopAt Tryz.prog 42 0) [(0,.str s),(1,.int .u8 c),(5,lv),(6,.int .i64 a),(7,.int .i64 i)] H e F1 h1∧K0 e F1 h1 :=
  tpath_runs env_ok mixed noSpecs_ok (hs:= .hint (.val 4003 (AVal.bool true)) (.hint (.val 6002 (AVal.int IntKind.u8 (↑x:Int))) (.hint (.val 6004 (AVal.bool true)) (.hint (.go 7004) (.hint (.act 7005 (AVal.slice (some ⟨q,0,0,0,1⟩) 1 1) fun x=>H1) (.hint (.act 7006 lv2 fun x=>H2) (.hint (.go 8001) (.hint (.go 5001) .nil)))))))) (keep:= [0,1,5,6,7]) (by kernel_rfl) vc
end Go.Proofs.YtjpfnbihopoeeaaGreatDoor
namespace Go.Proofs.YtjpfnbihopoeeaaGreatDoor
open Go.Lift
theorem partsAt_cons_ne {c b:UInt8}(h: ¬b=c)(r:Bys): ∃ w t,partsAt c r=w::t∧partsAt c (b::r)=(b::w)::t:=by
  cases hs:partsAt c r with
  | nil=>exact absurd hs (partsAt_ne c r)
  | cons w t=>exact⟨w,t,rfl,by rw [partsAt,if_neg h,hs]⟩
theorem partsAt_mid(c:UInt8)(r:Bys): ∀ w:Bys,(∀ x∈w,¬x=c)→partsAt c (w++c::r)=w::partsAt c r:=by
  intro w
  induction w with
  | nil=>intro _;rw [List.nil_append,partsAt,if_pos rfl]
  | cons b w ih =>
    intro h
    obtain⟨u,t,e1,e2⟩:=partsAt_cons_ne (h b List.mem_cons_self) (w++c::r)
    rw [ih (fun x hx=>h x (List.mem_cons_of_mem _ hx))]at e1
    cases e1
    exact e2
theorem partsAt_end(c:UInt8): ∀ w:Bys,(∀ x∈w,¬x=c)→partsAt c w= [w]:=by
  intro w
  induction w with
  | nil=>intro _;rfl
  | cons b w ih =>
    intro h
    obtain⟨u,t,e1,e2⟩:=partsAt_cons_ne (h b List.mem_cons_self) w
    rw [ih (fun x hx=>h x (List.mem_cons_of_mem _ hx))]at e1
    cases e1
    exact e2
def ptGo(c:UInt8)(s:Bys):Nat→Nat→Nat→List Bys→List Bys
  | 0,_,a,l=>l++ [s.drop a]
  | m+1,i,a,l=>if(s.getD i 0)=c then ptGo c s m (i+1) (i+1) (l++ [(s.take i).drop a])else ptGo c s m (i+1) a l
theorem ptGo_parts (c:UInt8) (s:Bys): ∀ (m i a:Nat) (l:List Bys),i+m=s.length→a≤i→(∀ x∈(s.take i).drop a,¬x=c)→ptGo c s m i a l=l++partsAt c (s.drop a):=by
  intro m
  induction m with
  | zero =>
    intro i a l hi ha hn
    obtain rfl:i=s.length:=by omega
    rw [List.take_length]at hn
    rw [partsAt_end c _ hn];rfl
  | succ m ih =>
    intro i a l hi ha hn
    have hlt:i<s.length:=by omega
    have hg:s.getD i 0=s[i]:=by simp [List.getD,hlt]
    have hsp:s.drop a=(s.take i).drop a++s[i]::s.drop (i+1):=by
      have h1:s=s.take i++s[i]::s.drop (i+1):=by rw [← List.drop_eq_getElem_cons hlt,List.take_append_drop]
      have h2:s.drop a=(s.take i++s[i]::s.drop (i+1)).drop a:=by rw [← h1]
      rw [h2,List.drop_append_of_le_length (by rw [List.length_take];omega)]
    unfold ptGo
    rw [hg]
    by_cases hc:s[i]=c
    · rw [if_pos hc,ih (i+1) (i+1) _ (by omega) (Nat.le_refl _) (by
        intro x hx
        rw [List.drop_eq_nil_of_le (by rw [List.length_take];omega)]at hx
        cases hx),hsp,hc,partsAt_mid c _ _ hn]
      simp
    · rw [if_neg hc]
      refine ih (i+1) a l (by omega) (by omega) ?_
      intro x hx
      rw [List.take_succ_eq_append_getElem hlt,List.drop_append_of_le_length (by rw [List.length_take];omega)]at hx
      rcases List.mem_append.1 hx with hx | hx
      · exact hn x hx
      · rw [List.mem_singleton.1 hx];exact hc
theorem ptGo_all(c:UInt8)(s:Bys):ptGo c s s.length 0 0 []=partsAt c s:=by
  have:=ptGo_parts c s s.length 0 0 [] (by omega) (Nat.le_refl _) (by intro x hx;simp at hx)
  simpa using this
end Go.Proofs.YtjpfnbihopoeeaaGreatDoor
namespace Go.Proofs.YtjpfnbihopoeeaaGreatDoor
open Go.Lift
set_option maxRecDepth 1000000
theorem slTx:SlTy env.D 36 9 1 16:=by
  have h1:(env.D 9).map (fun x=>(x.size,x.bytes,x.zeroFits))=some (1,16,true):=by kernel_rfl
  have h2:(env.D 36).map (fun x=>x.kind)=some (.slice 9):=by kernel_rfl
  obtain⟨x,hx,k⟩:=Option.map_eq_some_iff.1 h1
  obtain⟨d,hd,kd⟩:=Option.map_eq_some_iff.1 h2
  simp only [Prod.mk.injEq]at k
  exact⟨d,x,hd,kd,hx,k.1,k.2.1,by decide,k.2.2⟩
def TL(H:AHeap)(B:Nat)(v:AVal)(l:List Bys):Prop :=
  (v= .slice none 0 0∧l= [])∨ ∃ j b,v= .slice (some ⟨j,b.ver,0,0,1⟩) l.length l.length∧l≠ []∧B≤j∧j<H.next∧H.get j=some b∧b.elems=l.map AVal.str∧b.exact=false∧b.ro=false∧(b.ty=none∨b.ty=some (9,0))
theorem TL.up {H H':AHeap}{B:Nat}{v:AVal}{l:List Bys}(h:TL H B v l)(hn:H.next≤H'.next)(hg: ∀ i,i<H.next→H'.get i=H.get i):TL H' B v l:=by
  rcases h with h | ⟨j,b,h1,h2,h3,h4,h5,h6⟩
  · exact .inl h
  · exact .inr ⟨j,b,h1,h2,h3,Nat.lt_of_lt_of_le h4 hn,(hg j h4).trans h5,h6⟩
theorem TL.app {H:AHeap}{B nid:Nat}{v x:AVal}{l:List Bys}{w:Bys}(h:TL H B v l)(hx:elemsOf 1 x H=some [.str w])(hB:B≤nid)(hn:nid<H.next)(hl:l.length<2^40) :
    ∃ v2 H2,abuiltin env .append #[36,36] [v,x] nid H=some (v2,H2)∧TL H2 B v2 (l++ [w])∧H2.next=H.next∧ ∀ i,i<B→H2.get i=H.get i:=by
  rcases h with ⟨rfl,rfl⟩ | ⟨j,b,rfl,h2,h3,h4,h5,h6,h7,h8,h9⟩
  · refine⟨_,_,app_new slTx hx (by simp) (by simp) (by simp),?_,rfl,fun i hi=>AHeap.get_set_ne _ _ (by omega)⟩
    exact .inr ⟨nid,.made [.str w] 1 false (some (9,0)),rfl,by simp,hB,hn,AHeap.get_set_self _ _ _,rfl,rfl,rfl,.inr rfl⟩
  · have e:=app_grow (nid:=nid) slTx hx (by simp) (a:=⟨j,b.ver,0,0,1⟩) (len:=l.length) (cap:=l.length) (b:=b) (by simp;omega) (by simp;omega) h5 ⟨rfl,rfl⟩ (by simp) h7 h8 rfl (by rw [h6];simp) h9
    refine⟨_,_,e,?_,rfl,fun i hi=>AHeap.get_set_ne _ _ (by show j≠i;omega)⟩
    exact .inr ⟨j,b.grow [.str w],by simp [ABlk.grow],by simp,h3,h4,AHeap.get_set_self _ _ _,by simp [ABlk.grow,h6],by simp [ABlk.grow,h7],by simp [ABlk.grow,h8],by simpa [ABlk.grow]using h9⟩
end Go.Proofs.YtjpfnbihopoeeaaGreatDoor
namespace Go.Proofs.YtjpfnbihopoeeaaGreatDoor
open Go.Lift
set_option maxRecDepth 1000000
noncomputable abbrev ptC:Code:=loopAt Tryz.prog 42 0
abbrev ptF(s:Bys)(c:UInt8)(v:AVal)(a i:Nat):Facts:= [(0,.str s),(1,.int .u8 (c.toNat:Nat)),(5,v),(6,.int .i64 (a:Nat)),(7,.int .i64 (i:Nat))]
theorem pt_end {B:Nat}{s:Bys}{c:UInt8}{v:AVal}{a i:Nat}{H:AHeap}(hB:B≤H.next)(hi: ¬ i<s.length) :
    Loops Tryz.prog cnd B 34 ptC (ptF s c v a i) H (.exit 0) (ptF s c v a i) (up H 4):=by
  obtain⟨e,F1,h1,hr,rfl,rfl,rfl⟩:=ptE_vp H B s i a c.toNat 0 v (fun e F1 h1=>e= .exit 0∧F1=ptF s c v a i∧h1=up H 4) (bifL (by omega) ⟨by simp;omega,rfl,rfl,rfl⟩)
  exact Loops.last (by simp) hr
theorem pt_no {B:Nat}{s:Bys}{c:UInt8}{v:AVal}{a i:Nat}{H:AHeap}(hB:B≤H.next)(hi:i<s.length)(hs:s.length<2^40)(hc: ¬ s[i]=c) :
    Runs Tryz.prog cnd B 34 ptC (ptF s c v a i) H .normal (ptF s c v a (i+1)) (up H 12):=by
  have hne: ¬ s[i].toNat=c.toNat:=fun h=>hc (UInt8.toNat_inj.1 h)
  obtain⟨e,F1,h1,hr,rfl,rfl,rfl⟩:=ptN_vp H B s i a c.toNat s[i].toNat v (fun e F1 h1=>e= .normal∧F1=ptF s c v a (i+1)∧h1=up H 12)
    (bifL (by omega) ⟨by simp [hi],bifL (by omega) ⟨str_at s i hi,by simp;omega,bifL (by omega) ⟨⟨by omega,by omega⟩,rfl,by rw [show((i:Int)+1)=((i+1:Nat):Int)by omega],rfl⟩⟩⟩)
  exact hr
theorem pt_yes {B:Nat}{s:Bys}{c:UInt8}{v:AVal}{a i:Nat}{H:AHeap}{l:List Bys}(h:TL H B v l)(hl:l.length<2^40)(hB:B≤H.next)(hi:i<s.length)(ha:a≤i)(hs:s.length<2^40)(hc:s[i]=c) :
    ∃ v2 H',Runs Tryz.prog cnd B 34 ptC (ptF s c v a i) H .normal (ptF s c v2 (i+1) (i+1)) H'∧TL H' B v2 (l++ [(s.take i).drop a])∧B≤H'.next∧ ∀ j,j<B→H'.get j=H.get j:=by
  let H1:AHeap:=(up H 17).set (H.next+14) (ABlk.made [.str ((s.take i).drop a)] 1 true)
  have hT:TL H1 B v l:=h.up (by show H.next≤H.next+17;omega) (fun j hj=>AHeap.get_set_ne _ _ (by omega))
  obtain⟨v2,H2,e2,t2,n2,o2⟩:=hT.app (nid:=H.next+15) (x:= .slice (some ⟨H.next+14,0,0,0,1⟩) 1 1) (w:=(s.take i).drop a) (by
      have hg:H1.get (H.next+14)=some (ABlk.made [.str ((s.take i).drop a)] 1 true):=AHeap.get_set_self _ _ _
      simp [elemsOf,hg]
      exact⟨⟨Nat.le_refl 1,Nat.le_refl 1⟩,rfl⟩) (by omega) (by show H.next+15<H.next+17;omega) hl
  have n2:H2.next=H.next+17:=n2
  obtain⟨e,F1,h1,hr,rfl,rfl,rfl⟩:=ptY_vp H H1 H2 B s i a c.toNat s[i].toNat (H.next+14) v v2 (fun e F1 h1=>e= .normal∧F1=ptF s c v2 (i+1) (i+1)∧h1=up H2 6)
    (bifL (by omega) ⟨by simp [hi],bifL (by omega) ⟨str_at s i hi,by simp [hc],bifL (by omega) ⟨⟨by omega,by omega,by omega⟩,rfl,e2,bifL (by omega) ⟨⟨by omega,by omega⟩,bifL (by omega) ⟨⟨by omega,by omega⟩,rfl,by rw [show((i:Int)+1)=((i+1:Nat):Int)by omega],rfl⟩⟩⟩⟩⟩)
  refine⟨v2,_,hr,t2.up (by show H2.next≤H2.next+6;omega) (fun j _=>rfl),by show B≤H2.next+6;omega,fun j hj=> ?_⟩
  show H2.get j=H.get j
  rw [o2 j hj]
  exact AHeap.get_set_ne _ _ (by omega)
end Go.Proofs.YtjpfnbihopoeeaaGreatDoor
namespace Go.Proofs.YtjpfnbihopoeeaaGreatDoor
open Go.Lift
set_option maxRecDepth 1000000
theorem pt_loop(B:Nat)(s:Bys)(c:UInt8)(hs:s.length<2^39): ∀ (m i a:Nat) (l:List Bys) (v:AVal) (H:AHeap),i+m=s.length→a≤i→l.length≤i→TL H B v l→B≤H.next →
    ∃ v' a' l' H',Loops Tryz.prog cnd B 34 ptC (ptF s c v a i) H (.exit 0) (ptF s c v' a' s.length) H'∧TL H' B v' l'∧l'++ [s.drop a']=ptGo c s m i a l∧a'≤s.length∧l'.length≤s.length∧B≤H'.next∧ ∀ j,j<B→H'.get j=H.get j:=by
  intro m
  induction m with
  | zero =>
    intro i a l v H hi ha hl hT hB
    obtain rfl:i=s.length:=by omega
    exact⟨v,a,l,_,pt_end hB (by omega),hT.up (by show H.next≤H.next+4;omega) (fun _ _=>rfl),rfl,ha,hl,by show B≤H.next+4;omega,fun _ _=>rfl⟩
  | succ m ih =>
    intro i a l v H hi ha hl hT hB
    have hlt:i<s.length:=by omega
    have hg:s.getD i 0=s[i]:=by simp [List.getD,hlt]
    by_cases hc:s[i]=c
    · obtain⟨v2,H2,hr,t2,b2,o2⟩:=pt_yes hT (by omega) hB hlt ha (by omega) hc
      obtain⟨v',a',l',H',k1,k2,k3,k4,k5,k6,k7⟩:=ih (i+1) (i+1) _ v2 H2 (by omega) (Nat.le_refl _) (by simp;omega) t2 b2
      refine⟨v',a',l',H',Loops.round hr (Ent.refl _ _ _ _) k1,k2,?_,k4,k5,k6,fun j hj=>(k7 j hj).trans (o2 j hj)⟩
      rw [k3]
      conv=>rhs;unfold ptGo
      rw [hg,if_pos hc]
    · obtain⟨v',a',l',H',k1,k2,k3,k4,k5,k6,k7⟩:=ih (i+1) a l v (up H 12) (by omega) (by omega) (by omega) (hT.up (by show H.next≤H.next+12;omega) (fun _ _=>rfl)) (by show B≤H.next+12;omega)
      refine⟨v',a',l',H',Loops.round (pt_no hB hlt (by omega) hc) (Ent.refl _ _ _ _) k1,k2,?_,k4,k5,k6,fun j hj=>k7 j hj⟩
      rw [k3]
      conv=>rhs;unfold ptGo
      rw [hg,if_neg hc]
end Go.Proofs.YtjpfnbihopoeeaaGreatDoor
namespace Go.Proofs.YtjpfnbihopoeeaaGreatDoor
open Go.Lift
set_option maxRecDepth 1000000
theorem parts_vc(H H1 H2 H3:AHeap)(s:Bys)(c a q:Nat)(v v2:AVal)(K0:AVal→AHeap→Prop)(vc:bif Nat.ble (AHeap.next H) (AHeap.next H) && true then bif Nat.ble (AHeap.next H) (AHeap.next H+1) && true then bif Nat.ble (AHeap.next H) (AHeap.next H+2) && true then bif Nat.ble (AHeap.next H) (AHeap.next H+3) && true then Runs Tryz.prog cnd (AHeap.next H) 34 (Code.loop (loopAt Tryz.prog 42 0)) [(0,AVal.str s),(1,AVal.int IntKind.u8 (↑c:Int)),(5,AVal.slice none 0 0),(6,AVal.int IntKind.i64 (0)),(7,AVal.int IntKind.i64 (0))] (AHeap.mk (AHeap.next H+3+1) (AHeap.blks (AHeap.mk (AHeap.next H+2+1) (AHeap.blks (AHeap.mk (AHeap.next H+1+1) (AHeap.blks (AHeap.mk (AHeap.next H+1) (AHeap.blks H)))))))) (AExit.exit 0) [(0,AVal.str s),(1,AVal.int IntKind.u8 (↑c:Int)),(5,v),(6,AVal.int IntKind.i64 (↑a:Int))] H1∧bif Nat.ble (AHeap.next H) (AHeap.next H1) && true then(0≤(↑a:Int)∧(↑a:Int)≤(↑(List.length s):Int))∧aop env noCall (AHeap.next H1+4) (getF [(31,AVal.str (List.drop a s)),(30,AVal.int IntKind.i64 (↑a:Int)),(29,AVal.str s),(28,v),(0,AVal.str s),(1,AVal.int IntKind.u8 (↑c:Int)),(5,v),(6,AVal.int IntKind.i64 (↑a:Int))]) (AHeap.mk (AHeap.next H1+7) (H1.2)) (Op.buildSlice 36 1 {toList:= [(0,Operand.tmp 31)]})=some (AVal.slice (some ⟨q,0,0,0,1⟩) 1 1,H2)∧abuiltin env Builtin.append {toList:= [36,36]} [v,AVal.slice (some ⟨q,0,0,0,1⟩) 1 1] (AHeap.next H1+5) H2=some (v2,H3)∧bif Nat.ble (AHeap.next H) (AHeap.next H3)then K0 v2 H3 else False else False else False else False else False else False) :
    ∃ v h1,FDoes Tryz.prog cnd 42 [.str s,.int .u8 c] H v h1∧K0 v h1 :=
  tcall_does env_ok mixed noSpecs_ok (hs:= .hint (.keep [0,1,5,6,7]) (.hint (.loop [(0,AVal.str s),(1,AVal.int IntKind.u8 (↑c:Int)),(5,v),(6,AVal.int IntKind.i64 (↑a:Int))] H1 (AExit.exit 0)) (.hint (.go 9003) (.hint (.act 9004 (AVal.slice (some ⟨q,0,0,0,1⟩) 1 1) fun x=>H2) (.hint (.act 9005 v2 fun x=>H3) .nil))))) (by kernel_rfl) vc
end Go.Proofs.YtjpfnbihopoeeaaGreatDoor
namespace Go.Proofs.YtjpfnbihopoeeaaGreatDoor
open Go.Lift
set_option maxRecDepth 1000000
theorem parts_does (c:UInt8) (s:Bys) (hs:s.length<2^39) (H:AHeap): ∃ v H',FDoes Tryz.prog cnd 42 [.str s,.int .u8 (c.toNat:Nat)] H v H'∧TL H' H.next v (partsAt c s)∧H.next≤H'.next∧ ∀ j,j<H.next→H'.get j=H.get j:=by
  obtain⟨v,a,l,H1,k1,k2,k3,k4,k5,k6,k7⟩:=pt_loop H.next s c hs s.length 0 0 [] (.slice none 0 0) (up H 4) (by omega) (Nat.le_refl _) (Nat.zero_le _) (.inl ⟨rfl,rfl⟩) (by show H.next≤H.next+4;omega)
  rw [ptGo_all]at k3
  let H2:AHeap:=(up H1 7).set (H1.next+4) (ABlk.made [.str (s.drop a)] 1 true)
  have hT:TL H2 H.next v l:=k2.up (by show H1.next≤H1.next+7;omega) (fun j hj=>AHeap.get_set_ne _ _ (by omega))
  obtain⟨v2,H3,e2,t2,n2,o2⟩:=hT.app (nid:=H1.next+5) (x:= .slice (some ⟨H1.next+4,0,0,0,1⟩) 1 1) (w:=s.drop a) (by
      have hg:H2.get (H1.next+4)=some (ABlk.made [.str (s.drop a)] 1 true):=AHeap.get_set_self _ _ _
      simp [elemsOf,hg]
      exact⟨⟨Nat.le_refl 1,Nat.le_refl 1⟩,rfl⟩) (by omega) (by show H1.next+5<H1.next+7;omega) (by omega)
  have n2:H3.next=H1.next+7:=n2
  obtain ⟨v3, h3,hd,rfl,rfl⟩:=parts_vc H H1 H2 H3 s c.toNat a (H1.next+4) v v2 (fun v h=>v=v2∧h=H3)
    (bifL (Nat.le_refl _) (bifL (by omega) (bifL (by omega) (bifL (by omega) ⟨(Runs.of_loops k1).post (Ent.facts (by
        intro j u hu
        rw [lookF_cons]at hu
        split at hu
        · rename_i hj;subst hj;rw [← hu];rfl
        · rw [lookF_cons]at hu
          split at hu
          · rename_i hj;subst hj;rw [← hu];rfl
          · rw [lookF_cons]at hu
            split at hu
            · rename_i hj;subst hj;rw [← hu];rfl
            · rw [lookF_cons]at hu
              split at hu
              · rename_i hj;subst hj;rw [← hu];rfl
              · cases hu)),bifL k6 ⟨⟨by omega,by omega⟩,rfl,e2,condL (by omega) ⟨rfl,rfl⟩⟩⟩))))
  refine⟨_,_,hd,by rw [k3]at t2;exact t2,by omega,fun j hj=> ?_⟩
  rw [o2 j hj]
  exact(AHeap.get_set_ne _ _ (by omega)).trans (k7 j hj)
end Go.Proofs.YtjpfnbihopoeeaaGreatDoor
namespace Go.Proofs.YtjpfnbihopoeeaaGreatDoor
open Go.Lift
set_option maxRecDepth 1000000
structure Fr(H H':AHeap)(L:List Nat):Prop where
  next:H.next≤H'.next
  get: ∀ x,x<H.next→x ∉ L→H'.get x=H.get x
theorem Fr.refl(H:AHeap)(L:List Nat):Fr H H L:=⟨Nat.le_refl _,fun _ _ _=>rfl⟩
theorem Fr.up(H:AHeap)(k:Nat)(L:List Nat):Fr H (up H k) L:=⟨by show H.next≤H.next+k;omega,fun _ _ _=>rfl⟩
theorem Fr.trans {H H1 H2:AHeap}{L M:List Nat}(a:Fr H H1 L)(b:Fr H1 H2 M)(h: ∀ x∈M,x<H.next→x∈L):Fr H H2 L :=
  ⟨Nat.le_trans a.next b.next,fun x hx hL=>by
    have hn:=a.next
    rw [b.get x (by omega) (fun k=>hL (h x k hx)),a.get x hx hL]⟩
theorem Fr.sub {H H1:AHeap}{L M:List Nat}(a:Fr H H1 L)(h: ∀ x∈L,x<H.next→x∈M):Fr H H1 M:=⟨a.next,fun x hx hM=>a.get x hx fun k=>hM (h x k hx)⟩
theorem Fr.set(H:AHeap)(q:Nat)(b:ABlk){L:List Nat}(h:q<H.next→q∈L):Fr H (H.set q b) L:=⟨Nat.le_refl _,fun x hx hL=>AHeap.get_set_ne _ _ fun e=>by subst e;exact hL (h hx)⟩
structure El(t e by':Nat):Prop where
  sl:SlTy env.D t e 1 by'
  ag:(AEnv.D env e).map (fun d=>d.kind.isAgg)=some false
theorem slRw:SlTy env.D 22 36 1 24:=by
  have h1:(env.D 36).map (fun x=>(x.size,x.bytes,x.zeroFits))=some (1,24,true):=by kernel_rfl
  have h2:(env.D 22).map (fun x=>x.kind)=some (.slice 36):=by kernel_rfl
  obtain⟨x,hx,k⟩:=Option.map_eq_some_iff.1 h1
  obtain⟨d,hd,kd⟩:=Option.map_eq_some_iff.1 h2
  simp only [Prod.mk.injEq]at k
  exact⟨d,x,hd,kd,hx,k.1,k.2.1,by decide,k.2.2⟩
theorem elS:El 36 9 16:=⟨slTx,by kernel_rfl⟩
theorem elR:El 22 36 24:=⟨slRw,by kernel_rfl⟩
def Rd(H:AHeap)(q:Nat)(v:AVal)(els:List AVal):Prop :=
  ∃ o c,v= .slice o els.length c∧(∀ a,o=some a→a.es=1∧a.fld=0)∧(els= []∨ ∃ ver off b,o=some ⟨q,ver,off,0,1⟩∧q<H.next∧H.get q=some b∧ ∀ i,(hi:i<els.length)→b.elem? ver (off+i)=some els[i])
theorem Rd.fr {H H':AHeap}{q:Nat}{v:AVal}{els:List AVal}{L:List Nat}(h:Rd H q v els)(m:Fr H H' L)(hq:q ∉ L):Rd H' q v els:=by
  obtain⟨o,c,e,z,k⟩:=h
  refine⟨o,c,e,z,k.imp_right fun⟨ver,off,b,k1,k2,k3,k4⟩=>⟨ver,off,b,k1,Nat.lt_of_lt_of_le k2 m.next,(m.get q k2 hq).trans k3,k4⟩⟩
theorem Rd.nil(H:AHeap)(q:Nat):Rd H q (.slice none 0 0) []:=⟨none,0,rfl,(fun a h=>by cases h),.inl rfl⟩
theorem Rd.elems {H:AHeap}{q:Nat}{v:AVal}{els:List AVal}(h:Rd H q v els):elemsOf 1 v H=some els:=by
  obtain⟨o,c,rfl,z,k⟩:=h
  by_cases hz:els= []
  · subst hz
    cases o with
    | none=>rfl
    | some a =>
      obtain⟨z1,z2⟩:=z a rfl
      simp only [elemsOf,List.length_nil]
      rw [if_pos z2,if_pos z1]
      cases H.get a.id<;>simp
  · rcases k with k | ⟨ver,off,b,rfl,k2,k3,k4⟩
    · exact absurd k hz
    have:=elemsOf_slice (n:=els.length) (c:=c) (h:=H) (sz:=1) (id:=q) (ver:=ver) (off:=off) (o:=some ⟨q,ver,off,0,1⟩) (.inl rfl) k3 (f:=fun i=>els.getD i .undef) (fun j hj=>by rw [k4 j hj];simp [List.getD,hj])
    rw [this]
    congr 1
    apply List.ext_getElem (by simp)
    intro i h1 h2
    simp [List.getD,h2]
theorem Rd.sl {H:AHeap}{q:Nat}{v:AVal}{els:List AVal}(h:Rd H q v els): ∃ o c,v= .slice o els.length c:=by
  obtain⟨o,c,e,_,k⟩:=h
  exact⟨o,c,e⟩
def Sv(v:AVal):Prop:=v.simple=true
theorem load_sv {e:AVal}(h:Sv e):loadElem false 1 0 e=some e:=by
  cases e<;>first | rfl | cases h
theorem store_sv {e x:AVal}(h:Sv e)(hx:Sv x):storeElem 0 x e=some x:=by
  cases e<;>first | (simp only [storeElem];rw [if_pos ⟨trivial,hx⟩];done) | cases h
theorem Rd.at {H:AHeap}{q t e by':Nat}{v:AVal}{els:List AVal}(h:Rd H q v els)(E:El t e by'){i:Nat}(hi:i<els.length)(hs:Sv els[i]) :
    ∃ a,aindexAddr (AEnv.D env) t v (.int .i64 (i:Nat))=some (.ptr (some a))∧a.id<H.next∧ ∀ n,aload (AEnv.D env) e a ⟨n,H.blks⟩=some els[i]:=by
  obtain⟨o,c,rfl,_,k⟩:=h
  rcases k with k | ⟨ver,off,b,rfl,k2,k3,k4⟩
  · rw [k]at hi;exact absurd hi (by simp)
  obtain⟨d,x,d1,d2,x1,x2,_⟩:=E.sl.ty
  obtain⟨x',x1',x3⟩:=Option.map_eq_some_iff.1 E.ag
  have d1:AEnv.D env t=some d:=d1
  have x1:AEnv.D env e=some x:=x1
  rw [x1]at x1'
  simp only [Option.some.injEq]at x1'
  subst x1'
  refine⟨⟨q,ver,off+i,0,1⟩,?_,k2,fun n=> ?_⟩
  · unfold aindexAddr
    simp only [d1,d2,x1]
    rw [if_pos ⟨by omega,by omega,by rw [x2],by trivial⟩]
    simp
  · unfold aload
    have hg:AHeap.get ⟨n,H.blks⟩ q=some b:=k3
    simp only [x1,hg,k4 i hi,x3]
    rw [x2]
    exact load_sv hs
def Rw(H:AHeap)(e q:Nat)(v:AVal)(els:List AVal):Prop :=
  (els= []∧v= .slice none 0 0)∨ ∃ b,v= .slice (some ⟨q,b.ver,0,0,1⟩) els.length els.length∧q<H.next∧H.get q=some b∧b.elems=els∧b.ro=false∧(b.exact=true∨(b.exact=false∧(b.ty=none∨b.ty=some (e,0))))
theorem Rw.fr {H H':AHeap}{e q:Nat}{v:AVal}{els:List AVal}{L:List Nat}(h:Rw H e q v els)(m:Fr H H' L)(hq:q ∉ L):Rw H' e q v els:=by
  rcases h with h | ⟨b,k1,k2,k3,k4⟩
  · exact .inl h
  · exact .inr ⟨b,k1,Nat.lt_of_lt_of_le k2 m.next,(m.get q k2 hq).trans k3,k4⟩
theorem elem_cur {b:ABlk}{i:Nat}(hi:i<b.elems.length):b.elem? b.ver (0+i)=some b.elems[i]:=by
  unfold ABlk.elem? ABlk.lim
  rw [if_pos rfl,if_pos (by omega),Nat.zero_add]
  exact List.getElem?_eq_getElem hi
theorem Rw.rd {H:AHeap}{e q:Nat}{v:AVal}{els:List AVal}(h:Rw H e q v els):Rd H q v els:=by
  rcases h with ⟨rfl,rfl⟩ | ⟨b,rfl,k2,k3,rfl,k5,k6⟩
  · exact Rd.nil H q
  · exact⟨_,_,rfl,(fun a h=>by cases h;exact⟨rfl,rfl⟩),.inr ⟨_,_,b,rfl,k2,k3,fun i hi=>elem_cur hi⟩⟩
def Wr(H:AHeap)(q:Nat)(v:AVal):Prop:=v= .slice none 0 0∨ ∃ b,H.get q=some b∧q<H.next∧(b.exact=true∨b.minVer=b.ver)
theorem Wr.fr {H H':AHeap}{q:Nat}{v:AVal}{L:List Nat}(h:Wr H q v)(m:Fr H H' L)(hq:q ∉ L):Wr H' q v:=by
  rcases h with h | ⟨b,k1,k2,k3⟩
  · exact .inl h
  · exact .inr ⟨b,(m.get q k2 hq).trans k1,Nat.lt_of_lt_of_le k2 m.next,k3⟩
theorem Rw.st {H:AHeap}{e q t by' i:Nat}{v x:AVal}{els:List AVal}(h:Rw H e q v els)(E:El t e by')(hi:i<els.length)(hs:Sv els[i])(hx:Sv x)(n:Nat) :
    ∃ a H1,aindexAddr (AEnv.D env) t v (.int .i64 (i:Nat))=some (.ptr (some a))∧astore (AEnv.D env) e a x (up H n)=some H1∧Rw H1 e q v (els.set i x)∧Wr H1 q v∧Fr H H1 [q]∧H1.next=H.next+n:=by
  rcases h with ⟨rfl,rfl⟩ | ⟨b,rfl,k2,k3,rfl,k5,k6⟩
  · exact absurd hi (by simp)
  obtain⟨d,y,d1,d2,x1,x2,_⟩:=E.sl.ty
  obtain⟨x',x1',x3⟩:=Option.map_eq_some_iff.1 E.ag
  have d1:AEnv.D env t=some d:=d1
  have x1:AEnv.D env e=some y:=x1
  rw [x1]at x1'
  simp only [Option.some.injEq]at x1'
  subst x1'
  have hf:x.fits y.kind.isAgg y.size=true:=by
    rw [x3,x2]
    cases x<;>first | rfl | cases hx
  refine⟨⟨q,b.ver,0+i,0,1⟩,(up H n).set q {b with elems:=b.elems.set i x,minVer:=b.ver},?_,?_,.inr ⟨{b with elems:=b.elems.set i x,minVer:=b.ver},by simp,by show q<H.next+n;omega,AHeap.get_set_self _ _ _,rfl,k5,k6⟩,.inr ⟨_,AHeap.get_set_self _ _ _,by show q<H.next+n;omega,.inr rfl⟩,(Fr.up H n _).trans (Fr.set _ _ _ fun _=>by simp) (fun y hy _=>hy),rfl⟩
  · unfold aindexAddr
    simp only [d1,d2,x1]
    rw [if_pos ⟨by omega,by omega,by rw [x2],by trivial⟩]
    simp
  · unfold astore
    have hg:(up H n).get q=some b:=k3
    simp only [x1,hg,hf,k5]
    rw [Nat.zero_add]
    simp only [List.getElem?_eq_getElem hi,store_sv hs hx]
    simp
def Gw(H:AHeap)(e q:Nat)(v:AVal)(old:List AVal)(x:AVal)(j q2:Nat)(g:AVal):Prop :=
  (j=0∧g=v∧q2=q∧Rw H e q v old∧Wr H q v)∨(0<j∧q2≠q∧q2<H.next∧Rd H q v old∧Rw H e q2 g (old++List.replicate j x)) ∨
  (0<j∧q2=q∧ ∃ b,v= .slice (some ⟨q,b.minVer,0,0,1⟩) old.length old.length∧g= .slice (some ⟨q,b.ver,0,0,1⟩) (old.length+j) (old.length+j)∧q<H.next∧H.get q=some b∧b.elems=old++List.replicate j x∧b.ro=false∧b.exact=false∧(b.ty=none∨b.ty=some (e,0))∧b.minVer<b.ver∧b.forkLen=old.length)
theorem Gw.fr {H H':AHeap}{e q j q2:Nat}{v x g:AVal}{old:List AVal}{L:List Nat}(h:Gw H e q v old x j q2 g)(m:Fr H H' L)(hq:q ∉ L)(hq2:q2 ∉ L):Gw H' e q v old x j q2 g:=by
  rcases h with ⟨a1,a2,a3,a4,a5⟩ | ⟨a1,a2,a3,a4,a5⟩ | ⟨a1,a2,b,a3,a4,a5,a6,a7⟩
  · exact .inl ⟨a1,a2,a3,a4.fr m hq,a5.fr m hq⟩
  · exact .inr (.inl ⟨a1,a2,Nat.lt_of_lt_of_le a3 m.next,a4.fr m hq,a5.fr m hq2⟩)
  · exact .inr (.inr ⟨a1,a2,b,a3,a4,Nat.lt_of_lt_of_le a5 m.next,(m.get q a5 hq).trans a6,a7⟩)
theorem Gw.rd {H:AHeap} {e q j q2:Nat} {v x g:AVal} {old:List AVal} (h:Gw H e q v old x j q2 g):Rd H q v old∧Rd H q2 g (old++List.replicate j x):=by
  rcases h with ⟨rfl,rfl,rfl,a4,a5⟩ | ⟨a1,a2,a3,a4,a5⟩ | ⟨a1,rfl,b,rfl,rfl,a5,a6,a7,a8,a9,a10,a11,a12⟩
  · exact⟨a4.rd,by simpa using a4.rd⟩
  · exact⟨a4,a5.rd⟩
  · refine⟨⟨_,_,rfl,(fun a h=>by cases h;exact⟨rfl,rfl⟩),.inr ⟨_,_,b,rfl,a5,a6,fun i hi=> ?_⟩⟩,⟨_,old.length+j,by rw [List.length_append,List.length_replicate],(fun a h=>by cases h;exact⟨rfl,rfl⟩),.inr ⟨_,0,b,rfl,a5,a6,fun i hi=> ?_⟩⟩⟩
    · have hl:b.lim b.minVer=old.length:=by
        unfold ABlk.lim
        rw [if_neg (by omega),if_pos ⟨Nat.le_refl _,a11⟩,a12]
      unfold ABlk.elem?
      rw [hl,if_pos (by omega),a7,Nat.zero_add,List.getElem?_append_left hi]
      exact List.getElem?_eq_getElem hi
    · have:=elem_cur (b:=b) (i:=i) (by rw [a7];exact hi)
      rw [this]
      congr 1
      simp only [a7]
theorem Rw.app {H:AHeap} {e q t by' nid:Nat} {v w x:AVal} {els:List AVal} (h:Rw H e q v els) (E:El t e by') (hby:by'≤32) (hw:elemsOf 1 w H=some [x]) (hn:nid<H.next) (hl:els.length<2^41) :
    ∃ v2 H2 q2,abuiltin env .append #[t,t] [v,w] nid H=some (v2,H2)∧Rw H2 e q2 v2 (els++ [x])∧(q2=q∨q2=nid)∧(els= []→v= .slice none 0 0→q2=nid)∧Fr H H2 [q2]∧H2.next=H.next∧q2<H2.next:=by
  have hB: ∀ n:Nat,n<2^42→(n+n / 4+512)*by'≤2^48:=fun n hn=>by
    have:(n+n / 4+512)*by'≤(n+n / 4+512)*32:=Nat.mul_le_mul_left _ hby
    omega
  rcases h with ⟨rfl,rfl⟩ | ⟨b,rfl,k2,k3,rfl,k5,k6⟩
  · exact⟨_,_,nid,app_new E.sl hw (by simp) (hB _ (by simp)) (by simp),.inr ⟨.made [x] 1 false (some (e,0)),rfl,hn,AHeap.get_set_self _ _ _,rfl,rfl,.inr ⟨rfl,.inr rfl⟩⟩,.inr rfl,fun _ _=>rfl,Fr.set _ _ _ fun _=>by simp,rfl,hn⟩
  · rcases k6 with k6 | ⟨k6,k7⟩
    · refine⟨_,_,nid,app_copy E.sl hw (a:=⟨q,b.ver,0,0,1⟩) (len:=b.elems.length) (cap:=b.elems.length) (b:=b) (old:=b.elems) (hB _ (by simp;omega)) (by simp;omega) k3 ⟨rfl,rfl⟩ (by simp) k6 ?_,.inr ⟨.made (b.elems++ [x]) 1 false (some (e,0)),by simp [newSlice,ABlk.made],hn,AHeap.get_set_self _ _ _,rfl,rfl,.inr ⟨rfl,.inr rfl⟩⟩,.inr rfl,fun _ _=>rfl,Fr.set _ _ _ fun _=>by simp,rfl,hn⟩
      simp only [elemsOf,if_true,k3]
      by_cases hz:b.elems.length=0
      · rw [if_pos hz,List.length_eq_zero_iff.1 hz]
      · rw [if_neg hz,if_pos ⟨by simp [ABlk.lim],by simp⟩]
        simp
    · refine⟨_,_,q,app_grow (nid:=nid) E.sl hw (by simp) (a:=⟨q,b.ver,0,0,1⟩) (len:=b.elems.length) (cap:=b.elems.length) (b:=b) (hB _ (by simp;omega)) (by simp;omega) k3 ⟨rfl,rfl⟩ (by simp) k6 k5 rfl (by simp) k7,.inr ⟨b.grow [x],by simp [ABlk.grow],k2,AHeap.get_set_self _ _ _,rfl,k5,.inr ⟨k6,k7⟩⟩,.inl rfl,?_,Fr.set _ _ _ fun _=>by simp,rfl,k2⟩
      intro _ h
      cases h
theorem Rw.apps {H:AHeap}{e q t by' nid:Nat}{v w:AVal}{els new:List AVal}(h:Rw H e q v els)(E:El t e by')(hby:by'≤32)(hw:elemsOf 1 w H=some new)(hn:nid<H.next)(hl:els.length+new.length<2^41) :
    ∃ v2 H2 q2,abuiltin env .append #[t,t] [v,w] nid H=some (v2,H2)∧Rw H2 e q2 v2 (els++new)∧(q2=q∨q2=nid)∧(els= []→v= .slice none 0 0→q2=nid)∧Fr H H2 [q2]∧H2.next=H.next:=by
  have hB: ∀ n:Nat,n<2^42→(n+n / 4+512)*by'≤2^48:=fun n hn=>by
    have:(n+n / 4+512)*by'≤(n+n / 4+512)*32:=Nat.mul_le_mul_left _ hby
    omega
  by_cases hnew:new= []
  · subst hnew
    rw [List.append_nil]
    rcases h with ⟨rfl,rfl⟩ | ⟨b,rfl,k2,k3,rfl,k5,k6⟩
    · exact⟨_,H,nid,app_none (b:= .made [] 1 false) E.sl hw (hB 0 (by decide)) (by decide) (fun a h=>by cases h) (Nat.le_refl _) (fun _=>rfl),.inl ⟨rfl,rfl⟩,.inr rfl,fun _ _=>rfl,Fr.refl _ _,rfl⟩
    · exact⟨_,H,q,app_none (b:=b) E.sl hw (hB _ (by simp at hl;omega)) (by simp at hl;omega) (fun a h=>by cases h;exact⟨k3,rfl,rfl⟩) (Nat.le_refl _) (fun h=>by cases h),.inr ⟨b,rfl,k2,k3,rfl,k5,k6⟩,.inl rfl,(fun _ h=>by cases h),Fr.refl _ _,rfl⟩
  rcases h with ⟨rfl,rfl⟩ | ⟨b,rfl,k2,k3,rfl,k5,k6⟩
  · exact⟨_,_,nid,app_new E.sl hw hnew (hB _ (by simp at hl;omega)) (by simp at hl;omega),.inr ⟨.made new 1 false (some (e,0)),rfl,hn,AHeap.get_set_self _ _ _,rfl,rfl,.inr ⟨rfl,.inr rfl⟩⟩,.inr rfl,fun _ _=>rfl,Fr.set _ _ _ fun _=>by simp,rfl⟩
  · have hp:=List.length_pos_iff.2 hnew
    rcases k6 with k6 | ⟨k6,k7⟩
    · refine⟨_,_,nid,app_copy E.sl hw (a:=⟨q,b.ver,0,0,1⟩) (len:=b.elems.length) (cap:=b.elems.length) (b:=b) (old:=b.elems) (hB _ (by omega)) (by omega) k3 ⟨rfl,rfl⟩ (by omega) k6 ?_,.inr ⟨.made (b.elems++new) 1 false (some (e,0)),by simp [newSlice,ABlk.made],hn,AHeap.get_set_self _ _ _,rfl,rfl,.inr ⟨rfl,.inr rfl⟩⟩,.inr rfl,(fun _ h=>by cases h),Fr.set _ _ _ fun _=>by simp,rfl⟩
      exact(Rw.rd (e:=e) (.inr ⟨b,rfl,k2,k3,rfl,k5,.inl k6⟩)).elems
    · exact⟨_,_,q,app_grow (nid:=nid) E.sl hw hnew (a:=⟨q,b.ver,0,0,1⟩) (len:=b.elems.length) (cap:=b.elems.length) (b:=b) (hB _ (by omega)) (by omega) k3 ⟨rfl,rfl⟩ (by omega) k6 k5 rfl (by simp) k7,.inr ⟨b.grow new,by simp [ABlk.grow],k2,AHeap.get_set_self _ _ _,rfl,k5,.inr ⟨k6,k7⟩⟩,.inl rfl,(fun _ h=>by cases h),Fr.set _ _ _ fun _=>by simp,rfl⟩
theorem Gw.app {H:AHeap} {e q t by' nid j q2:Nat} {v w x g:AVal} {old:List AVal} (h:Gw H e q v old x j q2 g) (E:El t e by') (hby:by'≤32) (hw:elemsOf 1 w H=some [x]) (hn:nid<H.next) (hq:q<nid) (hl:old.length+j<2^41) :
    ∃ g2 H2 q3,abuiltin env .append #[t,t] [g,w] nid H=some (g2,H2)∧Gw H2 e q v old x (j+1) q3 g2∧(q3=q2∨q3=nid)∧Fr H H2 [q3]∧H2.next=H.next:=by
  have hB: ∀ n:Nat,n<2^42→(n+n / 4+512)*by'≤2^48:=fun n hn=>by
    have:(n+n / 4+512)*by'≤(n+n / 4+512)*32:=Nat.mul_le_mul_left _ hby
    omega
  have hrep: ∀ j,List.replicate j x++ [x]=List.replicate (j+1) x:=fun j=>by rw [List.replicate_succ']
  rcases h with ⟨rfl,rfl,rfl,a4,a5⟩ | ⟨a1,a2,a3,a4,a5⟩ | ⟨a1,rfl,b,rfl,rfl,a5,a6,a7,a8,a9,a10,a11,a12⟩
  · obtain ⟨v2,H2,q3,e1,r1,c1,c2,f1,n1,l1⟩:=a4.app E hby hw hn (by omega)
    rcases a4 with ⟨rfl,rfl⟩ | ⟨b,rfl,k2,k3,rfl,k5,k6⟩
    · obtain rfl:=c2 rfl rfl
      exact⟨v2,H2,q3,e1,.inr (.inl ⟨by omega,by omega,l1,Rd.nil _ _,by simpa using r1⟩),.inr rfl,f1,n1⟩
    · rcases k6 with k6 | ⟨k6,k7⟩
      · by_cases hqq:q3=q2
        ·
          exfalso
          subst hqq
          have e2:=app_copy (nid:=nid) E.sl hw (a:=⟨q3,b.ver,0,0,1⟩) (len:=b.elems.length) (cap:=b.elems.length) (b:=b) (old:=b.elems) (hB _ (by simp;omega)) (by simp;omega) k3 ⟨rfl,rfl⟩ (by simp) k6 (by
            simp only [elemsOf,if_true,k3]
            by_cases hz:b.elems.length=0
            · rw [if_pos hz,List.length_eq_zero_iff.1 hz]
            · rw [if_neg hz,if_pos ⟨by simp [ABlk.lim],by simp⟩]
              simp)
          rw [e2]at e1
          simp only [Option.some.injEq,Prod.mk.injEq]at e1
          rcases r1 with ⟨r,_⟩ | ⟨b2,r,_⟩
          · simp at r
          · rw [← e1.1]at r
            simp only [newSlice,AVal.slice.injEq,Option.some.injEq,AAddr.mk.injEq]at r
            omega
        · have h3:q3=nid:=c1.resolve_left hqq
          refine⟨v2,H2,q3,e1,.inr (.inl ⟨by omega,hqq,l1,?_,by simpa using r1⟩),.inr h3,f1,n1⟩
          exact(Rw.rd (e:=e) (.inr ⟨b,rfl,k2,k3,rfl,k5,.inl k6⟩)).fr f1 (by simpa using fun h=>hqq h.symm)
      · have e2:=app_grow (nid:=nid) E.sl hw (by simp) (a:=⟨q2,b.ver,0,0,1⟩) (len:=b.elems.length) (cap:=b.elems.length) (b:=b) (hB _ (by simp;omega)) (by simp;omega) k3 ⟨rfl,rfl⟩ (by simp) k6 k5 rfl (by simp) k7
        have hm:b.minVer=b.ver:=by
          rcases a5 with a5 | ⟨b',a5,_,a6⟩
          · cases a5
          · rw [k3]at a5
            simp only [Option.some.injEq]at a5
            subst a5
            rcases a6 with a6 | a6
            · rw [k6]at a6;cases a6
            · exact a6
        refine⟨_,_,q2,e2,.inr (.inr ⟨by omega,rfl,b.grow [x],?_,?_,k2,AHeap.get_set_self _ _ _,?_,k5,k6,k7,?_,?_⟩),.inl rfl,Fr.set _ _ _ fun _=>by simp,rfl⟩
        · simp [ABlk.grow,hm]
        · simp [ABlk.grow]
        · simp [ABlk.grow]
        · show b.minVer<b.ver+1;omega
        · simp [ABlk.grow,hm]
  · obtain⟨v2,H2,q3,e1,r1,c1,c2,f1,n1,l1⟩:=a5.app E hby hw hn (by simp;omega)
    rw [List.append_assoc,hrep]at r1
    refine⟨v2,H2,q3,e1,.inr (.inl ⟨by omega,by omega,l1,a4.fr f1 (by simp;omega),r1⟩),c1,f1,n1⟩
  · have e2:=app_grow (nid:=nid) E.sl hw (by simp) (a:=⟨q2,b.ver,0,0,1⟩) (len:=old.length+j) (cap:=old.length+j) (b:=b) (hB _ (by simp;omega)) (by simp;omega) a6 ⟨rfl,rfl⟩ (by simp) a9 a8 rfl (by simp [a7]) a10
    refine⟨_,_,q2,e2,.inr (.inr ⟨by omega,rfl,b.grow [x],?_,?_,a5,AHeap.get_set_self _ _ _,?_,a8,a9,a10,?_,?_⟩),.inl rfl,Fr.set _ _ _ fun _=>by simp,rfl⟩
    · simp [ABlk.grow]
    · simp [ABlk.grow];omega
    · simp [ABlk.grow,a7,hrep]
    · show b.minVer<b.ver+1;omega
    · show(if b.minVer=b.ver then b.elems.length else min b.forkLen b.elems.length)=old.length
      rw [if_neg (by omega),a12,a7]
      simp
end Go.Proofs.YtjpfnbihopoeeaaGreatDoor
namespace Go.Proofs.YtjpfnbihopoeeaaGreatDoor
open Go.Lift
set_option maxRecDepth 1000000
structure Rr where
  q:Nat
  v:AVal
  l:List Bys
abbrev vsOf(rs:List Rr):List AVal:=rs.map (·.v)
abbrev qsOf(rs:List Rr):List Nat:=rs.map (·.q)
abbrev lsOf(rs:List Rr):List (List Bys):=rs.map (·.l)
structure Tr(H:AHeap)(B E:Nat)(v:AVal)(o:Nat)(rs:List Rr):Prop where
  out:Rd H o v (vsOf rs)
  inn: ∀ r∈rs,Rd H r.q r.v (r.l.map AVal.str)
  ge: ∀ x∈o::qsOf rs,B≤x∧x<E
theorem Tr.fr {H H':AHeap}{B E:Nat}{v:AVal}{o:Nat}{rs:List Rr}{L:List Nat}(h:Tr H B E v o rs)(m:Fr H H' L)(hL: ∀ x∈L,x<B∨E≤x):Tr H' B E v o rs:=by
  have no: ∀ x∈o::qsOf rs,x ∉ L:=fun x hx k=>by
    have h1:=h.ge x hx
    have h2:=hL x k
    omega
  exact⟨h.out.fr m (no o (by simp)),fun r hr=>(h.inn r hr).fr m (no r.q (List.mem_cons_of_mem _ (List.mem_map.2 ⟨r,hr,rfl⟩))),h.ge⟩
structure Tb(H:AHeap)(B E:Nat)(v:AVal)(o:Nat)(rs:List Rr):Prop where
  out:Rw H 36 o v (vsOf rs)
  inn: ∀ r∈rs,Rw H 9 r.q r.v (r.l.map AVal.str)
  nd:(o::qsOf rs).Nodup
  ge: ∀ x∈o::qsOf rs,B≤x∧x<E
theorem Tb.fr {H H':AHeap}{B E:Nat}{v:AVal}{o:Nat}{rs:List Rr}{L:List Nat}(h:Tb H B E v o rs)(m:Fr H H' L)(hL: ∀ x∈L,x<B∨E≤x):Tb H' B E v o rs:=by
  have no: ∀ x∈o::qsOf rs,x ∉ L:=fun x hx k=>by
    have h1:=h.ge x hx
    have h2:=hL x k
    omega
  exact⟨h.out.fr m (no o (by simp)),fun r hr=>(h.inn r hr).fr m (no r.q (List.mem_cons_of_mem _ (List.mem_map.2 ⟨r,hr,rfl⟩))),h.nd,h.ge⟩
theorem Tb.tr {H:AHeap}{B E:Nat}{v:AVal}{o:Nat}{rs:List Rr}(h:Tb H B E v o rs):Tr H B E v o rs:=⟨h.out.rd,fun r hr=>(h.inn r hr).rd,h.ge⟩
theorem Rd.sv {H:AHeap}{q:Nat}{v:AVal}{els:List AVal}(h:Rd H q v els):Sv v:=by
  obtain⟨o,c,e,_,k⟩:=h
  rw [e];rfl
theorem Tr.row {H:AHeap}{B E:Nat}{v:AVal}{o:Nat}{rs:List Rr}(h:Tr H B E v o rs){i:Nat}(hi:i<rs.length) :
    ∃ a,aindexAddr (AEnv.D env) 22 v (.int .i64 (i:Nat))=some (.ptr (some a))∧a.id<H.next∧ ∀ n,aload (AEnv.D env) 36 a ⟨n,H.blks⟩=some rs[i].v:=by
  have:=h.out.at elR (i:=i) (by simpa using hi) (by rw [List.getElem_map];exact(h.inn _ (List.getElem_mem hi)).sv)
  rw [List.getElem_map]at this
  exact this
theorem Rd.txt {H:AHeap}{q:Nat}{v:AVal}{l:List Bys}(h:Rd H q v (l.map AVal.str)){i:Nat}(hi:i<l.length) :
    ∃ a,aindexAddr (AEnv.D env) 36 v (.int .i64 (i:Nat))=some (.ptr (some a))∧a.id<H.next∧ ∀ n,aload (AEnv.D env) 9 a ⟨n,H.blks⟩=some (.str l[i]):=by
  have:=h.at elS (i:=i) (by simpa using hi) (by rw [List.getElem_map];exact rfl)
  rw [List.getElem_map]at this
  exact this
theorem Tb.push {H:AHeap} {B E nid:Nat} {v w:AVal} {o:Nat} {rs:List Rr} {r:Rr} (h:Tb H B E v o rs) (hE:E≤r.q) (hr:Rw H 9 r.q r.v (r.l.map AVal.str)) (hw:elemsOf 1 w H=some [r.v]) (hn:nid<H.next) (hq:r.q≠nid) (hqH:r.q<H.next) (hEn:E≤nid) (hl:rs.length<2^40) :
    ∃ v2 H2 o2,abuiltin env .append #[22,22] [v,w] nid H=some (v2,H2)∧Tb H2 B H2.next v2 o2 (rs++ [r])∧Fr H H2 [o2]∧(o2=o∨o2=nid)∧H2.next=H.next:=by
  obtain⟨v2,H2,o2,e1,r1,c1,_,f1,n1,l1⟩:=h.out.app elR (by decide) hw hn (by rw [List.length_map];omega)
  have ho:=h.ge o (by simp)
  have nd:=h.nd
  rw [List.nodup_cons]at nd
  have hlt: ∀ x∈qsOf rs,x<E:=fun x hx=>(h.ge x (List.mem_cons_of_mem _ hx)).2
  have no:o2 ∉ qsOf rs:=by
    rcases c1 with rfl | rfl
    · exact nd.1
    · intro k;have:=hlt _ k;omega
  have no2:o2≠r.q:=by rcases c1 with rfl | rfl<;>omega
  refine⟨v2,H2,o2,e1,⟨?_,?_,?_,?_⟩,f1,c1,n1⟩
  · rw [vsOf,List.map_append];exact r1
  · intro r' hr'
    rcases List.mem_append.1 hr' with k | k
    · exact(h.inn r' k).fr f1 (by
        simp only [List.mem_singleton]
        intro e;exact no (e▸List.mem_map.2 ⟨r',k,rfl⟩))
    · obtain rfl:=List.mem_singleton.1 k
      exact hr.fr f1 (by simpa using fun e=>no2 e.symm)
  · rw [qsOf,List.map_append,List.nodup_cons]
    refine⟨?_,?_⟩
    · simp only [List.map_cons,List.map_nil,List.mem_append,List.mem_singleton,not_or]
      exact⟨no,no2⟩
    · rw [List.nodup_append]
      refine⟨nd.2,by simp,fun a ha b hb=> ?_⟩
      simp only [List.map_cons,List.map_nil,List.mem_singleton]at hb
      have:=hlt a ha
      omega
  · intro x hx
    rcases List.mem_cons.1 hx with rfl | hx
    · rcases c1 with rfl | rfl<;>omega
    · rw [qsOf,List.map_append]at hx
      rcases List.mem_append.1 hx with k | k
      · have:=h.ge x (List.mem_cons_of_mem _ k);omega
      · simp only [List.map_cons,List.map_nil,List.mem_singleton]at k
        omega
def rowsOf(s:Bys):List (List Bys):=if s= []then []else(partsAt 10 s).map (partsAt 9)
end Go.Proofs.YtjpfnbihopoeeaaGreatDoor
namespace Go.Proofs.YtjpfnbihopoeeaaGreatDoor
open Go.Lift
set_option maxRecDepth 1000000
theorem srS_vp(H:AHeap)(B n i:Nat)(ao bo:Option AAddr)(ca cb:Nat)(a b:AAddr)(x:Bys)(K0:AExit→Facts→AHeap→Prop)(vc:bif Nat.ble B (AHeap.next H) && true then some (AVal.bool (decide ((↑i:Int)<(↑n:Int))))=some (AVal.bool true)∧bif Nat.ble B (AHeap.next H+4) && true then aindexAddr (AEnv.D env) 36 (AVal.slice ao n ca) (AVal.int IntKind.i64 (↑i:Int))=some (AVal.ptr (some a))∧aload (AEnv.D env) 9 a (AHeap.mk (AHeap.next H+13) (H.2))=some (AVal.str x)∧aindexAddr (AEnv.D env) 36 (AVal.slice bo n cb) (AVal.int IntKind.i64 (↑i:Int))=some (AVal.ptr (some b))∧aload (AEnv.D env) 9 b (AHeap.mk (AHeap.next H+13) (H.2))=some (AVal.str x)∧some (AVal.bool !x == x)=some (AVal.bool false)∧bif Nat.ble B (AHeap.next H+13) && true then(-9223372036854775808≤(↑i:Int)+1∧(↑i:Int)+1≤9223372036854775807)∧K0 AExit.normal [(0,AVal.slice ao n ca),(1,AVal.slice bo n cb),(5,AVal.int IntKind.i64 ((↑i:Int)+1))] (AHeap.mk (AHeap.next H+13+3) (AHeap.blks (AHeap.mk (AHeap.next H+4+9) (AHeap.blks (AHeap.mk (AHeap.next H+4) (AHeap.blks H))))))else False else False else False) :
    ∃ e F1 h1,Runs Tryz.prog cnd B 26 (loopAt Tryz.prog 30 0) [(0,.slice ao n ca),(1,.slice bo n cb),(5,.int .i64 i)] H e F1 h1∧K0 e F1 h1 :=
  tpath_runs env_ok mixed noSpecs_ok (hs:= .hint (.val 4003 (AVal.bool true)) (.hint (.val 6002 (AVal.ptr (some a))) (.hint (.val 6003 (AVal.str x)) (.hint (.val 6006 (AVal.ptr (some b))) (.hint (.val 6007 (AVal.str x)) (.hint (.val 6008 (AVal.bool false)) (.hint (.go 5001) .nil))))))) (keep:= [0,1,5]) (by kernel_rfl) vc
theorem srE_vp(H:AHeap)(B n i:Nat)(ao bo:Option AAddr)(ca cb:Nat)(K0:AExit→Facts→AHeap→Prop)(vc:bif Nat.ble B (AHeap.next H) && true then some (AVal.bool (decide ((↑i:Int)<(↑n:Int))))=some (AVal.bool false)∧K0 (AExit.exit 0) [(0,AVal.slice ao n ca),(1,AVal.slice bo n cb),(5,AVal.int IntKind.i64 (↑i:Int))] (AHeap.mk (AHeap.next H+4) (AHeap.blks H))else False) :
    ∃ e F1 h1,Runs Tryz.prog cnd B 26 (loopAt Tryz.prog 30 0) [(0,.slice ao n ca),(1,.slice bo n cb),(5,.int .i64 i)] H e F1 h1∧K0 e F1 h1 :=
  tpath_runs env_ok mixed noSpecs_ok (hs:= .hint (.val 4003 (AVal.bool false)) .nil) (keep:= [0,1,5]) (by kernel_rfl) vc
theorem sr_vc(H H1:AHeap)(n:Nat)(ao bo:Option AAddr)(ca cb:Nat)(K0:AVal→AHeap→Prop)(vc:bif Nat.ble (AHeap.next H) (AHeap.next H) && true then bif Nat.ble (AHeap.next H) (AHeap.next H+1) && true then some (AVal.bool ((↑n:Int) != (↑n:Int)))=some (AVal.bool false)∧bif Nat.ble (AHeap.next H) (AHeap.next H+6) && true then Runs Tryz.prog cnd (AHeap.next H) 26 (Code.loop (loopAt Tryz.prog 30 0)) [(0,AVal.slice ao n ca),(1,AVal.slice bo n cb),(5,AVal.int IntKind.i64 (0))] (AHeap.mk (AHeap.next H+6+1) (AHeap.blks (AHeap.mk (AHeap.next H+1+5) (AHeap.blks (AHeap.mk (AHeap.next H+1) (AHeap.blks H)))))) (AExit.exit 0) [(0,AVal.slice ao n ca),(1,AVal.slice bo n cb),(5,AVal.int IntKind.i64 (↑n:Int))] H1∧bif Nat.ble (AHeap.next H) (AHeap.next H1) && true then bif Nat.ble (AHeap.next H) (AHeap.next H1+1)then K0 (AVal.bool true) (AHeap.mk (AHeap.next H1+1) (AHeap.blks H1))else False else False else False else False else False) :
    ∃ v h1,FDoes Tryz.prog cnd 30 [.slice ao n ca,.slice bo n cb] H v h1∧K0 v h1 :=
  tcall_does env_ok mixed noSpecs_ok (hs:= .hint (.val 1004 (AVal.bool false)) (.hint (.keep [0,1,5]) (.hint (.loop [(0,AVal.slice ao n ca),(1,AVal.slice bo n cb),(5,AVal.int IntKind.i64 (↑n:Int))] H1 (AExit.exit 0)) .nil))) (by kernel_rfl) vc
theorem smS_vp(H H1:AHeap)(B n i:Nat)(ao bo:Option AAddr)(ca cb:Nat)(a b:AAddr)(va vb:AVal)(K0:AExit→Facts→AHeap→Prop)(vc:bif Nat.ble B (AHeap.next H) && true then some (AVal.bool (decide ((↑i:Int)<(↑n:Int))))=some (AVal.bool true)∧bif Nat.ble B (AHeap.next H+4) && true then aindexAddr (AEnv.D env) 22 (AVal.slice ao n ca) (AVal.int IntKind.i64 (↑i:Int))=some (AVal.ptr (some a))∧aload (AEnv.D env) 36 a (AHeap.mk (AHeap.next H+14) (H.2))=some va∧AAddr.id a<AHeap.next H+4∧aindexAddr (AEnv.D env) 22 (AVal.slice bo n cb) (AVal.int IntKind.i64 (↑i:Int))=some (AVal.ptr (some b))∧aload (AEnv.D env) 36 b (AHeap.mk (AHeap.next H+14) (H.2))=some vb∧AAddr.id b<AHeap.next H+4∧CallT Tryz.prog cnd 30 [va,vb] (AHeap.mk (AHeap.next H+14) (H.2)) (AVal.bool true) H1∧bif Nat.ble B (AHeap.next H1) && true then bif Nat.ble B (AHeap.next H1+2) && true then(-9223372036854775808≤(↑i:Int)+1∧(↑i:Int)+1≤9223372036854775807)∧K0 AExit.normal [(0,AVal.slice ao n ca),(1,AVal.slice bo n cb),(5,AVal.int IntKind.i64 ((↑i:Int)+1))] (AHeap.mk (AHeap.next H1+2+3) (AHeap.blks (AHeap.mk (AHeap.next H1+2) (AHeap.blks H1))))else False else False else False else False) :
    ∃ e F1 h1,Runs Tryz.prog cnd B 29 (loopAt Tryz.prog 16 0) [(0,.slice ao n ca),(1,.slice bo n cb),(5,.int .i64 i)] H e F1 h1∧K0 e F1 h1 :=
  tpath_runs env_ok mixed noSpecs_ok (hs:= .hint (.val 4003 (AVal.bool true)) (.hint (.val 6002 (AVal.ptr (some a))) (.hint (.farV 6003 va) (.hint (.val 6006 (AVal.ptr (some b))) (.hint (.farV 6007 vb) (.hint (.act 6008 (AVal.bool true) fun x=>H1) (.hint (.go 5001) .nil))))))) (keep:= [0,1,5]) (by kernel_rfl) vc
theorem smE_vp(H:AHeap)(B n i:Nat)(ao bo:Option AAddr)(ca cb:Nat)(K0:AExit→Facts→AHeap→Prop)(vc:bif Nat.ble B (AHeap.next H) && true then some (AVal.bool (decide ((↑i:Int)<(↑n:Int))))=some (AVal.bool false)∧K0 (AExit.exit 0) [(0,AVal.slice ao n ca),(1,AVal.slice bo n cb),(5,AVal.int IntKind.i64 (↑i:Int))] (AHeap.mk (AHeap.next H+4) (AHeap.blks H))else False) :
    ∃ e F1 h1,Runs Tryz.prog cnd B 29 (loopAt Tryz.prog 16 0) [(0,.slice ao n ca),(1,.slice bo n cb),(5,.int .i64 i)] H e F1 h1∧K0 e F1 h1 :=
  tpath_runs env_ok mixed noSpecs_ok (hs:= .hint (.val 4003 (AVal.bool false)) .nil) (keep:= [0,1,5]) (by kernel_rfl) vc
theorem sm_vc(H H1:AHeap)(n:Nat)(ao bo:Option AAddr)(ca cb:Nat)(K0:AVal→AHeap→Prop)(vc:bif Nat.ble (AHeap.next H) (AHeap.next H) && true then bif Nat.ble (AHeap.next H) (AHeap.next H+1) && true then some (AVal.bool ((↑n:Int) != (↑n:Int)))=some (AVal.bool false)∧bif Nat.ble (AHeap.next H) (AHeap.next H+6) && true then Runs Tryz.prog cnd (AHeap.next H) 29 (Code.loop (loopAt Tryz.prog 16 0)) [(0,AVal.slice ao n ca),(1,AVal.slice bo n cb),(5,AVal.int IntKind.i64 (0))] (AHeap.mk (AHeap.next H+6+1) (AHeap.blks (AHeap.mk (AHeap.next H+1+5) (AHeap.blks (AHeap.mk (AHeap.next H+1) (AHeap.blks H)))))) (AExit.exit 0) [(0,AVal.slice ao n ca),(1,AVal.slice bo n cb),(5,AVal.int IntKind.i64 (↑n:Int))] H1∧bif Nat.ble (AHeap.next H) (AHeap.next H1) && true then bif Nat.ble (AHeap.next H) (AHeap.next H1+1)then K0 (AVal.bool true) (AHeap.mk (AHeap.next H1+1) (AHeap.blks H1))else False else False else False else False else False) :
    ∃ v h1,FDoes Tryz.prog cnd 16 [.slice ao n ca,.slice bo n cb] H v h1∧K0 v h1 :=
  tcall_does env_ok mixed noSpecs_ok (hs:= .hint (.val 1004 (AVal.bool false)) (.hint (.keep [0,1,5]) (.hint (.loop [(0,AVal.slice ao n ca),(1,AVal.slice bo n cb),(5,AVal.int IntKind.i64 (↑n:Int))] H1 (AExit.exit 0)) .nil))) (by kernel_rfl) vc
theorem mark_vc(i:Nat)(x y z:Nat)(K0:AVal→AHeap→Prop)(vc:aop env noCall 2 (getF [(3,AVal.int IntKind.i64 (↑i:Int)),(2,AVal.str []),(0,AVal.int IntKind.i64 (↑i:Int))]) (AHeap.rowsT 12 []) (Op.convert 3 5 (Operand.tmp 3))=some (AVal.int IntKind.u8 (↑x:Int),(AHeap.rowsT 12 []))∧Int.NonNeg (8-0)∧aop env noCall 5 (getF [(6,AVal.int IntKind.i64 (ishr IntKind.i64 (↑i:Int) (8))),(5,AVal.int IntKind.i64 (↑i:Int)),(4,AVal.int IntKind.u8 (↑x:Int)),(3,AVal.int IntKind.i64 (↑i:Int)),(2,AVal.str []),(0,AVal.int IntKind.i64 (↑i:Int))]) (AHeap.rowsT 12 []) (Op.convert 3 5 (Operand.tmp 6))=some (AVal.int IntKind.u8 (↑y:Int),(AHeap.rowsT 12 []))∧Int.NonNeg (16-0)∧aop env noCall 8 (getF [(9,AVal.int IntKind.i64 (ishr IntKind.i64 (↑i:Int) (16))),(8,AVal.int IntKind.i64 (↑i:Int)),(7,AVal.int IntKind.u8 (↑y:Int)),(6,AVal.int IntKind.i64 (ishr IntKind.i64 (↑i:Int) (8))),(5,AVal.int IntKind.i64 (↑i:Int)),(4,AVal.int IntKind.u8 (↑x:Int)),(3,AVal.int IntKind.i64 (↑i:Int)),(2,AVal.str []),(0,AVal.int IntKind.i64 (↑i:Int))]) (AHeap.rowsT 12 []) (Op.convert 3 5 (Operand.tmp 9))=some (AVal.int IntKind.u8 (↑z:Int),(AHeap.rowsT 12 []))∧K0 (AVal.str [{toBitVec:= {toFin:=⟨45,Nat.mod_lt (Int.toNat (45)) (BitVec.ofNat._proof_1 8)⟩}},UInt8.ofNat x,UInt8.ofNat y,UInt8.ofNat z]) (AHeap.rowsT 12 [(9,ABlk.made [AVal.int IntKind.u8 (45),AVal.int IntKind.u8 (↑x:Int),AVal.int IntKind.u8 (↑y:Int),AVal.int IntKind.u8 (↑z:Int)] 1 true)])) :
    ∃ v h1,FDoes Tryz.prog cnd 44 [.int .i64 i] (⟨0,.nil⟩) v h1∧K0 v h1 :=
  tcall_does env_ok mixed noSpecs_ok (hs:= .hint (.val 1001 (AVal.int IntKind.u8 (↑x:Int))) (.hint (.go 1003) (.hint (.val 1004 (AVal.int IntKind.u8 (↑y:Int))) (.hint (.go 1006) (.hint (.val 1007 (AVal.int IntKind.u8 (↑z:Int))) .nil))))) (by kernel_rfl) vc
theorem trS_vp(H H1 H2 H3:AHeap)(B n c i q:Nat)(lo:Option AAddr)(a:AAddr)(w:Bys)(rv rv2 x:AVal)(K0:AExit→Facts→AHeap→Prop)(vc:bif Nat.ble B (AHeap.next H) && true then some (AVal.bool (decide ((↑i:Int)<(↑n:Int))))=some (AVal.bool true)∧bif Nat.ble B (AHeap.next H+1) && true then aindexAddr (AEnv.D env) 36 (AVal.slice lo n c) (AVal.int IntKind.i64 (↑i:Int))=some (AVal.ptr (some a))∧aload (AEnv.D env) 9 a (AHeap.mk (AHeap.next H+4) (H.2))=some (AVal.str w)∧bif Nat.ble B (AHeap.next H+4) && true then CallT Tryz.prog cnd 43 [AVal.str w,AVal.str [(9:UInt8)]] (AHeap.mk (AHeap.next H+10) (H.2)) x H1∧aop env noCall (AHeap.next H+7) (getF [(17,x),(16,AVal.str w),(15,rv),(5,AVal.str w),(14,AVal.str w),(13,AVal.ptr (some a)),(12,AVal.bool true),(3,rv),(9,AVal.slice lo n c),(10,AVal.int IntKind.i64 (↑n:Int)),(11,AVal.int IntKind.i64 (↑i:Int))]) H1 (Op.buildSlice 22 1 {toList:= [(0,Operand.tmp 17)]})=some (AVal.slice (some ⟨q,0,0,0,1⟩) 1 1,H2)∧abuiltin env Builtin.append {toList:= [22,22]} [rv,AVal.slice (some ⟨q,0,0,0,1⟩) 1 1] (AHeap.next H+8) H2=some (rv2,H3)∧bif Nat.ble B (AHeap.next H3) && true then(-9223372036854775808≤(↑i:Int)+1∧(↑i:Int)+1≤9223372036854775807)∧K0 AExit.normal [(3,rv2),(9,AVal.slice lo n c),(10,AVal.int IntKind.i64 (↑n:Int)),(11,AVal.int IntKind.i64 ((↑i:Int)+1))] (AHeap.mk (AHeap.next H3+2) (AHeap.blks H3))else False else False else False else False) :
    ∃ e F1 h1,Runs Tryz.prog cnd B 22 (loopAt Tryz.prog 15 0) [(3,rv),(9,.slice lo n c),(10,.int .i64 n),(11,.int .i64 i)] H e F1 h1∧K0 e F1 h1 :=
  tpath_runs env_ok mixed noSpecs_ok (hs:= .hint (.val 5000 (AVal.bool true)) (.hint (.val 6000 (AVal.ptr (some a))) (.hint (.val 6001 (AVal.str w)) (.hint (.act 7002 x fun x=>H1) (.hint (.act 7003 (AVal.slice (some ⟨q,0,0,0,1⟩) 1 1) fun x=>H2) (.hint (.act 7004 rv2 fun x=>H3) (.hint (.go 8000) .nil))))))) (keep:= [3,9,10,11]) (by kernel_rfl) vc
theorem trE_vp(H:AHeap)(B n c i:Nat)(lo:Option AAddr)(rv:AVal)(K0:AExit→Facts→AHeap→Prop)(vc:bif Nat.ble B (AHeap.next H) && true then some (AVal.bool (decide ((↑i:Int)<(↑n:Int))))=some (AVal.bool false)∧K0 (AExit.exit 0) [(3,rv),(9,AVal.slice lo n c),(10,AVal.int IntKind.i64 (↑n:Int)),(11,AVal.int IntKind.i64 (↑i:Int))] (AHeap.mk (AHeap.next H+1) (AHeap.blks H))else False) :
    ∃ e F1 h1,Runs Tryz.prog cnd B 22 (loopAt Tryz.prog 15 0) [(3,rv),(9,.slice lo n c),(10,.int .i64 n),(11,.int .i64 i)] H e F1 h1∧K0 e F1 h1 :=
  tpath_runs env_ok mixed noSpecs_ok (hs:= .hint (.val 5000 (AVal.bool false)) .nil) (keep:= [3,9,10,11]) (by kernel_rfl) vc
theorem tr_vc(H H1 H2:AHeap)(s:Bys)(n c:Nat)(lo:Option AAddr)(rv:AVal)(K0:AVal→AHeap→Prop)(vc:bif Nat.ble (AHeap.next H) (AHeap.next H) && true then bif Nat.ble (AHeap.next H) (AHeap.next H+1) && true then some (AVal.bool (s == Array.toList #[]))=some (AVal.bool false)∧bif Nat.ble (AHeap.next H) (AHeap.next H+3) && true then bif Nat.ble (AHeap.next H) (AHeap.next H+4) && true then CallT Tryz.prog cnd 43 [AVal.str s,AVal.str [(10:UInt8)]] (AHeap.mk (AHeap.next H+8) (H.2)) (AVal.slice lo n c) H1∧Runs Tryz.prog cnd (AHeap.next H) 22 (Code.loop (loopAt Tryz.prog 15 0)) [(3,AVal.slice none 0 0),(9,AVal.slice lo n c),(10,AVal.int IntKind.i64 (↑n:Int)),(11,AVal.int IntKind.i64 (0))] H1 (AExit.exit 0) [(3,rv)] H2∧bif Nat.ble (AHeap.next H) (AHeap.next H2) && true then bif Nat.ble (AHeap.next H) (AHeap.next H2+2)then K0 rv (AHeap.mk (AHeap.next H2+2) (AHeap.blks H2))else False else False else False else False else False else False) :
    ∃ v h1,FDoes Tryz.prog cnd 15 [.str s] H v h1∧K0 v h1 :=
  tcall_does env_ok mixed noSpecs_ok (hs:= .hint (.val 1001 (AVal.bool false)) (.hint (.act 4001 (AVal.slice lo n c) fun x=>H1) (.hint (.keep [3,9,10,11]) (.hint (.loop [(3,rv)] H2 (AExit.exit 0)) .nil)))) (by kernel_rfl) vc
theorem tr0_vc(H:AHeap)(K0:AVal→AHeap→Prop)(vc:bif Nat.ble (AHeap.next H) (AHeap.next H) && true then bif Nat.ble (AHeap.next H) (AHeap.next H+1) && true then bif Nat.ble (AHeap.next H) (AHeap.next H+3) && true then bif Nat.ble (AHeap.next H) (AHeap.next H+4)then K0 (AVal.slice none 0 0) (AHeap.mk (AHeap.next H+3+1) (AHeap.blks (AHeap.mk (AHeap.next H+1+2) (AHeap.blks (AHeap.mk (AHeap.next H+1) (AHeap.blks H))))))else False else False else False else False) :
    ∃ v h1,FDoes Tryz.prog cnd 15 [.str []] H v h1∧K0 v h1 :=
  tcall_does env_ok mixed noSpecs_ok (hs:= .nil) (by kernel_rfl) vc
theorem dr_vp(H H1 H2 H3:AHeap)(B n c i q:Nat)(lo:Option AAddr)(a:AAddr)(w:Bys)(rv rv2 x:AVal)(K0:AExit→Facts→AHeap→Prop)(vc:bif Nat.ble B (AHeap.next H) && true then some (AVal.bool (decide ((↑i:Int)<(↑n:Int))))=some (AVal.bool true)∧bif Nat.ble B (AHeap.next H+4) && true then aindexAddr (AEnv.D env) 36 (AVal.slice lo n c) (AVal.int IntKind.i64 (↑i:Int))=some (AVal.ptr (some a))∧aload (AEnv.D env) 9 a (AHeap.mk (AHeap.next H+13) (H.2))=some (AVal.str w)∧CallT Tryz.prog cnd 42 [AVal.str w,AVal.int IntKind.u8 (9)] (AHeap.mk (AHeap.next H+13) (H.2)) x H1∧aop env noCall (AHeap.next H+10) (getF [(22,x),(21,AVal.str w),(20,AVal.ptr (some a)),(19,AVal.int IntKind.i64 (↑i:Int)),(18,AVal.slice lo n c),(17,rv),(14,AVal.bool true),(13,AVal.int IntKind.i64 (↑n:Int)),(12,AVal.slice lo n c),(11,AVal.int IntKind.i64 (↑i:Int)),(3,rv),(4,AVal.slice lo n c),(5,AVal.int IntKind.i64 (↑i:Int))]) H1 (Op.buildSlice 22 1 {toList:= [(0,Operand.tmp 22)]})=some (AVal.slice (some ⟨q,0,0,0,1⟩) 1 1,H2)∧abuiltin env Builtin.append {toList:= [22,22]} [rv,AVal.slice (some ⟨q,0,0,0,1⟩) 1 1] (AHeap.next H+11) H2=some (rv2,H3)∧bif Nat.ble B (AHeap.next H3) && true then(-9223372036854775808≤(↑i:Int)+1∧(↑i:Int)+1≤9223372036854775807)∧K0 AExit.normal [(3,rv2),(4,AVal.slice lo n c),(5,AVal.int IntKind.i64 ((↑i:Int)+1))] (AHeap.mk (AHeap.next H3+3) (AHeap.blks H3))else False else False else False) :
    ∃ e F1 h1,Runs Tryz.prog cnd B 26 (loopAt Tryz.prog 14 0) [(3,rv),(4,.slice lo n c),(5,.int .i64 i)] H e F1 h1∧K0 e F1 h1 :=
  tpath_runs env_ok mixed noSpecs_ok (hs:= .hint (.val 6003 (AVal.bool true)) (.hint (.val 8003 (AVal.ptr (some a))) (.hint (.val 8004 (AVal.str w)) (.hint (.act 8005 x fun x=>H1) (.hint (.act 8006 (AVal.slice (some ⟨q,0,0,0,1⟩) 1 1) fun x=>H2) (.hint (.act 8007 rv2 fun x=>H3) (.hint (.go 7001) .nil))))))) (keep:= [3,4,5]) (by kernel_rfl) vc
theorem drE_vp(H:AHeap)(B n c i:Nat)(lo:Option AAddr)(rv:AVal)(K0:AExit→Facts→AHeap→Prop)(vc:bif Nat.ble B (AHeap.next H) && true then some (AVal.bool (decide ((↑i:Int)<(↑n:Int))))=some (AVal.bool false)∧K0 (AExit.exit 0) [(3,rv),(4,AVal.slice lo n c),(5,AVal.int IntKind.i64 (↑i:Int))] (AHeap.mk (AHeap.next H+4) (AHeap.blks H))else False) :
    ∃ e F1 h1,Runs Tryz.prog cnd B 26 (loopAt Tryz.prog 14 0) [(3,rv),(4,.slice lo n c),(5,.int .i64 i)] H e F1 h1∧K0 e F1 h1 :=
  tpath_runs env_ok mixed noSpecs_ok (hs:= .hint (.val 6003 (AVal.bool false)) .nil) (keep:= [3,4,5]) (by kernel_rfl) vc
theorem dr_vc(H H1 H2:AHeap)(s:Bys)(n c:Nat)(lo:Option AAddr)(rv:AVal)(K0:AVal→AHeap→Prop)(vc:bif Nat.ble (AHeap.next H) (AHeap.next H) && true then bif Nat.ble (AHeap.next H) (AHeap.next H+1) && true then bif Nat.ble (AHeap.next H) (AHeap.next H+2) && true then some (AVal.bool (s == Array.toList #[]))=some (AVal.bool false)∧bif Nat.ble (AHeap.next H) (AHeap.next H+4) && true then CallT Tryz.prog cnd 42 [AVal.str s,AVal.int IntKind.u8 (10)] (AHeap.mk (AHeap.next H+7) (H.2)) (AVal.slice lo n c) H1∧bif Nat.ble (AHeap.next H) (AHeap.next H1) && true then Runs Tryz.prog cnd (AHeap.next H) 26 (Code.loop (loopAt Tryz.prog 14 0)) [(3,AVal.slice none 0 0),(4,AVal.slice lo n c),(5,AVal.int IntKind.i64 (0))] (AHeap.mk (AHeap.next H1+1) (AHeap.blks H1)) (AExit.exit 0) [(3,rv)] H2∧bif Nat.ble (AHeap.next H) (AHeap.next H2) && true then bif Nat.ble (AHeap.next H) (AHeap.next H2+2)then K0 rv (AHeap.mk (AHeap.next H2+2) (AHeap.blks H2))else False else False else False else False else False else False else False) :
    ∃ v h1,FDoes Tryz.prog cnd 14 [.str s] H v h1∧K0 v h1 :=
  tcall_does env_ok mixed noSpecs_ok (hs:= .hint (.val 2001 (AVal.bool false)) (.hint (.act 4001 (AVal.slice lo n c) fun x=>H1) (.hint (.keep [3,4,5]) (.hint (.loop [(3,rv)] H2 (AExit.exit 0)) .nil)))) (by kernel_rfl) vc
theorem dr0_vc(H:AHeap)(K0:AVal→AHeap→Prop)(vc:bif Nat.ble (AHeap.next H) (AHeap.next H) && true then bif Nat.ble (AHeap.next H) (AHeap.next H+1) && true then bif Nat.ble (AHeap.next H) (AHeap.next H+2) && true then bif Nat.ble (AHeap.next H) (AHeap.next H+4) && true then bif Nat.ble (AHeap.next H) (AHeap.next H+6)then K0 (AVal.slice none 0 0) (AHeap.mk (AHeap.next H+4+2) (AHeap.blks (AHeap.mk (AHeap.next H+2+2) (AHeap.blks (AHeap.mk (AHeap.next H+1+1) (AHeap.blks (AHeap.mk (AHeap.next H+1) (AHeap.blks H))))))))else False else False else False else False else False) :
    ∃ v h1,FDoes Tryz.prog cnd 14 [.str []] H v h1∧K0 v h1 :=
  tcall_does env_ok mixed noSpecs_ok (hs:= .nil) (by kernel_rfl) vc
end Go.Proofs.YtjpfnbihopoeeaaGreatDoor
namespace Go.Proofs.YtjpfnbihopoeeaaGreatDoor
open Go.Lift
set_option maxRecDepth 1000000
theorem succI(i:Nat):(i:Int)+1=((i+1:Nat):Int):=by omega
theorem boolT {p:Prop}[Decidable p](h:p):some (AVal.bool (decide p))=some (AVal.bool true):=by rw [decide_eq_true h]
theorem boolF {p:Prop}[Decidable p](h: ¬p):some (AVal.bool (decide p))=some (AVal.bool false):=by rw [decide_eq_false h]
theorem sr_loop {B q1 q2 ca cb:Nat}{ao bo:Option AAddr}{l:List Bys}(hl:l.length<2^60): ∀ (k i:Nat) (H:AHeap),i+k=l.length→B≤H.next→Rd H q1 (.slice ao l.length ca) (l.map AVal.str)→Rd H q2 (.slice bo l.length cb) (l.map AVal.str) →
    ∃ n,H.next≤n∧Loops Tryz.prog cnd B 26 (loopAt Tryz.prog 30 0) [(0,.slice ao l.length ca),(1,.slice bo l.length cb),(5,.int .i64 (i:Nat))] H (.exit 0) [(0,.slice ao l.length ca),(1,.slice bo l.length cb),(5,.int .i64 (l.length:Nat))] ⟨n,H.blks⟩:=by
  intro k
  induction k with
  | zero =>
    intro i H hi hB r1 r2
    obtain rfl:i=l.length:=by omega
    obtain⟨e,F1,h1,hr,rfl,rfl,rfl⟩:=srE_vp H B l.length l.length ao bo ca cb (fun e F1 h1=>e= .exit 0∧F1= [(0,.slice ao l.length ca),(1,.slice bo l.length cb),(5,.int .i64 (l.length:Nat))]∧h1=up H 4) (bifL hB ⟨boolF (by omega),rfl,rfl,rfl⟩)
    exact⟨H.next+4,by omega,Loops.last (by simp) hr⟩
  | succ k ih =>
    intro i H hi hB r1 r2
    have hlt:i<l.length:=by omega
    obtain⟨a,a1,a2,a3⟩:=r1.txt hlt
    obtain⟨b,b1,b2,b3⟩:=r2.txt hlt
    obtain⟨e,F1,h1,hr,rfl,rfl,rfl⟩:=srS_vp H B l.length i ao bo ca cb a b l[i] (fun e F1 h1=>e= .normal∧F1= [(0,.slice ao l.length ca),(1,.slice bo l.length cb),(5,.int .i64 ((i+1:Nat):Int))]∧h1=up H 16)
      (bifL hB ⟨boolT (by omega),bifL (by omega) ⟨a1,a3 _,b1,b3 _,by simp,bifL (by omega) ⟨⟨by omega,by omega⟩,rfl,by rw [succI],rfl⟩⟩⟩)
    obtain⟨n,hn,L⟩:=ih (i+1) (up H 16) (by omega) (by show B≤H.next+16;omega) (r1.fr (Fr.up H 16 []) (by simp)) (r2.fr (Fr.up H 16 []) (by simp))
    have hn:H.next+16≤n:=hn
    exact⟨n,by omega,Loops.round hr (Ent.refl _ _ _ _) L⟩
theorem sr_does {H:AHeap}{q1 q2:Nat}{va vb:AVal}{l:List Bys}(hl:l.length<2^60)(r1:Rd H q1 va (l.map AVal.str))(r2:Rd H q2 vb (l.map AVal.str)): ∃ n,H.next≤n∧FDoes Tryz.prog cnd 30 [va,vb] H (.bool true) ⟨n,H.blks⟩:=by
  obtain⟨ao,ca,rfl⟩:=r1.sl
  obtain⟨bo,cb,rfl⟩:=r2.sl
  rw [List.length_map]at r1 r2 ⊢
  obtain⟨n,hn,L⟩:=sr_loop (B:=H.next) hl l.length 0 (up H 7) (by omega) (by show H.next≤H.next+7;omega) (r1.fr (Fr.up H 7 []) (by simp)) (r2.fr (Fr.up H 7 []) (by simp))
  have hn:H.next+7≤n:=hn
  obtain⟨v,h1,hd,rfl,rfl⟩:=sr_vc H ⟨n,H.blks⟩ l.length ao bo ca cb (fun v h1=>v= .bool true∧h1=⟨n+1,H.blks⟩)
    (bifL (Nat.le_refl _) (bifL (by omega) ⟨by simp,bifL (by omega) ⟨Runs.of_loops L,bifL (by show H.next≤n;omega) (condL (by show H.next≤n+1;omega) ⟨rfl,rfl⟩)⟩⟩))
  exact⟨n+1,by omega,hd⟩
theorem sm_loop {B B1 B2 E1 E2 o1 o2 ca cb N:Nat}{ao bo:Option AAddr}{rs1 rs2:List Rr}(he:lsOf rs1=lsOf rs2)(hN:N=rs1.length)(hN2:N=rs2.length)(hl:N<2^60)(hs: ∀ r∈rs1,r.l.length<2^60): ∀ (k i:Nat) (H:AHeap),i+k=N→B≤H.next→Tr H B1 E1 (.slice ao N ca) o1 rs1→Tr H B2 E2 (.slice bo N cb) o2 rs2 →
    ∃ n,H.next≤n∧Loops Tryz.prog cnd B 29 (loopAt Tryz.prog 16 0) [(0,.slice ao N ca),(1,.slice bo N cb),(5,.int .i64 (i:Nat))] H (.exit 0) [(0,.slice ao N ca),(1,.slice bo N cb),(5,.int .i64 (N:Nat))] ⟨n,H.blks⟩:=by
  intro k
  induction k with
  | zero =>
    intro i H hi hB r1 r2
    obtain rfl:i=N:=by omega
    obtain⟨e,F1,h1,hr,rfl,rfl,rfl⟩:=smE_vp H B i i ao bo ca cb (fun e F1 h1=>e= .exit 0∧F1= [(0,.slice ao i ca),(1,.slice bo i cb),(5,.int .i64 (i:Nat))]∧h1=up H 4) (bifL hB ⟨boolF (by omega),rfl,rfl,rfl⟩)
    exact⟨H.next+4,by omega,Loops.last (by simp) hr⟩
  | succ k ih =>
    intro i H hi hB r1 r2
    have h1:i<rs1.length:=by omega
    have h2:i<rs2.length:=by omega
    obtain⟨a,a1,a2,a3⟩:=r1.row h1
    obtain⟨b,b1,b2,b3⟩:=r2.row h2
    have e1:rs1[i].l=rs2[i].l:=by
      have:=congrArg (fun l=>l[i]?) he
      simpa [h1,h2]using this
    have q1:=(r1.inn _ (List.getElem_mem h1)).fr (Fr.up H 14 []) (by simp)
    have q2:=(r2.inn _ (List.getElem_mem h2)).fr (Fr.up H 14 []) (by simp)
    rw [← e1]at q2
    obtain⟨m,hm,D⟩:=sr_does (hs _ (List.getElem_mem h1)) q1 q2
    have hm:H.next+14≤m:=hm
    obtain⟨e,F1,h1',hr,rfl,rfl,rfl⟩:=smS_vp H ⟨m,H.blks⟩ B N i ao bo ca cb a b rs1[i].v rs2[i].v (fun e F1 h1=>e= .normal∧F1= [(0,.slice ao N ca),(1,.slice bo N cb),(5,.int .i64 ((i+1:Nat):Int))]∧h1=⟨m+5,H.blks⟩)
      (bifL hB ⟨boolT (by omega),bifL (by omega) ⟨a1,a3 _,by omega,b1,b3 _,by omega,⟨D⟩,bifL (by show B≤m;omega) (bifL (by show B≤m+2;omega) ⟨⟨by omega,by omega⟩,rfl,by rw [succI],rfl⟩)⟩⟩)
    have f:Fr H ⟨m+5,H.blks⟩ []:=⟨by show H.next≤m+5;omega,fun _ _ _=>rfl⟩
    obtain⟨n,hn,L⟩:=ih (i+1) ⟨m+5,H.blks⟩ (by omega) (by show B≤m+5;omega) (r1.fr f (by simp)) (r2.fr f (by simp))
    have hn:m+5≤n:=hn
    exact⟨n,by omega,Loops.round hr (Ent.refl _ _ _ _) L⟩
theorem same_does {H:AHeap}{B1 B2 E1 E2 o1 o2:Nat}{va vb:AVal}{rs1 rs2:List Rr}(he:lsOf rs1=lsOf rs2)(hl:rs1.length<2^60)(hs: ∀ r∈rs1,r.l.length<2^60)(r1:Tr H B1 E1 va o1 rs1)(r2:Tr H B2 E2 vb o2 rs2) :
    ∃ n,H.next≤n∧FDoes Tryz.prog cnd 16 [va,vb] H (.bool true) ⟨n,H.blks⟩:=by
  obtain⟨ao,ca,rfl⟩:=r1.out.sl
  obtain⟨bo,cb,rfl⟩:=r2.out.sl
  have hl2:rs2.length=rs1.length:=by have:=congrArg List.length he;simpa using this.symm
  rw [List.length_map]at r1 r2 ⊢
  rw [List.length_map]
  rw [hl2]at r2 ⊢
  obtain⟨n,hn,L⟩:=sm_loop (B:=H.next) he rfl hl2.symm hl hs rs1.length 0 (up H 7) (by omega) (by show H.next≤H.next+7;omega) (r1.fr (Fr.up H 7 []) (by simp)) (r2.fr (Fr.up H 7 []) (by simp))
  have hn:H.next+7≤n:=hn
  obtain⟨v,h1,hd,rfl,rfl⟩:=sm_vc H ⟨n,H.blks⟩ rs1.length ao bo ca cb (fun v h1=>v= .bool true∧h1=⟨n+1,H.blks⟩)
    (bifL (Nat.le_refl _) (bifL (by omega) ⟨by simp,bifL (by omega) ⟨Runs.of_loops L,bifL (by show H.next≤n;omega) (condL (by show H.next≤n+1;omega) ⟨rfl,rfl⟩)⟩⟩))
  exact⟨n+1,by omega,hd⟩
end Go.Proofs.YtjpfnbihopoeeaaGreatDoor
