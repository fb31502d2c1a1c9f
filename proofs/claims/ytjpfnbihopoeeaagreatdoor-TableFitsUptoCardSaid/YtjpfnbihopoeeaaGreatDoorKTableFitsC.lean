/-
  Parts of the proof of TableFits.
-/
import Derived.Lib.Bytealg
import Derived.Shelf.Strings.Count
import Derived.Shelf.Strings.Search3
import Derived.Shelf.Strings.Search2
import Derived.Shelf.Small.Strs
import Derived.ProofKit
import Derived.OpenShut
import Derived.ChangeOld
import Derived.HandedShaped
import Derived.Deep.Matrix
import Derived.Deep.Slices
import Derived.Test.YtjpfnbihopoeeaaGreatDoorKTableFitsB
set_option maxRecDepth 1000000
set_option linter.unusedSectionVars false
set_option linter.unusedVariables false
set_option linter.unusedSimpArgs false
namespace Go.ba
noncomputable section
abbrev a6:=List (Nat×J)
def gb:a6→Nat→Option J
 |[],_=>none
 |(k,v)::r,t=>cond (Nat.beq k t) (some v) (gb r t)
def uO(t:Nat):a6→a6
 |[]=> []
 |(k,v)::r=>cond (Nat.beq k t) (uO t r) ((k,v)::uO t r)
def xS(F:a6)(d:Option Tmp)(v:J):a6 :=
 match d with
 |some d=>(d,v)::uO d F
 |none=>F
def oA(F:a6):List Nat→a6
 |[]=> []
 |t::r=>match gb F t with|some v=>(t,v)::oA F r|none=>oA F r
def Has(F:a6)(s:List J):Prop:= ∀t v,gb F t=some v→s[t]? =some v
theorem my(a b:Nat):(a=b∧Nat.beq a b=true)∨(a≠b∧Nat.beq a b=false):=by
 by_cases h:a=b
 ·exact .inl ⟨h,beq_true h⟩
 ·exact .inr ⟨h,beq_false h⟩
theorem ny(k:Nat)(v:J)(r:a6)(t:Nat):gb ((k,v)::r) t=if k=t then some v else gb r t:=by simp only [gb];rcases my k t with ⟨h,e⟩|⟨h,e⟩<;>simp [h,e]
theorem BN(d t:Nat)(h:d≠t):∀(F:a6),gb (uO d F) t=gb F t
 |[]=>rfl
 |(k,v)::r=>by
  simp only [uO];rcases my k d with ⟨az,e⟩|⟨az,e⟩
  ·rw [e,cond_true,ny,if_neg (by omega),BN d t h r]
  ·rw [e,cond_false,ny,ny,BN d t h r]
theorem Has.set{F:a6}{s:List J}(hs:Has F s){d:Option Tmp}(aM:∀t,d=some t→t<s.length)(v:J):Has (xS F d v) (gE s d v):=by
 cases d with
 |none=>exact hs
 |some d =>
  intro t u hu;have Nn:=aM d rfl;simp only [xS,ny]at hu;simp only [gE,List.getElem?_set];by_cases h:d=t
  ·subst h;rw [if_pos rfl]at hu;rw [if_pos rfl,if_pos Nn];exact hu
  ·rw [if_neg h,BN d t h]at hu;rw [if_neg h];exact hs t u hu
theorem xT{F:a6}{t:Nat}{v:J} :∀{l:List Nat},gb (oA F l) t=some v→gb F t=some v
 |[],h=>by cases h
 |k ::r,h=>by
  simp only [oA]at h;split at h
  ·rename_i u hu;rw [ny]at h;split at h
   ·rename_i e;subst e;rw [hu];exact h
   ·exact xT h
  ·exact xT h
def a1(F:a6):Operand→J
 |.tmp t=>match gb F t with|some v=>v|none=> .undef
 |.const v=>o3 v
 |.global _=> .undef
 |.func f=> .func (.func f) [] []
def sw(F:a6):Operand→Bool
 |.tmp t=>match gb F t with|some _=>true|none=>false
 |_=>true
theorem Has.get{F:a6}{s:List J}(hs:Has F s){o:Operand}(az:sw F o=true):a1 F o=cK s o:=by
 cases o with
 |tmp t =>
  simp only [sw]at az;split at az
  ·rename_i v a7;simp only [a1,cK,a7,List.getD_eq_getElem?_getD,hs t v a7,Option.getD_some]
  ·cases az
 |const v=>rfl
 |global g=>rfl
 |func f=>rfl
def BO(ops:Array Oper)(F:a6)(o:Oper):Option Bool :=
 match o.guard with
 |none=>some true
 |some (j,want) =>
  match (ops[j]?).bind (·.dst)with
  |some d =>
   match gb F d with
   |some (.bool b)=>some (b == want)
   |some (.tuple [])=>some false
   |_=>none
  |none=>none
theorem Gp{ops:Array Oper}{F:a6}{s:List J}(hs:Has F s){o:Oper}{b:Bool}(h:BO ops F o=some b):il ops s o=some b:=by
 unfold BO at h;unfold il;split at h
 ·rename_i an;simp only [an];exact h
 ·rename_i j want an;simp only [an];split at h
  ·rename_i d aM;simp only [aM];split at h
   ·rename_i fZ ao;simp only [hs _ _ ao];exact h
   ·rename_i ao;simp only [hs _ _ ao];exact h
   ·cases h
  ·cases h
inductive hp where
 |val (i:Nat) (v:J)
 |act (i:Nat) (v:J) (g:I→I)
 |Gq (i:Nat) (v:J) (g:I→I)
 |cI (i:Nat) (v:J)
 |Gr (i:Nat) (v:J) (g:I→I) (k:Nat)
 |go (i:Nat)
 |fk (i:Nat) (e:J)
 |hq (i:Nat) (e:J)
 |guard (i:Nat) (b:Bool)
 |test (t:Nat) (b:Bool)
 |keep (l:List Nat)
 |loop (F:a6) (h:I) (e:bx)
 |cut (F:a6) (h:I) (e:bx)
 |cell (v:J)
 |bk (i:Nat) (v:J) (g:I→I)
 |Gs (i:Nat) (v:J) (g:I→I)
 |run (i m:Nat)
 |Gt (i m:Nat)
 |rounds (n:Nat)
 |enter (i:Nat)
def bz:da:=fun _ _ _=>none
structure bY(P:Program)(C:(Nat→Prop)→World→Prop)(f:FuncId)(args:List J)(h:I)(v:J)(h':I):Prop where
 uP:aZ P C f args h v h'
structure fD where
 f:FuncId
 args:List J
 h:I
 v:J
 h':I
def fD.holds(call:da)(k:fD):Prop:=call k.f k.args k.h=some (k.v,k.h')
abbrev Gu(n:Int):Prop:= -9223372036854775808≤n∧n≤9223372036854775807
def mz(k:IntKind)(n:Int):Prop :=
 match k with
 |.i64=>Gu n
 |.i8=> -128≤n∧n≤127
 |.i32=> -2147483648≤n∧n≤2147483647
 |.u8=>0≤n∧n≤255
 |k=>k.min≤n∧n≤k.max
theorem oB{k:IntKind}{n:Int}(h:mz k n):k.wrap n=n:=by cases k<;>simp only [mz,Gu,IntKind.min,IntKind.max,IntKind.signed,IntKind.bits,IntKind.wrap]at h⊢ <;>simp at h⊢ <;>omega
def bV(k:IntKind)(x y:Int):Int:=k.wrap (BitVec.ofInt k.bits x &&& BitVec.ofInt k.bits y).toNat
def dn(k:IntKind)(x y:Int):Int:=k.wrap (BitVec.ofInt k.bits x ||| BitVec.ofInt k.bits y).toNat
def xU(k:IntKind)(x y:Int):Int:=k.wrap (BitVec.ofInt k.bits x ^^^ BitVec.ofInt k.bits y).toNat
def Gv(k:IntKind)(x y:Int):Int:=k.wrap (BitVec.ofInt k.bits x &&& ~~~(BitVec.ofInt k.bits y)).toNat
def j1(k:IntKind)(x y:Int):Int:=k.wrap (x*2^(min y.toNat k.bits))
def bE(k:IntKind)(x y:Int):Int:=x.fdiv (2^(min y.toNat k.bits))
section
variable(P:Program)(E:bh)
def BP(nid : Nat)(ρ:Operand→J)(h:I)(o:Op):Option (J×I×Prop) :=
 match o with
 |.binOp op t x y _ =>
  match ρ x,ρ y with
  |.int k a,.int k' b =>
   match op with
   |.shl=>some (.int k (j1 k a b),h,0≤b)
   |.shr=>some (.int k (bE k a b),h,0≤b)
   |_ =>
   match decEq k k' with
   |isTrue _ =>
    match op with
    |.and=>some (.int k (bV k a b),h,True)
    |.or=>some (.int k (dn k a b),h,True)
    |.xor=>some (.int k (xU k a b),h,True)
    |.andNot=>some (.int k (Gv k a b),h,True)
    |.add=>some (.int k (a+b),h,mz k (a+b))
    |.sub=>some (.int k (a-b),h,mz k (a-b))
    |.mul=>some (.int k (a*b),h,mz k (a*b))
    |.quo=>some (.int k (a.tdiv b),h,b≠0∧mz k (a.tdiv b))
    |.rem=>some (.int k (a.tmod b),h,b≠0)
    |_=>none
   |isFalse _=>none
  |.str a,.str b =>
   match op with
   |.add=>some (.str (a++b),h,a.length+b.length<2^62)
   |_=>none
  |_,_=>none
 |.unOp op t x =>
  match op,ρ x with
  |.xor,.int k n=>some (.int k (xU k (if k.signed then-1 else k.max) n),h,True)
  |.neg,.int k n=>some (.int k (0-n),h,mz k (0-n))
  |_,_=>none
 |.index t x i =>
  match E.D t,ρ x,ρ i with
  |some d,.str s,.int _ i =>
   match d.kind with
   |.string=>some (.int .u8 (s.getD i.toNat 0).toNat,h,0≤i∧i<s.length)
   |_=>none
  |_,_,_=>none
 |.slice t x aB ac mx =>
  match mx with
  |some _=>none
  |none =>
   match E.D t,ρ x with
   |some d,.str s =>
    match d.kind with
    |.string =>
     match aB.map ρ,ac.map ρ with
     |none,none=>some (.str s,h,True)
     |some (.int _ l),none=>some (.str (s.drop l.toNat),h,0≤l∧l≤s.length)
     |none,some (.int _ u)=>some (.str (s.take u.toNat),h,0≤u∧u≤s.length)
     |some (.int _ l),some (.int _ u)=>some (.str ((s.take u.toNat).drop l.toNat),h,0≤l∧l≤u∧u≤s.length)
     |_,_=>none
    |_=>none
   |some d,.slice (some a) len cap =>
    match d.kind with
    |.slice e =>
     match E.D e with
     |some b' =>
      cond (Nat.beq a.fld 0&&Nat.beq a.es b'.size)
      (match aB.map ρ,ac.map ρ with
      |none,none=>some (.slice (some a) len cap,h,len≤cap)
      |some (.int _ l),none=>some (.slice (some {a with idx:=a.idx+l.toNat}) (len-l.toNat) (cap-l.toNat),h,0≤l∧l≤len∧len≤cap)
      |none,some (.int _ u)=>some (.slice (some a) u.toNat cap,h,0≤u∧u≤cap)
      |some (.int _ l),some (.int _ u)=>some (.slice (some {a with idx:=a.idx+l.toNat}) (u.toNat-l.toNat) (cap-l.toNat),h,0≤l∧l≤u∧u≤cap)
      |_,_=>none) none
     |none=>none
    |_=>none
   |_,_=>none
 |.indexAddr t x i =>
  match E.D t,ρ x,ρ i with
  |some d,.slice (some a) len _,.int _ i =>
   match d.kind with
   |.slice e =>
    match E.D e with
    |some b'=>cond (Nat.beq a.fld 0&&Nat.beq a.es b'.size) (some (.ptr (some {a with idx:=a.idx+i.toNat}),h,0≤i∧i<len)) none
    |none=>none
   |_=>none
  |_,_,_=>none
 |.convert s d x =>
  match E.D s,E.D d,ρ x with
  |some _,some dd,.int _ n=>match dd.kind with|.int k=>some (.int k n,h,mz k n)|_=>none
  |_,_,_=>none
 |.call c =>
  match c.callee with
  |.builtin .append =>
   match c.args.toList.map ρ,c.argTypes[0]?,c.argTypes[1]? with
   |[.slice (some a) len cap,x],some t,some u =>
    match E.D u,E.D t,h.get a.id with
    |some kl,some d,some b =>
     match d.kind with
     |.slice e =>
      match E.D e with
      |some b' =>
       match gj b'.size x h with
       |some (bK::h2) =>
        cond ((match kl.kind with|.slice _=>true|.string=>true|_=>false)&&Nat.blt 0 b'.size&&b'.o7&&Nat.beq a.fld 0&&Nat.beq a.es b'.size&&!b.exact&&!b.ro&&(match b.ty with|none=>true|some q=>Nat.beq q.1 e&&Nat.beq q.2 0))
         (some (.slice (some {a with ver:=a.ver+1}) (len+(bK::h2).length) (len+(bK::h2).length),h.set a.id (b.grow (bK::h2)),
          a.ver=b.ver∧a.idx+len=b.a'.length∧cap<len+(bK::h2).length∧(len+(bK::h2).length+(len+(bK::h2).length)/4+512)*b'.bytes≤2^48∧len+(bK::h2).length<2^62)) none
       |_=>none
      |none=>none
     |_=>none
    |_,_,_=>none
   |_,_,_=>none
  |_=>none
 |.makeSlice t l c =>
  match E.D t,ρ l,ρ c with
  |some d, .int _ l,.int _ c =>
   match d.kind with
   |.slice e =>
    match E.D e with
    |some x =>
     match x.zero with
     |some z =>
      cond (Nat.blt 0 x.size&&z.fits x.kind.isAgg x.size)
       (some (ii nid x.size l.toNat c.toNat,h.set nid (.made (List.replicate c.toNat z) x.size true),0≤l∧l≤c∧c<2^62∧x.bytes*c≤2^48)) none
     |none=>none
    |none=>none
   |_=>none
  |_,_,_=>none
 |_=>none
theorem No{nid:Nat}{ρ:Operand→J}{h h':I}{o:Op}{v:J}{p:Prop}(k:BP E nid ρ h o=some (v,h',p))(ag:p)(call:da):aV E call nid ρ h o=some (v,h'):=by
 cases o<;>simp only [BP]at k<;>try (cases k;done)
 case binOp op t x y ty =>
  split at k
  ·rename_i k1 a k2 b ab bi;split at k
   ·simp only [Option.some.injEq,Prod.mk.injEq]at k;obtain⟨rfl,rfl,rfl⟩:=k;simp only [aV,ab,bi,nf,tk];rw [if_neg (by omega)];rfl
   ·simp only [Option.some.injEq,Prod.mk.injEq]at k;obtain⟨rfl,rfl,rfl⟩:=k;simp only [aV,ab,bi,nf,tk];rw [if_neg (by omega)];rfl
   split at k
   ·rename_i az _;subst az;simp only [aV,ab,bi,nf];split at k<;>first|(cases k;done)|(simp only [Option.some.injEq,Prod.mk.injEq]at k)
    all_goals (obtain⟨rfl,rfl,rfl⟩:=k)
    ·simp [ju,bV]
    ·simp [ju,dn]
    ·simp [ju,xU]
    ·simp [ju,Gv]
    ·simp [ju,oB ag]
    ·simp [ju,oB ag]
    ·simp [ju,oB ag]
    ·simp [ju,oB ag.2,ag.1]
    ·simp [ju,ag]
   ·cases k
  ·rename_i a b ab bi;split at k
   ·simp only [Option.some.injEq,Prod.mk.injEq]at k;obtain⟨rfl,rfl,rfl⟩:=k;simp only [aV,ab,bi,nf,tl];rw [if_pos ag];rfl
   ·cases k
  ·cases k
 case unOp op t x =>
  split at k
  ·rename_i la n ab;simp only [Option.some.injEq,Prod.mk.injEq]at k;obtain⟨rfl,rfl,rfl⟩:=k;simp [aV,ab,tm,ju,xU]
  ·rename_i la n ab;simp only [Option.some.injEq,Prod.mk.injEq]at k;obtain⟨rfl,rfl,rfl⟩:=k;simp only [aV,ab,tm,oB ag];rfl
  ·cases k
 case index t x i =>
  split at k
  ·rename_i d s la i aM ab ac;split at k
   ·rename_i az;simp only [Option.some.injEq,Prod.mk.injEq]at k;obtain⟨rfl,rfl,rfl⟩:=k;simp only [aV,ab,ac,tp,aM,az];rw [if_pos ag.1];have bH:i.toNat<s.length:=by have:=ag.2;omega
    simp [List.getD_eq_getElem?_getD,List.getElem?_eq_getElem bH]
   ·cases k
  ·cases k
 case slice t x aB ac mx =>
  split at k
  ·cases k
  ·split at k
   ·rename_i d s aM ab;split at k
    ·rename_i az;split at k<;>first|(cases k;done)|(simp only [Option.some.injEq,Prod.mk.injEq]at k)
     all_goals (obtain⟨rfl,rfl,rfl⟩:=k)
     ·rename_i U ak;simp [aV,ab,U,ak,gC,aM,az,fJ]
     ·rename_i k1 l U ak;simp only [aV,ab,U,ak,gC,aM,az,fJ,Option.map_none,Option.isSome_none,Bool.false_eq_true,if_false];rw [if_pos ⟨ag.1,ag.2⟩];simp
     ·rename_i k1 u U ak;simp only [aV,ab,U,ak,gC,aM,az,fJ,Option.map_none,Option.isSome_none,Bool.false_eq_true,if_false];rw [if_pos ⟨ag.1,ag.2⟩];simp
     ·rename_i k1 l k2 u U ak;simp only [aV,ab,U,ak,gC,aM,az,fJ,Option.map_none,Option.isSome_none,Bool.false_eq_true,if_false];rw [if_pos ⟨by omega,ag.2.2⟩];simp only;rw [if_pos ⟨ag.1,by omega⟩];simp
    ·cases k
   ·rename_i d a len cap aM ab;split at k
    ·rename_i e az;split at k
     ·rename_i b' eU;cases aw:(Nat.beq a.fld 0&&Nat.beq a.es b'.size)with
      |false=>rw [aw]at k;cases k
      |true =>
       rw [aw,cond_true]at k;simp only [Bool.and_eq_true]at aw;have cC:=Nat.eq_of_beq_eq_true aw.1;have ci:=Nat.eq_of_beq_eq_true aw.2;split at k<;>first|(cases k;done)|(simp only [Option.some.injEq,Prod.mk.injEq]at k)
       all_goals (obtain⟨rfl,rfl,rfl⟩:=k)
       ·rename_i U ak;have:len≤cap:=ag;cases a;simp only at cC ci;simp [aV,ab,U,ak,gC,aM,az,fJ,eU,cC,ci]
       ·rename_i k1 l U ak;simp only [aV,ab,U,ak,gC,aM,az,fJ,eU,Option.map_none,Option.isSome_none,Bool.false_eq_true,if_false];rw [if_pos ⟨ag.1,ag.2.1⟩];simp [cC,ci]
       ·rename_i k1 u U ak;simp only [aV,ab,U,ak,gC,aM,az,fJ,eU,Option.map_none,Option.isSome_none,Bool.false_eq_true,if_false];rw [if_pos ⟨ag.1,ag.2⟩];cases a;simp only at cC ci;simp [cC,ci]
       ·rename_i k1 l k2 u U ak;simp only [aV,ab,U,ak,gC,aM,az,fJ,eU,Option.map_none,Option.isSome_none,Bool.false_eq_true,if_false];rw [if_pos ⟨by omega,ag.2.2⟩];simp only;rw [if_pos ⟨ag.1,by omega⟩];simp [cC,ci]
     ·cases k
    ·cases k
   ·cases k
 case indexAddr t x i =>
  split at k
  ·rename_i d a len c la i aM ab ac;split at k
   ·rename_i e he;split at k
    ·rename_i b' eU;cases aw:(Nat.beq a.fld 0&&Nat.beq a.es b'.size)with
     |false=>rw [aw]at k;cases k
     |true =>
      rw [aw,cond_true]at k;simp only [Bool.and_eq_true]at aw;simp only [Option.some.injEq,Prod.mk.injEq]at k;obtain⟨rfl,rfl,rfl⟩:=k;simp only [aV,ab,ac,bb,aM,he,eU];rw [if_pos ⟨ag.1,ag.2,Nat.eq_of_beq_eq_true aw.2,Nat.eq_of_beq_eq_true aw.1⟩];rfl
    ·cases k
   ·cases k
  ·cases k
 case convert s d x =>
  split at k
  ·rename_i l8 dd la n hs aM ab;split at k
   ·rename_i k2 fM;simp only [Option.some.injEq,Prod.mk.injEq]at k;obtain⟨rfl,rfl,rfl⟩:=k;simp [aV,ab,qi,hs,aM,fM,oB ag]
   ·cases k
  ·cases k
 case call c =>
  split at k
  ·rename_i ao;split at k
   ·rename_i a len cap x t u hd bl hu;split at k
    ·rename_i kl d b qE aM an;split at k
     ·rename_i e az;split at k
      ·rename_i b' eU;split at k
       ·rename_i bK h2 eV;generalize fg:bK::h2=new at k eV;have cg:new≠[]:=by rw [←fg];simp
        generalize aw:((match kl.kind with|.slice _=>true|.string=>true|_=>false)&&Nat.blt 0 b'.size&&b'.o7&&Nat.beq a.fld 0&&Nat.beq a.es b'.size&&!b.exact&&!b.ro&&(match b.ty with|none=>true|some q=>Nat.beq q.1 e&&Nat.beq q.2 0))=BQ at k;cases BQ with
        |false=>cases k
        |true =>
         rw [cond_true]at k;simp only [Option.some.injEq,Prod.mk.injEq]at k;obtain⟨rfl,rfl,rfl⟩:=k;simp only [Bool.and_eq_true,Bool.not_eq_true']at aw;obtain⟨⟨⟨⟨⟨⟨⟨bU,b8⟩,dj⟩,eJ⟩,fB⟩,fS⟩,iu⟩,iK⟩:=aw;obtain⟨cv,bu,bS,fu,Np⟩:=ag;have cC:=Nat.eq_of_beq_eq_true eJ;have ci:=Nat.eq_of_beq_eq_true fB
         have hY:b.ty=none∨b.ty=some (e,0):=by
          cases Nq:b.ty with
          |none=>exact .inl rfl
          |some q =>
           rw [Nq]at iK;simp only [Bool.and_eq_true]at iK;exact .inr (by rw [←Nat.eq_of_beq_eq_true iK.1,←Nat.eq_of_beq_eq_true iK.2])
         have Nr:hB E.D t (.slice (some a) len cap) x nid h=some (.slice (some {a with ver:=a.ver+1}) (len+new.length) (len+new.length),h.set a.id (b.grow new)):=by simp only [hB,aM,az,eU,eV];rw [if_pos ⟨Nat.blt_eq.mp b8,fu,Np,dj⟩,if_pos ⟨ci,cC⟩];simp only [an];rw [if_neg (by omega),if_neg (by rw [fS];simp),if_pos ⟨iu,cv,bu,cg,hY⟩]
         simp only [aV,ao,hd,dk,bl,hu,qE];cases Aw:kl.kind<;>rw [Aw]at bU<;>simp only [Bool.false_eq_true]at bU<;>exact Nr
       ·cases k
      ·cases k
     ·cases k
    ·cases k
   ·cases k
  ·cases k
 case makeSlice t l c =>
  split at k
  ·rename_i d k1 ds k2 eN aM aF ar;split at k
   ·rename_i e he;split at k
    ·rename_i x ab;split at k
     ·rename_i z cl;cases ao:(Nat.blt 0 x.size&&z.fits x.kind.isAgg x.size)with
      |false=>rw [ao]at k;cases k
      |true =>
       rw [ao,cond_true]at k;simp only [Option.some.injEq,Prod.mk.injEq]at k;obtain⟨rfl,rfl,rfl⟩:=k;simp only [Bool.and_eq_true]at ao;simp only [aV,aF,ar,n4,aM,he,ab,cl];rw [if_pos ⟨ag.1,ag.2.1,ag.2.2.1,ag.2.2.2,Nat.blt_eq.mp ao.1,ao.2⟩]
     ·cases k
    ·cases k
   ·cases k
  ·cases k
def BR(ρ:Operand→J)(h:I)(o:Op)(e:J):Option (J×Prop) :=
 match o with
 |.load t x =>
  match ρ x with
  |.ptr (some a) =>
   match E.D t,h.get a.id with
   |some d,some b =>
    match n1 d.kind.isAgg d.size a.fld e with
    |some v=>some (v,b.elem? a.ver a.idx=some e)
    |none=>none
   |_,_=>none
  |_=>none
 |_=>none
theorem Ns{nid:Nat}{ρ:Operand→J}{h:I}{o:Op}{e v:J}{p:Prop}(k:BR E ρ h o e=some (v,p))(ag:p)(call:da):aV E call nid ρ h o=some (v,h):=by
 unfold BR at k;split at k
 ·rename_i t x;split at k
  ·rename_i a aW;split at k
   ·rename_i d b aM ao;split at k
    ·rename_i a8 a7;simp only [Option.some.injEq,Prod.mk.injEq]at k;obtain⟨rfl,rfl⟩:=k;simp [aV,aW,aQ,aM,ao,ag,a7]
    ·cases k
   ·cases k
  ·cases k
 ·cases k
def stOp(ρ:Operand→J)(h:I)(o:Op)(e:J):Option (I×Prop) :=
 match o with
 |.store t x y =>
  match ρ x with
  |.ptr (some a) =>
   match E.D t,h.get a.id with
   |some d,some b =>
    cond ((ρ y).fits d.kind.isAgg d.size&&!b.ro)
     (match n3 a.fld (ρ y) e with
     |some e'=>some (h.set a.id {b with a':=b.a'.set a.idx e',eD:=b.ver},a.ver=b.ver∧b.a'[a.idx]? =some e)
     |none=>none) none
   |_,_=>none
  |_=>none
 |_=>none
theorem Nt{nid:Nat}{ρ:Operand→J}{h h':I}{o:Op}{e:J}{p:Prop}(k:stOp E ρ h o e=some (h',p))(ag:p)(call:da):aV E call nid ρ h o=some (fq,h'):=by
 unfold stOp at k;split at k
 ·rename_i t x y;split at k
  ·rename_i a aW;split at k
   ·rename_i d b aM ao;cases ar:((ρ y).fits d.kind.isAgg d.size&&!b.ro)with
    |false=>rw [ar]at k;cases k
    |true =>
     rw [ar,cond_true]at k;split at k
     ·rename_i e' he;simp only [Option.some.injEq,Prod.mk.injEq]at k;obtain⟨rfl,rfl⟩:=k;simp [aV,aW,e7,aM,ao,ag.1,ag.2,he,ar]
     ·cases k
   ·cases k
  ·cases k
 ·cases k
def kI(nid:Nat)(ρ:Operand→J)(h:I)(o:Op)(v:J)(h':I):Prop×List fD :=
 match o with
 |.call c =>
  match c.callee with
  |.value f=>match ρ f with|.func (.func g) fs cs=>(bY P E.cond g (fs++c.args.toList.map ρ++cs) h v h',[⟨g,fs++c.args.toList.map ρ++cs,h,v,h'⟩])|_=>(False,[])
  |.builtin b=>(dk E b c.argTypes (c.args.toList.map ρ) nid h=some (v,h'),[])
  |_=>(False,[])
 |o=>(aV E bz nid ρ h o=some (v,h'),[])
def iN(nid:Nat)(ρ:Operand→J)(h:I)(o:Op)(v:J):Prop×List fD :=
 match o with
 |.load t x=>(match ρ x with|.ptr (some a)=>aQ E.D t a h=some v|_=>False,[])
 |.indexAddr t x i=>(bb E.D t (ρ x) (ρ i)=some v,[])
 |.index t x i=>(tp E.D t (ρ x) (ρ i)=some v,[])
 |.slice t x aB ac mx=>(gC E.D t (ρ x) (aB.map ρ) (ac.map ρ) (mx.map ρ)=some v,[])
 |.binOp op t x y _=>(nf E.D E.gB (nh x || nh y) op t (ρ x) (ρ y)=some v,[])
 |o=>kI P E nid ρ h o v h
def q2:Op→Bool
 |.call c=>match c.callee with|.value _=>false|_=>true
 |_=>true
theorem uQ{nid:Nat}{ρ:Operand→J}{h:I}{o:Op}(ag:q2 o=true)(call:da):aV E bz nid ρ h o=aV E call nid ρ h o:=by
 cases o
 case call c =>
  simp only [q2]at ag;cases ar:c.callee<;>simp only [ar]at ag<;>simp only [aV,ar];cases ag
 case makeFunc f a b=>cases f<;>rfl
 all_goals rfl
theorem xV{nid:Nat}{ρ:Operand→J}{h:I}{o:Op}{v:J}{h':I}(k:(kI P E nid ρ h o v h').1){call:da}(ar:∀c∈(kI P E nid ρ h o v h').2,c.holds call) :
 aV E call nid ρ h o=some (v,h'):=by
 cases o
 case call c =>
  simp only [kI]at k ar;split at k
  ·rename_i f aS;simp only [aS]at ar;split at k
   ·rename_i g fs cs an;simp only [an]at ar;simp only [aV,aS,an,l7];exact ar _ (List.mem_singleton.2 rfl)
   ·exact k.elim
  ·rename_i b ao;simp only [aV,ao];exact k
  ·exact k.elim
 all_goals exact(uQ E rfl call).symm.trans k
theorem Gw{nid:Nat}{ρ:Operand→J}{h:I}{o:Op}{v:J}(k:(iN P E nid ρ h o v).1){call:da}(ar:∀c∈(iN P E nid ρ h o v).2,c.holds call) :
 aV E call nid ρ h o=some (v,h):=by
 cases o
 case load t x =>
  simp only [iN]at k;split at k
  ·rename_i a aW;simp only [aV,aW,k];rfl
  ·exact k.elim
 case indexAddr t x i=>simp only [iN]at k;simp only [aV,k];rfl
 case index t x i=>simp only [iN]at k;simp only [aV,k];rfl
 case slice t x aB ac mx=>simp only [iN]at k;simp only [aV,k];rfl
 case binOp op t x y z=>simp only [iN]at k;simp only [aV,k];rfl
 all_goals exact xV P E k ar
theorem xW{nid:Nat}{ρ:Operand→J}{h:I}{o:Op}{v:J}{h':I}(k:(kI P E nid ρ h o v h').1):∀c∈(kI P E nid ρ h o v h').2,aZ P E.cond c.f c.args c.h c.v c.h':=by
 cases o
 case call jO =>
  simp only [kI]at k⊢;cases c0:jO.callee with
  |value f =>
   rw [c0]at k;simp only at k⊢;cases aS:ρ f with
   |func fn fs cs =>
    rw [aS]at k;cases fn with
    |func g =>
     simp only at k⊢;intro c ar;simp only [List.mem_singleton]at ar;subst ar;exact k.uP
    |_=>exact k.elim
   |_=>rw [aS]at k;exact k.elim
  |invoke r m=>rw [c0]at k;exact k.elim
  |builtin b=>intro c ar;simp at ar
 all_goals (intro c ar;simp [kI]at ar)
theorem Gx{nid:Nat}{ρ:Operand→J}{h:I}{o:Op}{v:J}(k:(iN P E nid ρ h o v).1):∀c∈(iN P E nid ρ h o v).2,aZ P E.cond c.f c.args c.h c.v c.h':=by
 cases o;case load t x=>intro c ar;simp [iN]at ar
 case indexAddr t x i=>intro c ar;simp [iN]at ar
 case index t x i=>intro c ar;simp [iN]at ar
 case slice t x aB ac mx=>intro c ar;simp [iN]at ar
 case binOp op t x y z=>intro c ar;simp [iN]at ar
 all_goals exact xW P E k
def cG(l:List Prop):Prop:= ∀p∈l,p
theorem cG.head{p:Prop}{l:List Prop}(h:cG (p::l)):p:=h p (by simp)
theorem cG.tail{p:Prop}{l:List Prop}(h:cG (p::l)):cG l:=fun q aw=>h q (by simp [aw])
theorem cG.left{a b:List Prop}(h:cG (a++b)):cG a:=fun p ag=>h p (by simp [ag])
theorem cG.right{a b:List Prop}(h:cG (a++b)):cG b:=fun p ag=>h p (by simp [ag])
def gW(ops:Array Oper)(aD i:Nat)(ρ:Operand→J)(h:I)(o:Op)(h':I):List Prop :=
 match cX o with
 |.load=>match jv ρ o with|some b=>cond (pa ops i || (Nat.blt b aD || (Nat.blt b (aD+ops.size)&&(ordered (c7 ops) (b-aD) i&&!n7 ops (c7 ops) i)))) [] [False]|none=> [False]
 |.store=>match l9 ρ o with|some b=>cond (k4 ops (c7 ops) i&&Nat.blt b aD) [False] []|none=> [False]
 |.call=>cond (k4 ops (c7 ops) i) [n6 (aD+ops.size) h h'=true] []
 |.hV=>cond (ma ops aD i (gr ρ o)) [] [False]
 |_=> []
def BS(aD N:Nat):List Nat→List Prop
 |[]=> []
 |b::r=>(b<aD∨N≤b)::BS aD N r
def xX(ops:Array Oper)(aD:Nat)(ρ:Operand→J)(o:Op):List Prop :=
 match cX o with
 |.load=>match jv ρ o with|some b=> [b<aD]|none=> [False]
 |.hV=>BS aD (aD+ops.size) (gr ρ o)
 |_=> [False]
theorem Gy{aD N:Nat} :∀{l:List Nat},cG (BS aD N l)→ ∀b∈l,b<aD∨N≤b
 |[],_,b,ao=>by cases ao
 |a::r,h,b,ao=>by
  rcases List.mem_cons.1 ao with rfl|ao
  ·exact h.head
  ·exact Gy h.tail b ao
theorem Gz{ops:Array Oper}{aD i:Nat}{ρ:Operand→J}{h h':I}{o:Op}(k:cG (xX ops aD ρ o)):cG (gW ops aD i ρ h o h'):=by
 unfold xX at k;unfold gW;split at k
 ·rename_i ar;rw [ar];simp only;split at k
  ·rename_i b ao;have:Nat.blt b aD=true:=Nat.blt_eq.mpr k.head;rw [this,Bool.true_or,Bool.or_true];intro p ag;cases ag
  ·exact k.head.elim
 ·rename_i ar;rw [ar];simp only
  have:ma ops aD i (gr ρ o)=true:=by
   unfold ma;rw [List.all_eq_true];intro b ao;rcases Gy k b ao with h|h
   ·simp [h]
   ·simp [h]
  rw [this];intro p ag;cases ag
 ·exact k.head.elim
def BT(aD N k:Nat):List Nat→List Prop
 |[]=> []
 |b::r=>(b<aD∨N≤b∨b=aD+k)::BT aD N k r
def BU(ops:Array Oper)(aD i k:Nat)(ρ:Operand→J)(o:Op):List Prop :=
 match cX o with
 |.hV=>cond (Nat.blt k ops.size&&ordered (c7 ops) k i) (BT aD (aD+ops.size) k (gr ρ o)) [False]
 |_=> [False]
theorem GA{aD N k:Nat} :∀{l:List Nat},cG (BT aD N k l)→ ∀b∈l,b<aD∨N≤b∨b=aD+k
 |[],_,b,ao=>by cases ao
 |a::r,h,b,ao=>by
  rcases List.mem_cons.1 ao with rfl|ao
  ·exact h.head
  ·exact GA h.tail b ao
theorem Nu{ops:Array Oper}{aD i jN:Nat}{ρ:Operand→J}{h h':I}{o:Op}(k:cG (BU ops aD i jN ρ o)):cG (gW ops aD i ρ h o h'):=by
 unfold BU at k;unfold gW;split at k
 ·rename_i ar;rw [ar];simp only
  have:ma ops aD i (gr ρ o)=true:=by
   unfold ma;rw [List.all_eq_true];intro b ao;cases aw:(Nat.blt jN ops.size&&ordered (c7 ops) jN i)with
   |false=>rw [aw]at k;exact k.head.elim
   |true =>
    rw [aw,cond_true]at k;rw [Bool.and_eq_true]at aw;have U:jN<ops.size:=Nat.blt_eq.mp aw.1;rcases GA k b ao with h|h|h
    ·simp [h]
    ·simp [h]
    ·have ak:b-aD=jN:=by omega
     rw [ak,aw.2];have aP:b<aD+ops.size:=by omega
     simp [aP]
  rw [this];intro p ag;cases ag
 ·exact k.head.elim
def BV(ops:Array Oper)(aD i:Nat)(ρ:Operand→J)(o:Op):List Prop :=
 match l' ρ o with
 |some x=>cond ((List.range ops.size).all fun k=>(k == i) || ordered (c7 ops) k i || ordered (c7 ops) i k ||
  match ops[k]? with
  |some y=>decide (cX y.op=.pure) || decide (cX y.op=.load) || decide (cX y.op=.alloc)
  |none=>true) ((gF x).map fun b=>b<aD) [False]
 |none=> [False]
theorem Nv{ops:Array Oper}{aD i:Nat}{ρ:Operand→J}{o:Op}(k:cG (BV ops aD i ρ o)):hg ops aD i ρ o=true:=by
 unfold BV at k;unfold hg;split at k
 ·rename_i x ab
  cases aw:((List.range ops.size).all fun k=>(k == i) || ordered (c7 ops) k i || ordered (c7 ops) i k ||
   match ops[k]? with
   |some y=>decide (cX y.op=.pure) || decide (cX y.op=.load) || decide (cX y.op=.alloc)
   |none=>true)with
  |false=>rw [aw]at k;exact k.head.elim
  |true =>
   rw [aw,cond_true]at k;rw [ab];simp only;rw [Bool.and_eq_true];refine⟨List.all_eq_true.2 fun b ao=> ?_,rfl⟩;have:b<aD:=k _ (List.mem_map.2 ⟨b,ao,rfl⟩);simp [this]
 ·exact k.head.elim
abbrev BW:=Option (J×I×List hp×List Prop×List fD)
def nz(draw:Bool)(ops:Array Oper)(aD i:Nat)(F:a6)(h:I)(o:Op)(hs:List hp):BW :=
 cond (q2 o)
  (match aV E bz (aD+i) (a1 F) h o with
  |some (v,h')=>some (v,h',hs,cond draw (gW ops aD i (a1 F) h o h') [],[])
  |none=>cond (!draw || (gG o&&(kn ops i || hg ops aD i (a1 F) o))) (match gD E (aD+i) (a1 F) h o with|some (v,h')=>some (v,h',hs,[],[])|none=>none) none) none
abbrev sx:=FuncId→List J→I→List hp→Option (J×I×List hp×List Prop)
def uR(en:sx)(draw:Bool)(ops:Array Oper)(aD i:Nat)(F:a6)(h:I)(o:Op)(x:hp)(hs:List hp):BW :=
 match x with
 |.enter _ =>
  match o with
  |.call c =>
   match c.callee with
   |.value f =>
    match a1 F f with
    |.func (.func g) fs cs =>
     match en g (fs++c.args.toList.map (a1 F)++cs) h hs with
     |some (v,h',dE,cc)=>some (v,h',dE,cond draw (gW ops aD i (a1 F) h o h') []++cc,[⟨g,fs++c.args.toList.map (a1 F)++cs,h,v,h'⟩])
     |none=>none
    |_=>none
   |_=>none
  |_=>none
 |.val _ v=>some (v,h,hs,(iN P E (aD+i) (a1 F) h o v).1::cond draw (gW ops aD i (a1 F) h o h) [],(iN P E (aD+i) (a1 F) h o v).2)
 |.act _ v g=>some (v,g h,hs,(kI P E (aD+i) (a1 F) h o v (g h)).1::cond draw (gW ops aD i (a1 F) h o (g h)) [],(kI P E (aD+i) (a1 F) h o v (g h)).2)
 |.Gq _ v g=>some (v,g h,hs,(kI P E (aD+i) (a1 F) h o v (g h)).1::cond draw (xX ops aD (a1 F) o) [],(kI P E (aD+i) (a1 F) h o v (g h)).2)
 |.Gr _ v g k=>some (v,g h,hs,(kI P E (aD+i) (a1 F) h o v (g h)).1::cond draw (BU ops aD i k (a1 F) o) [],(kI P E (aD+i) (a1 F) h o v (g h)).2)
 |.cI _ v=>some (v,h,hs,(iN P E (aD+i) (a1 F) h o v).1::cond draw (xX ops aD (a1 F) o) [],(iN P E (aD+i) (a1 F) h o v).2)
 |.go _ =>
  match BP E (aD+i) (a1 F) h o with
  |some (v,h',p)=>some (v,h',hs,p::cond draw (gW ops aD i (a1 F) h o h') [],[])
  |none=>none
 |.fk _ e =>
  match BR E (a1 F) h o e with
  |some (v,p)=>some (v,h,hs,p::cond draw (gW ops aD i (a1 F) h o h) [],[])
  |none=>none
 |.hq _ e =>
  match stOp E (a1 F) h o e with
  |some (h',p)=>some (fq,h',hs,p::cond draw (gW ops aD i (a1 F) h o h') [],[])
  |none=>none
 |.bk _ v g =>
  cond (gG o&&(!draw || (kn ops i || hg ops aD i (a1 F) o)))
  (match aV E bz (aD+i) (a1 F) h o with
  |none=>some (v,g h,hs,[gD E (aD+i) (a1 F) h o=some (v,g h)],[])
  |some _=>none) none
 |.Gs _ v g =>
  cond (gG o)
  (match aV E bz (aD+i) (a1 F) h o with
  |none=>some (v,g h,hs,(gD E (aD+i) (a1 F) h o=some (v,g h))::cond draw (BV ops aD i (a1 F) o) [],[])
  |some _=>none) none
 |.run _ m =>
  match o with
  |.call c =>
   match c.callee with
   |.value f =>
    match a1 F f with
    |.func (.func g) fs cs =>
     match jR P E m g (fs++c.args.toList.map (a1 F)++cs) h with
     |some (v,h')=>some (v,h',hs,cond draw (gW ops aD i (a1 F) h o h') [],[⟨g,fs++c.args.toList.map (a1 F)++cs,h,v,h'⟩])
     |none=>none
    |_=>none
   |_=>none
  |_=>none
 |.Gt _ m =>
  match o with
  |.call c =>
   match c.callee with
   |.value f =>
    match a1 F f with
    |.func (.func g) fs cs =>
     match mu P E m g (fs++c.args.toList.map (a1 F)++cs) h with
     |some (v,h')=>some (v,h',hs,cond draw (gW ops aD i (a1 F) h o h') [],[⟨g,fs++c.args.toList.map (a1 F)++cs,h,v,h'⟩])
     |none=>none
    |_=>none
   |_=>none
  |_=>none
 |_=>none
def hp.at:hp→Option Nat
 |.val i _=>some i
 |.act i _ _=>some i
 |.Gq i _ _=>some i
 |.cI i _=>some i
 |.Gr i _ _ _=>some i
 |.go i=>some i
 |.fk i _=>some i
 |.hq i _=>some i
 |.bk i _ _=>some i
 |.Gs i _ _=>some i
 |.run i _=>some i
 |.Gt i _=>some i
 |.enter i=>some i
 |_=>none
def pop(en:sx)(q:Nat)(ops:Array Oper)(draw:Bool)(aD i:Nat)(F:a6)(h:I)(o:Op)(hs:List hp):BW :=
 match hs with
 |x::r =>
  match x.at with
  |some j=>cond (Nat.beq (1000*q+i) j) (uR P E en draw ops aD i F h o x r) (nz E draw ops aD i F h o hs)
  |none=>nz E draw ops aD i F h o hs
 |[]=>nz E draw ops aD i F h o hs
def j2(call:da)(ops:Array Oper)(draw:Bool)(aD i:Nat)(ρ:Operand→J)(h:I)(o:Op):Option (J×I) :=
 if draw then eE E call ops aD i ρ h o else ik E call (aD+i) ρ h o
theorem Nw{nid:Nat}{ρ ρ':Operand→J}{h:I}{o:Op}(b1:∀x∈o.operands.toList,ρ x=ρ' x):gD E nid ρ h o=gD E nid ρ' h o:=by
 cases o
 case call c =>
  simp only [Op.operands,Call.operands,Array.toList_append,List.mem_append]at b1;simp only [gD];have aW:=r9 (xs:=c.args) (fun x ab=>b1 x (.inr ab));cases h3:c.callee with
  |value f =>
   rw [h3]at b1;simp only [aW,b1 f (.inl (by simp))]
  |invoke r m=>rfl
  |builtin b=>rfl
 case convert s d x =>
  simp only [Op.operands]at b1;simp only [gD];rw [b1 x (by simp)]
 all_goals rfl
theorem Nx{o:Op}(h:gG o=true):cX o=.pure:=by cases o<;>simp only [gG,Bool.false_eq_true]at h<;>rfl
theorem xY{call:da}{ops:Array Oper}{draw:Bool}{aD i:Nat}{ρ:Operand→J}{h h':I}{o:Op}{v:J}(aW:aV E call (aD+i) ρ h o=none)(ab:gD E (aD+i) ρ h o=some (v,h'))
 (aM:draw=true→gG o=true∧(kn ops i=true∨hg ops aD i ρ o=true)):j2 E call ops draw aD i ρ h o=some (v,h'):=by
 unfold j2;cases draw with
 |false=>simp only [Bool.false_eq_true,if_false,ik,aW,ab]
 |true =>
  obtain⟨U,ak⟩:=aM rfl;simp only [if_true];unfold eE;simp only [Nx U,aW,U,ak,and_self,if_true,ab]
theorem ix{call:da}{ops:Array Oper}{draw:Bool}{aD i:Nat}{ρ:Operand→J}{h h':I}{o:Op}{v:J}(aW:aV E call (aD+i) ρ h o=some (v,h'))(aM:cG (cond draw (gW ops aD i ρ h o h') [])) :
 j2 E call ops draw aD i ρ h o=some (v,h'):=by
 unfold j2;cases draw with
 |false=>simp only [Bool.false_eq_true,if_false,ik,aW]
 |true =>
  have aM:cG (gW ops aD i ρ h o h'):=aM;simp only [if_true];unfold eE;unfold gW at aM;cases dO:cX o<;>simp only [dO]at aM⊢ <;>try exact aW
  ·rw [aW]
  ·split
   ·rename_i b ao;rw [ao]at aM;simp only at aM;cases aw:(pa ops i || (Nat.blt b aD || (Nat.blt b (aD+ops.size)&&(ordered (c7 ops) (b-aD) i&&!n7 ops (c7 ops) i))))with
    |false=>rw [aw]at aM;exact aM.head.elim
    |true =>
     simp only [Bool.or_eq_true,Bool.and_eq_true,Bool.not_eq_true']at aw;rw [if_pos]
     ·exact aW
     ·rcases aw with aw|aw|⟨aw,dN,Ny⟩
      ·exact .inl aw
      ·exact .inr (.inl (Nat.blt_eq.mp aw))
      ·exact .inr (.inr ⟨Nat.blt_eq.mp aw,dN,Ny⟩)
   ·rename_i ao;rw [ao]at aM;exact aM.head.elim
  ·split
   ·rename_i b ao;rw [ao]at aM;simp only at aM;cases aw:(k4 ops (c7 ops) i&&Nat.blt b aD)with
    |true=>rw [aw]at aM;exact aM.head.elim
    |false =>
     rw [if_neg]
     ·exact aW
     ·rintro ⟨U,ak⟩;rw [U,Nat.blt_eq.mpr ak]at aw;cases aw
   ·rename_i ao;rw [ao]at aM;exact aM.head.elim
  ·simp only [aW];cases aF:k4 ops (c7 ops) i with
   |false=>simp
   |true =>
    rw [aF,cond_true]at aM;simp only [if_true];rw [if_pos aM.head]
  ·cases aw:ma ops aD i (gr ρ o)with
   |true=>simp [aW]
   |false=>rw [aw]at aM;exact aM.head.elim
theorem BX{ops:Array Oper}{draw:Bool}{aD i:Nat}{F:a6}{h h':I}{o:Op}{hs dE:List hp}{v:J}{cs:List Prop}{ks:List fD}(ag:nz E draw ops aD i F h o hs=some (v,h',dE,cs,ks))(ar:cG cs)(call:da) :
 j2 E call ops draw aD i (a1 F) h o=some (v,h'):=by
 unfold nz at ag;cases ao:q2 o
 ·rw [ao]at ag;cases ag
 ·rw [ao,cond_true]at ag;split at ag
  ·rename_i v1 U aW;simp only [Option.some.injEq,Prod.mk.injEq]at ag;obtain⟨rfl,rfl,_,rfl,_⟩:=ag;exact ix E ((uQ E ao call).symm.trans aW) ar
  ·rename_i aW;cases aw:(!draw || (gG o&&(kn ops i || hg ops aD i (a1 F) o)))with
   |false=>rw [aw]at ag;cases ag
   |true =>
    rw [aw,cond_true]at ag;split at ag
    ·rename_i v1 U ab;simp only [Option.some.injEq,Prod.mk.injEq]at ag;obtain⟨rfl,rfl,_,rfl,_⟩:=ag;refine xY E ((uQ E ao call).symm.trans aW) ab fun pu=> ?_
     rw [pu]at aw;simpa using aw
    ·cases ag
theorem Nz{en:sx}{ops:Array Oper}{draw:Bool}{aD i:Nat}{F:a6}{h h':I}{o:Op}{x:hp}{hs dE:List hp}{v:J}{cs:List Prop}{ks:List fD}(ag:uR P E en draw ops aD i F h o x hs=some (v,h',dE,cs,ks))(ar:cG cs){call:da}
 (az:∀c∈ks,c.holds call):j2 E call ops draw aD i (a1 F) h o=some (v,h'):=by
 unfold uR at ag;split at ag
 ·split at ag
  ·rename_i c;split at ag
   ·rename_i f aS;split at ag
    ·rename_i g fs q3 an;split at ag
     ·rename_i v1 U c' cc eW;simp only [Option.some.injEq,Prod.mk.injEq]at ag;obtain⟨rfl,rfl,_,rfl,rfl⟩:=ag;refine ix E ?_ ar.left;simp only [aV,aS,an,l7];exact az _ (List.mem_singleton.2 rfl)
     ·cases ag
    ·cases ag
   ·cases ag
  ·cases ag
 ·simp only [Option.some.injEq,Prod.mk.injEq]at ag;obtain⟨rfl,rfl,_,rfl,rfl⟩:=ag;exact ix E (Gw P E ar.head az) ar.tail
 ·simp only [Option.some.injEq,Prod.mk.injEq]at ag;obtain⟨rfl,rfl,_,rfl,rfl⟩:=ag;exact ix E (xV P E ar.head az) ar.tail
 ·simp only [Option.some.injEq,Prod.mk.injEq]at ag;obtain⟨rfl,rfl,_,rfl,rfl⟩:=ag;refine ix E (xV P E ar.head az) ?_;have bl:=ar.tail;cases draw with
  |false=>intro p ag;cases ag
  |true=>exact Gz bl
 ·simp only [Option.some.injEq,Prod.mk.injEq]at ag;obtain⟨rfl,rfl,_,rfl,rfl⟩:=ag;refine ix E (xV P E ar.head az) ?_;have bl:=ar.tail;cases draw with
  |false=>intro p ag;cases ag
  |true=>exact Nu bl
 ·simp only [Option.some.injEq,Prod.mk.injEq]at ag;obtain⟨rfl,rfl,_,rfl,rfl⟩:=ag;refine ix E (Gw P E ar.head az) ?_;have bl:=ar.tail;cases draw with
  |false=>intro p ag;cases ag
  |true=>exact Gz bl
 ·split at ag
  ·rename_i v1 U p an;simp only [Option.some.injEq,Prod.mk.injEq]at ag;obtain⟨rfl,rfl,_,rfl,_⟩:=ag;exact ix E (No E an ar.head call) ar.tail
  ·cases ag
 ·split at ag
  ·rename_i v1 p an;simp only [Option.some.injEq,Prod.mk.injEq]at ag;obtain⟨rfl,rfl,_,rfl,_⟩:=ag;exact ix E (Ns E an ar.head call) ar.tail
  ·cases ag
 ·split at ag
  ·rename_i U p an;simp only [Option.some.injEq,Prod.mk.injEq]at ag;obtain⟨rfl,rfl,_,rfl,_⟩:=ag;exact ix E (Nt E an ar.head call) ar.tail
  ·cases ag
 ·cases aw:(gG o&&(!draw || (kn ops i || hg ops aD i (a1 F) o)))with
  |false=>rw [aw]at ag;cases ag
  |true =>
   rw [aw,cond_true]at ag;simp only [Bool.and_eq_true]at aw;split at ag
   ·rename_i aW;simp only [Option.some.injEq,Prod.mk.injEq]at ag;obtain⟨rfl,rfl,_,rfl,_⟩:=ag
    have lH:q2 o=true:=by cases o<;>first|rfl|(simp [gG]at aw)
    refine xY E ((uQ E lH call).symm.trans aW) ar.head fun pu=>⟨aw.1,?_⟩
    have:=aw.2;rw [pu]at this;simpa using this
   ·cases ag
 ·cases aw:gG o with
  |false=>rw [aw]at ag;cases ag
  |true =>
   rw [aw,cond_true]at ag;split at ag
   ·rename_i aW;simp only [Option.some.injEq,Prod.mk.injEq]at ag;obtain⟨rfl,rfl,_,rfl,_⟩:=ag
    have lH:q2 o=true:=by cases o<;>first|rfl|(simp [gG]at aw)
    refine xY E ((uQ E lH call).symm.trans aW) ar.head fun pu=>⟨aw,.inr ?_⟩
    have bl:=ar.tail;rw [pu]at bl;exact Nv bl
   ·cases ag
 ·split at ag
  ·rename_i c;split at ag
   ·rename_i f aS;split at ag
    ·rename_i g fs q3 an;split at ag
     ·rename_i v1 U eW;simp only [Option.some.injEq,Prod.mk.injEq]at ag;obtain⟨rfl,rfl,_,rfl,rfl⟩:=ag;refine ix E ?_ ar;simp only [aV,aS,an,l7];exact az _ (List.mem_singleton.2 rfl)
     ·cases ag
    ·cases ag
   ·cases ag
  ·cases ag
 ·split at ag
  ·rename_i c;split at ag
   ·rename_i f aS;split at ag
    ·rename_i g fs q3 an;split at ag
     ·rename_i v1 U eW;simp only [Option.some.injEq,Prod.mk.injEq]at ag;obtain⟨rfl,rfl,_,rfl,rfl⟩:=ag;refine ix E ?_ ar;simp only [aV,aS,an,l7];exact az _ (List.mem_singleton.2 rfl)
     ·cases ag
    ·cases ag
   ·cases ag
  ·cases ag
 ·cases ag
theorem GB{en:sx}{q:Nat}{ops:Array Oper}{draw:Bool}{aD i:Nat}{F:a6}{h h':I}{o:Op}{hs dE:List hp}{v:J}{cs:List Prop}{ks:List fD}(ag:pop P E en q ops draw aD i F h o hs=some (v,h',dE,cs,ks))(ar:cG cs){call:da}
 (az:∀c∈ks,c.holds call):j2 E call ops draw aD i (a1 F) h o=some (v,h'):=by
 unfold pop at ag;split at ag
 ·split at ag
  ·rename_i j ay;cases ao:Nat.beq (1000*q+i) j
   ·rw [ao,cond_false]at ag;exact BX E ag ar call
   ·rw [ao,cond_true]at ag;exact Nz P E ag ar az
  ·exact BX E ag ar call
 ·exact BX E ag ar call
def BY(en:sx):Prop:= ∀f args h hs v h' dE cs,en f args h hs=some (v,h',dE,cs)→cG cs→aZ P E.cond f args h v h'
theorem GC(bR:fh P E)(dI:P.follows .mixedOrders=true){en:sx}(jf:BY P E en){q:Nat}{ops:Array Oper}{draw:Bool}{aD i:Nat}{F:a6}{h h':I}{o:Op}{hs dE:List hp}{v:J}{cs:List Prop}{ks:List fD}(ag:pop P E en q ops draw aD i F h o hs=some (v,h',dE,cs,ks))(ar:cG cs) :
 ∀c∈ks,aZ P E.cond c.f c.args c.h c.v c.h':=by
 have plain:∀{lh:List hp},nz E draw ops aD i F h o lh=some (v,h',dE,cs,ks)→ ∀c∈ks,aZ P E.cond c.f c.args c.h c.v c.h':=by
  intro lh ag;unfold nz at ag;cases ao:q2 o
  ·rw [ao]at ag;cases ag
  ·rw [ao,cond_true]at ag;split at ag
   ·simp only [Option.some.injEq,Prod.mk.injEq]at ag;obtain⟨_,_,_,_,rfl⟩:=ag;intro c ar;simp at ar
   ·cases aw:(!draw || (gG o&&(kn ops i || hg ops aD i (a1 F) o)))with
    |false=>rw [aw]at ag;cases ag
    |true =>
     rw [aw,cond_true]at ag;split at ag
     ·simp only [Option.some.injEq,Prod.mk.injEq]at ag;obtain⟨_,_,_,_,rfl⟩:=ag;intro c ar;simp at ar
     ·cases ag
 unfold pop at ag;split at ag
 ·split at ag
  ·rename_i j ay;cases ao:Nat.beq (1000*q+i) j
   ·rw [ao,cond_false]at ag;exact plain ag
   ·rw [ao, cond_true]at ag;unfold uR at ag;split at ag
    ·split at ag
     ·split at ag
      ·split at ag
       ·split at ag
        ·rename_i eW;simp only [Option.some.injEq,Prod.mk.injEq]at ag;obtain⟨_,_,_,rfl,rfl⟩:=ag;intro c hm;simp only [List.mem_singleton]at hm;subst hm;exact jf _ _ _ _ _ _ _ _ eW ar.right
        ·cases ag
       ·cases ag
      ·cases ag
     ·cases ag
    ·simp only [Option.some.injEq,Prod.mk.injEq]at ag;obtain⟨rfl,rfl,_,rfl,rfl⟩:=ag;exact Gx P E ar.head
    ·simp only [Option.some.injEq,Prod.mk.injEq]at ag;obtain⟨rfl,rfl,_,rfl,rfl⟩:=ag;exact xW P E ar.head
    ·simp only [Option.some.injEq,Prod.mk.injEq]at ag;obtain⟨rfl,rfl,_,rfl,rfl⟩:=ag;exact xW P E ar.head
    ·simp only [Option.some.injEq,Prod.mk.injEq]at ag;obtain⟨rfl,rfl,_,rfl,rfl⟩:=ag;exact xW P E ar.head
    ·simp only [Option.some.injEq,Prod.mk.injEq]at ag;obtain⟨rfl,rfl,_,rfl,rfl⟩:=ag;exact Gx P E ar.head
    all_goals first
     |(split at ag
       ·simp only [Option.some.injEq,Prod.mk.injEq]at ag;obtain⟨_,_,_,_,rfl⟩:=ag;intro c ar;simp at ar
       ·cases ag
       done)
     |(cases ag;done)
     |skip
    ·cases aw:(gG o&&(!draw || (kn ops i || hg ops aD i (a1 F) o)))with
     |false=>rw [aw]at ag;cases ag
     |true =>
      rw [aw,cond_true]at ag;split at ag
      ·simp only [Option.some.injEq,Prod.mk.injEq]at ag;obtain⟨_,_,_,_,rfl⟩:=ag;intro c ar;simp at ar
      ·cases ag
    ·cases aw:gG o with
     |false=>rw [aw]at ag;cases ag
     |true =>
      rw [aw,cond_true]at ag;split at ag
      ·simp only [Option.some.injEq,Prod.mk.injEq]at ag;obtain⟨_,_,_,_,rfl⟩:=ag;intro c ar;simp at ar
      ·cases ag
    ·split at ag
     ·split at ag
      ·split at ag
       ·split at ag
        ·rename_i eW;simp only [Option.some.injEq,Prod.mk.injEq]at ag;obtain⟨_,_,_,_,rfl⟩:=ag;intro c ar;simp only [List.mem_singleton]at ar;subst ar;exact aZ.xQ bR dI eW
        ·cases ag
       ·cases ag
      ·cases ag
     ·cases ag
    ·split at ag
     ·split at ag
      ·split at ag
       ·split at ag
        ·rename_i eW;simp only [Option.some.injEq,Prod.mk.injEq]at ag;obtain⟨_,_,_,_,rfl⟩:=ag;intro c ar;simp only [List.mem_singleton]at ar;subst ar;rw [sr]at eW;exact aZ.xQ bR dI eW
        ·cases ag
       ·cases ag
      ·cases ag
     ·cases ag
  ·exact plain ag
 ·exact plain ag
def BZ(n:Nat)(o:Oper):Bool :=
 match o.dst with
 |some d=>Nat.blt d n
 |none=>true
def nA(E:bh)(call:da)(ops:Array Oper)(draw:Bool)(aD:Nat)(l:List Nat)(s:eu):Option eu :=
 if draw then iH E call ops aD l s else ni E call ops aD l s
theorem NA{call:da}{ops:Array Oper}{draw:Bool}{aD i:Nat}{l:List Nat}{s:List J}{h h':I}{o:Oper}{v:J}(ap:ops[i]? =some o)(hw:il ops s o=some true)
 (aW:j2 E call ops draw aD i (cK s) h o.op=some (v,h')):nA E call ops draw aD (i::l) ⟨s,h⟩=nA E call ops draw aD l ⟨gE s o.dst v,h'⟩:=by
 unfold nA j2 at *;cases draw with
 |false=>simp only [Bool.false_eq_true,if_false]at aW⊢; simp only [ni,o',ap,hw,aW]
 |true=>simp only [if_true]at aW⊢; simp only [iH,k5,ap,hw,aW]
theorem NB{call:da}{ops:Array Oper}{draw:Bool}{aD i:Nat}{l:List Nat}{s:List J}{h:I}{o:Oper}(ap:ops[i]? =some o)(hw:il ops s o=some false) :
 nA E call ops draw aD (i::l) ⟨s,h⟩=nA E call ops draw aD l ⟨gE s o.dst fq,h⟩:=by
 unfold nA;cases draw with
 |false=>simp only [Bool.false_eq_true,if_false,ni,o',ap,hw]
 |true=>simp only [if_true,iH,k5,ap,hw]
theorem GD(s:List J)(d:Option Tmp)(v:J):(gE s d v).length=s.length:=by cases d<;>simp [gE]
structure sy(a b:List J)(h k:I)(v u:J)(h' k':I):Prop where
 agree:a=b→h=k→v=u∧h'=k'
def GF(a b:fD):List Prop:=cond (Nat.beq a.f b.f) [sy a.args b.args a.h b.h a.v b.v a.h' b.h'] []
def xZ:List fD→List Prop
 |[]=> []
 |a::r=>r.flatMap (GF a)++xZ r
open Classical in
def pM:List fD→da
 |[],_,_,_=>none
 |k::r,f,args,h=>if k.f=f∧k.args=args∧k.h=h then some (k.v,k.h')else pM r f args h
theorem GG:∀{ks:List fD}{f:FuncId}{args:List J}{h:I}{v:J}{h':I},pM ks f args h=some (v,h')→ ∃k∈ks,k.f=f∧k.args=args∧k.h=h∧k.v=v∧k.h'=h'
 |[],f,args,h,v,h',ar=>by cases ar
 |k ::r,f,args,h,v,h',ar=>by
  simp only [pM]at ar;split at ar
  ·rename_i e;simp only [Option.some.injEq,Prod.mk.injEq]at ar;exact⟨k,by simp,e.1,e.2.1,e.2.2,ar.1,ar.2⟩
  ·obtain⟨k',hm,q⟩:=GG ar;exact⟨k',by simp [hm],q⟩
theorem GH:∀{ks:List fD},cG (xZ ks)→ ∀c∈ks,c.holds (pM ks)
 |[],_,c,ar=>by simp at ar
 |k ::r,hu,c,ar=>by
  simp only [xZ]at hu;unfold fD.holds;simp only [pM];split
  ·rename_i e;rcases List.mem_cons.1 ar with rfl|hm
   ·rfl
   ·have:=hu.left
    have aw:k.v=c.v∧k.h'=c.h':=by have U:sy k.args c.args k.h c.h k.v c.v k.h' c.h':=this _ (List.mem_flatMap.2 ⟨c,hm,by unfold GF;rw [beq_true e.1];simp⟩);exact U.agree e.2.1 e.2.2
    rw [aw.1,aw.2]
  ·rename_i e;rcases List.mem_cons.1 ar with rfl|hm
   ·exact absurd ⟨rfl,rfl,rfl⟩ e
   ·exact GH hu.right c hm
theorem NC{ks:List fD}(az:∀c∈ks,aZ P E.cond c.f c.args c.h c.v c.h'){N0:Nat→Prop}{w0:World}(bA:dW N0 w0.heap.size)(dV:E.cond N0 w0):kz P N0 w0 (pM ks):=by intro f args h v h' ar φ w args' dw aX dy;obtain⟨k,hm,rfl,rfl,rfl,rfl,rfl⟩:=GG ar;exact az k hm N0 w0 bA dV φ w args' dw aX dy
def q4:Nat→List J→a6
 |_,[]=> []
 |i,v::r=>(i,v)::q4 (i+1) r
def lm(D:c5)(F:a6)(h:I):List ResultVar→List hp→Option (List J×List Prop)
 |[],[]=>some ([],[])
 |[],_=>none
 |.tmp t::r,hs=>match gb F t,lm D F h r hs with|some v,some (l,cs)=>some (v::l,cs)|_,_=>none
 |.cell a t::r,.cell v::hs=>match gb F a,lm D F h r hs with|some (.ptr (some p)),some (l,cs)=>some (v::l,(aQ D t p h=some v)::cs)|_,_=>none
 |.cell a t::r,hs =>
  match gb F a with
  |some (.ptr (some p)) =>
   match aQ D t p h with
   |some v=>match lm D F h r hs with|some (l,cs)=>some (v::l,cs)|none=>none
   |none=>none
  |_=>none
end
end
end Go.ba
namespace Go.ba
noncomputable section
open Go.RowKit
section
variable {P:Program}{E:bh}
def x0(φ:Map)(S:Nat→Prop)(w0:World)(n:Nat)(F:a6)(h:I)(a:Act)(w:World):Prop:= ∃s:List J,s.length=n∧Has F s∧fj φ S w0 ⟨s,h⟩ a w
def j3(P:Program)(C:(Nat→Prop)→World→Prop)(base n:Nat)(ot:(Exit→Act→World→Prop)→Act→World→Prop)(F:a6)(h:I)(e:bx)(dS:a6)(h':I):Prop :=
 ∀(S:Nat→Prop)(w0:World),dW S w0.heap.size→C S w0→ ∀(ec φ:Map)(a:Act)(w:World),(∀i v p,ec i v=some p→i<base)→d' ec φ base→x0 φ S w0 n F h a w →
  ∀Q:Exit→Act→World→Prop,(∀bj bN aN,d' ec bj base→x0 bj S w0 n dS h' bN aN→Q (uk e) bN aN)→ot Q a w
def aR(P:Program)(C:(Nat→Prop)→World→Prop)(base n:Nat)(c:Code)(F:a6)(h:I)(e:bx)(dS:a6)(h':I):Prop:=j3 P C base n (fun Q a w=>c.wp P Q a w) F h e dS h'
def bf(P:Program)(C:(Nat→Prop)→World→Prop)(base n:Nat)(c:Code)(F:a6)(h:I)(e:bx)(dS:a6)(h':I):Prop:=j3 P C base n (fun Q a w=>qO P c Q a w) F h e dS h'
def q5(P:Program)(body:Option Code)(c:Code):(Exit→Act→World→Prop)→Act→World→Prop :=
 match body with
 |none=>fun Q a w=>c.wp P Q a w
 |some b=>fun Q a w=>sg P b c Q a w
theorem aR.cx{C:(Nat→Prop)→World→Prop}{base n:Nat}{c:Code}{F dS:a6}{h h':I}{e:bx}(k:bf P C base n c F h e dS h'):aR P C base n (.loop c) F h e dS h' :=
 fun S w0 cb dV ec φ a w bt az r Q dZ=>FH (k S w0 cb dV ec φ a w bt az r Q dZ)
theorem bf.step{C:(Nat→Prop)→World→Prop}{base n:Nat}{c:Code}{F ah mA:a6}{h U ak:I}{e:bx}(k1:aR P C base n c F h .normal ah U)(k2:bf P C base n c ah U e mA ak):bf P C base n c F h e mA ak :=
 fun S w0 cb dV ec φ a w bt az r Q dZ=>A1 (k1 S w0 cb dV ec φ a w bt az r _ fun bj bN aN dz eZ=>k2 S w0 cb dV ec bj bN aN bt dz eZ Q dZ)
theorem bf.last{C:(Nat→Prop)→World→Prop}{base n:Nat}{c:Code}{F ah:a6}{h U:I}{e:bx}(he:e≠ .normal)(k1:aR P C base n c F h e ah U):bf P C base n c F h e ah U :=
 fun S w0 cb dV ec φ a w bt az r Q dZ=>A1 (k1 S w0 cb dV ec φ a w bt az r _ fun bj bN aN dz eZ=>by
  have:=dZ bj bN aN dz eZ;cases e with
  |normal=>exact absurd rfl he
  |_=>exact this)
def bL(base n:Nat)(F:a6)(h:I)(ah:a6)(U:I):Prop :=
 ∀(S:Nat→Prop)(w0:World)(ec φ:Map)(a:Act)(w:World),(∀i v p,ec i v=some p→i<base)→d' ec φ base→x0 φ S w0 n F h a w→ ∃sA,d' ec sA base∧x0 sA S w0 n ah U a w
theorem j3.pre{C:(Nat→Prop)→World→Prop}{base n:Nat}{ot:(Exit→Act→World→Prop)→Act→World→Prop}{F G dS:a6}{h g h':I}{e:bx}(k:j3 P C base n ot F h e dS h')(i:bL base n G g F h):j3 P C base n ot G g e dS h' :=
 fun S w0 cb dV ec φ a w bt az r Q dZ=>by obtain⟨sA,fL,cB⟩:=i S w0 ec φ a w bt az r;exact k S w0 cb dV ec sA a w bt fL cB Q dZ
theorem j3.post{C:(Nat→Prop)→World→Prop}{base n:Nat}{ot:(Exit→Act→World→Prop)→Act→World→Prop}{F dS B0:a6}{h h' l4:I}{e:bx}(k:j3 P C base n ot F h e dS h')(i:bL base n dS h' B0 l4):j3 P C base n ot F h e B0 l4 :=
 fun S w0 cb dV ec φ a w bt az r Q dZ=>k S w0 cb dV ec φ a w bt az r Q fun bj bN aN dz eZ=>by obtain⟨sA,fL,cB⟩:=i S w0 ec bj bN aN bt dz eZ;exact dZ sA bN aN fL cB
def a6.le(G F:a6):Prop:= ∀t v,gb G t=some v→gb F t=some v
theorem a6.GI(F:a6)(l:List Nat):a6.le (oA F l) F:=fun _ _ h=>xT h
theorem bL.facts{base n:Nat}{F G:a6}{h:I}(k:a6.le G F):bL base n F h G h :=
 fun S w0 ec φ a w bt az ⟨s,be,dT,r⟩=>⟨φ,az,s,be,fun t v a7=>dT t v (k t v a7),r⟩
theorem GJ:∀(l:List J)(i t:Nat)(v:J),gb (q4 i l) t=some v→i≤t∧l[t-i]? =some v
 |[],i,t,v,h=>by cases h
 |a ::r,i,t,v,h=>by
  simp only [q4,ny]at h;split at h
  ·rename_i e;subst e;exact⟨Nat.le_refl _,by simpa using h⟩
  ·rename_i e;obtain⟨U,ak⟩:=GJ r (i+1) t v h;refine⟨by omega,?_⟩;rw [show t-i=(t- (i+1))+1 by omega,List.getElem?_cons_succ];exact ak
theorem x1{D:c5}{F:a6}{h:I}{s:List J}(dT:Has F s):∀{rs:List ResultVar}{hs:List hp}{l:List J}{cs:List Prop},lm D F h rs hs=some (l,cs)→cG cs→im D rs ⟨s,h⟩=some l
 |[],hs,l,cs,ag,ar=>by
  cases hs with
  |nil=>simp only [lm,Option.some.injEq,Prod.mk.injEq]at ag;obtain⟨rfl,_⟩:=ag;rfl
  |cons a r=>simp [lm]at ag
 |.tmp t::r,hs,l,cs,ag,ar=>by
  simp only [lm]at ag;split at ag
  ·rename_i v ds q3 a7 ab;simp only [Option.some.injEq,Prod.mk.injEq]at ag;obtain⟨rfl,rfl⟩:=ag;simp only [im,x1 dT ab ar,List.getD_eq_getElem?_getD,dT t v a7];rfl
  ·cases ag
 |.cell a t::r,hs,l,cs,ag,ar=>by
  have go :∀{hs:List hp}{l:List J}{cs:List Prop},(match gb F a with
   |some (.ptr (some p)) =>
    match aQ D t p h with
    |some v=>match lm D F h r hs with|some (l,cs)=>some (v::l,cs)|none=>none
    |none=>none
   |_=>none)=some (l,cs)→cG cs→im D (.cell a t::r) ⟨s,h⟩=some l:=by
   intro hs l cs ag ar;split at ag
   ·rename_i p a7;split at ag
    ·rename_i v aF;split at ag
     ·rename_i ds q3 ab;simp only [Option.some.injEq,Prod.mk.injEq]at ag;obtain⟨rfl,rfl⟩:=ag;simp only [im,x1 dT ab ar,List.getD_eq_getElem?_getD,dT a _ a7,Option.getD_some,aF]
     ·cases ag
    ·cases ag
   ·cases ag
  cases hs with
  |nil=>exact go (hs:=[]) ag ar
  |cons q hs =>
   cases q with
   |cell v =>
    simp only [lm]at ag;split at ag
    ·rename_i p ds q3 a7 ab;simp only [Option.some.injEq,Prod.mk.injEq]at ag;obtain⟨rfl,rfl⟩:=ag;have x2:cG q3:=fun p ag=>ar p (by simp [ag])
     simp only [im,x1 dT ab x2,List.getD_eq_getElem?_getD,dT a _ a7,Option.getD_some,ar.head]
    ·cases ag
   |_=>exact go (hs:=_::hs) ag ar
theorem aZ.ND(bR:fh P E){f:FuncId}{fn:Func}{c:Code}(aS:P.funcs[f]? =some fn)(ao:fn.body=some c){args:List J}{h h':I}{e:bx}(he:e=.normal∨e=.ret){dS:a6}{rs:List hp}{l:List J}{cs:List Prop}
 (aC:aR P E.cond h.next (args.length+(fn.ntmps-args.length)) c (q4 0 args) h e dS h') (ag:lm E.D dS h' fn.results.toList rs=some (l,cs)) (ar:cG cs) (be:h.next≤h'.next):aZ P E.cond f args h (lD l) h':=by
 intro S w0 cb fE φ w args' dw q0 dy;refine⟨⟨fn,c,aS,ao⟩,calls_of_wp aS ao ?_⟩;have hlen:args'.size=args.length:=by have:=dy.length;rwa [Array.length_toList]at this
 have dT:Has (q4 0 args) (args++List.replicate (fn.ntmps-args.length) fq):=by intro t u hu;obtain⟨_,ak⟩:=GJ args 0 t u hu;simp only [Nat.sub_zero]at ak;obtain⟨bH,_⟩:=List.getElem?_eq_some_iff.1 ak;rw [List.getElem?_append_left bH];exact ak
 have r:fj φ S w0 ⟨args++List.replicate (fn.ntmps-args.length) fq,h⟩ {tmps:=args'++Array.replicate (fn.ntmps-args'.size) undef,defers:=[]} w:=by refine⟨?_,dw,q0,rfl⟩;simp only [Array.toList_append,Array.toList_replicate,hlen];exact dy.append (bd.replicate (aA.fq φ) _)
 refine aC S w0 cb fE φ φ _ w (fun i v p ag=>(dw.cO i v p ag).1) (d'.refl _ _) ⟨_,by simp,dT,r⟩ _ fun bj bN aN az ⟨bm,bK,f1,cB⟩=> ?_
 have aF:=x1 f1 ag ar;obtain⟨a8,k1,k2⟩:=FM bR.ga cB aF;rcases he with rfl|rfl
 ·exact⟨cB.defers,a8,k1,a8,bj,rfl,az,k2,cB.heap,cB.below,be⟩
 ·exact⟨cB.defers,a8,k1,a8,bj,rfl,az,k2,cB.heap,cB.below,be⟩
theorem bL.refl(base n:Nat)(F:a6)(h:I):bL base n F h F h:=fun S w0 ec φ a w bt az r=>⟨φ,az,r⟩
theorem bL.bF{base n:Nat}{F ah:a6}{h U:I}{r:Nat→Nat}(hw:xP r U h)(aS:∀t v,gb ah t=some v→t<n∧gb F t=some (v.bF r)∧cw (In U) v)
 (aT:∀i,i<base→In h i→In U i) (bw:∀i,i<base→In U i→r i=i) (cy:∀i,In U i→r i<base→i<base):bL base n F h ah U:=by
 intro S w0 ec φ a w bt az ⟨s,be,dT,q6⟩;have NE:a.tmps.toList.length=n:=by rw [q6.ef.length];exact be
 refine⟨hJ φ r U,⟨?_,?_,?_⟩,(List.range n).map (fun t=>(gb ah t).getD .undef),by simp,?_,⟨?_,q6.heap.hJ hw ?_,q6.below,q6.defers⟩⟩
 ·intro i v p ag;have ac:=bt i v p ag;have dX:=az.le i v p ag;obtain⟨_,b,ao,_⟩:=q6.heap.cO i v p dX;have fN:=aT i ac (by unfold In;rw [ao];rfl);rw [oy fN,bw i ac fN];exact dX
 ·intro i ac jT u;have:=az.new i ac jT;unfold hJ;split
  ·rename_i fN;rw [bw i ac fN];exact this u
  ·rfl
 ·intro i v p ag dD;obtain⟨fN,dX⟩:=kG ag;have U:=az.ro _ _ _ dX dD;have ak:=cy i fN (bt _ _ _ U);rw [bw i ak fN]at U;exact U
 ·intro t v a7;obtain⟨bl,_,_⟩:=aS t v a7;simp [bl,a7]
 ·refine bd.io (by simp [NE]) fun t x V ab zn=> ?_
  have bl:t<n:=by have:=(List.getElem?_eq_some_iff.1 ab).1;simpa using this
  simp only [List.getElem?_map,List.getElem?_range bl,Option.map_some,Option.some.injEq]at ab;cases aF:gb ah t with
  |none=>rw [aF]at ab;simp at ab;subst ab;simp [aA]
  |some v =>
   rw [aF]at ab;simp at ab;subst ab;obtain⟨_,g1,g2⟩:=aS t v aF;obtain⟨Wp,bo,bO⟩:=q6.ef.get (dT t _ g1);rw [zn]at bo;simp at bo;subst bo;exact aA.kF (fun i ac v p ag=>by rw [oy ac];exact ag) g2 bO
 ·intro i v p ag dD;obtain⟨_,dX⟩:=kG ag;obtain⟨_,B,_,_,_,_,_,_,hn⟩:=q6.heap.cO _ _ _ dX;exact hn.base dD
def loops:Code→List Code
 |.seq a b=>loops a++loops b
 |.cond _ a b=>loops a++loops b
 |.block _ c=>loops c
 |.scope c=>loops c
 |.loop c=>c::loops c
 |_=> []
def NF(P:Program)(f:FuncId):Code :=
 match P.funcs[f]? with
 |some fn=>match fn.body with|some c=>c|none=> .skip
 |none=> .skip
def aY(P:Program)(f:FuncId)(k:Nat):Code:=(loops (NF P f))[k]?.getD .skip
theorem aZ.bF{C:(Nat→Prop)→World→Prop}{f:FuncId}{args:List J}{h h' ak:I}{v v2:J}{r:Nat→Nat}(k:aZ P C f args h v h')(hw:xP r ak h')(a7:v=v2.bF r)(dO:cw (In ak) v2)
 (aT:∀i,i<h.next→In h' i→In ak i) (bw:∀i,i<h.next→In ak i→r i=i) (cy:∀i,In ak i→r i<h.next→i<h.next) (be:h.next≤ak.next):aZ P C f args h v2 ak:=by
 subst a7;intro S w0 cb fE φ w args' dw q0 dy;obtain⟨g1,g2⟩:=k S w0 cb fE φ w args' dw q0 dy;refine⟨g1,g2.mono fun e aN ⟨a8,bj,he,mw,a7,aC,hs,q7⟩=> ?_⟩;refine⟨a8,hJ bj r ak,he,⟨?_,?_,?_⟩,aA.kF (fun i ac v p ag=>by rw [oy ac];exact ag) dO a7,aC.hJ hw ?_,hs,be⟩
 ·intro i u p ag;have ac:=(dw.cO i u p ag).1;have dX:=mw.le i u p ag;obtain⟨_,b,ao,_⟩:=aC.cO i u p dX;have fN:=aT i ac (by unfold In;rw [ao];rfl);rw [oy fN,bw i ac fN];exact dX
 ·intro i ac jT u;have:=mw.new i ac jT;unfold hJ;split
  ·rename_i fN;rw [bw i ac fN];exact this u
  ·rfl
 ·intro i u p ag dD;obtain⟨fN,dX⟩:=kG ag;have U:=mw.ro _ _ _ dX dD;have ak:=cy i fN (dw.cO _ _ _ U).1;rw [bw i ak fN]at U;exact U
 ·intro i u p ag dD;obtain⟨_,dX⟩:=kG ag;obtain⟨_,B,_,_,_,_,_,_,hn⟩:=aC.cO _ _ _ dX;exact hn.base dD
theorem cG.nil:cG []:=fun p ag=>by simp at ag
theorem cG.cons{p:Prop}{l:List Prop}(h:p)(k:cG l):cG (p::l):=fun q aw=>by
 rcases List.mem_cons.1 aw with rfl|aw
 ·exact h
 ·exact k q aw
def ey(v:J):Prop:=(∀r,v.bF r=v)∧cw (fun _=>False) v
theorem ey.bool(b:Bool):ey (.bool b):=⟨fun _=>rfl,trivial⟩
theorem ey.int(k:IntKind)(n:Int):ey (.int k n):=⟨fun _=>rfl,trivial⟩
theorem ey.str(s:List UInt8):ey (.str s):=⟨fun _=>rfl,trivial⟩
mutual
theorem cw.mono{D uS:Nat→Prop}(h:∀i,D i→uS i):∀{v:J},cw D v→cw uS v
 |.ptr (some a),k=>by simp only [cw]at k⊢; exact h _ k
 |.slice (some a) _ _,k=>by simp only [cw]at k⊢; exact h _ k
 |.func _ f c,k=>by simp only [cw]at k⊢; exact⟨e9.mono h k.1,e9.mono h k.2⟩
 |.iface _ v,k=>by simp only [cw]at k⊢; exact cw.mono h k
 |.agg cs,k=>by simp only [cw]at k⊢; exact e9.mono h k
 |.tuple vs,k=>by simp only [cw]at k⊢; exact e9.mono h k
 |.undef,_=>by simp [cw]
 |.bool _,_=>by simp [cw]
 |.int _ _,_=>by simp [cw]
 |.str _,_=>by simp [cw]
 |.ptr none,_=>by simp [cw]
 |.slice none _ _,_=>by simp [cw]
 |.nilFunc,_=>by simp [cw]
 |.nilIface,_=>by simp [cw]
theorem e9.mono{D uS:Nat→Prop}(h:∀i,D i→uS i):∀{l:List J},e9 D l→e9 uS l
 |[],_=>by simp [e9]
 |a::l,k=>by simp only [e9]at k⊢; exact⟨cw.mono h k.1,e9.mono h k.2⟩
end
theorem aZ.bare{C:(Nat→Prop)→World→Prop}[kH C]{f:FuncId}{args:List J}{v:J}{h':I}(k:aZ P C f args ⟨0,.nil⟩ v h')(aW:∀a∈args,ey a)(a7:ey v)(H:I):aZ P C f args H v H:=by
 have k1:aZ P C f args ⟨0,.nil⟩ v ⟨0,.nil⟩:=by
  refine k.bF (r:=fun i=>i) (v2:=v) ⟨?_,?_,?_⟩ (a7.1 _).symm (cw.mono (fun i ac=>ac.elim) a7.2) ?_ ?_ ?_ (Nat.le_refl _)
  ·intro i b ao;cases ao
  ·intro i j ac;cases ac
  ·intro i b ao;cases ao
  ·intro i ac;simp at ac
  ·intro i ac;simp at ac
  ·intro i ac;cases ac
 have k2:=k1.frame (r:=fun i=>H.next+i) (H:=H) (H':=H) ⟨?_,?_,?_⟩ (xN.2 fun a hm=>cw.mono (fun i ac=>ac.elim) (aW a hm).2) (fun i _=>by simp) ?_ (by simp) (fun _ _ _=>rfl)
 ·rw [a7.1]at k2
  have:args.map (J.bF fun i=>H.next+i)=args:=by
   conv=>rhs;rw [←List.map_id args]
   exact List.map_congr_left fun a hm=>(aW a hm).1 _
  rw [this]at k2;exact k2
 ·intro i b ao;cases ao
 ·intro i j ac;cases ac
 ·intro i b ao;cases ao
 ·intro i b ao;cases ao
mutual
def J.mB:J→Bool
 |.ptr (some _)=>false
 |.slice (some _) _ _=>false
 |.func _ f c=>J.nB f&&J.nB c
 |.iface _ v=>J.mB v
 |.agg cs=>J.nB cs
 |.tuple vs=>J.nB vs
 |_=>true
def J.nB:List J→Bool
 |[]=>true
 |a::l=>J.mB a&&J.nB l
end
mutual
theorem B1:∀{v:J},v.mB=true→(∀r,v.bF r=v)∧cw (fun _=>False) v
 |.ptr (some a),k=>by simp [J.mB]at k
 |.slice (some a) _ _,k=>by simp [J.mB]at k
 |.func fn f c,k=>by simp only [J.mB,Bool.and_eq_true]at k;have U:=uT k.1;have ak:=uT k.2;exact⟨fun r=>by simp only [J.bF,U.1 r,ak.1 r],by simp only [cw];exact⟨U.2,ak.2⟩⟩
 |.iface t v,k=>by simp only [J.mB]at k;have U:=B1 k;exact⟨fun r=>by simp only [J.bF,U.1 r],by simp only [cw];exact U.2⟩
 |.agg cs,k=>by simp only [J.mB]at k;have U:=uT k;exact⟨fun r=>by simp only [J.bF,U.1 r],by simp only [cw];exact U.2⟩
 |.tuple vs,k=>by simp only [J.mB]at k;have U:=uT k;exact⟨fun r=>by simp only [J.bF,U.1 r],by simp only [cw];exact U.2⟩
 |.undef,_=>⟨fun _=>rfl,by simp [cw]⟩
 |.bool _,_=>⟨fun _=>rfl,by simp [cw]⟩
 |.int _ _,_=>⟨fun _=>rfl,by simp [cw]⟩
 |.str _,_=>⟨fun _=>rfl,by simp [cw]⟩
 |.ptr none,_=>⟨fun _=>rfl,by simp [cw]⟩
 |.slice none _ _,_=>⟨fun _=>rfl,by simp [cw]⟩
 |.nilFunc,_=>⟨fun _=>rfl,by simp [cw]⟩
 |.nilIface,_=>⟨fun _=>rfl,by simp [cw]⟩
theorem uT:∀{l:List J},J.nB l=true→(∀r,J.iw r l=l)∧e9 (fun _=>False) l
 |[],_=>⟨fun _=>rfl,by simp [e9]⟩
 |a::l,k=>by simp only [J.nB,Bool.and_eq_true]at k;have U:=B1 k.1;have ak:=uT k.2;exact⟨fun r=>by simp only [J.iw,U.1 r,ak.1 r],by simp only [e9];exact⟨U.2,ak.2⟩⟩
end
theorem ey.of{v:J}(h:v.mB=true):ey v:=B1 h
end
end
end Go.ba
namespace Go.ba
noncomputable section
open Go.RowKit
def I.rows(n:Nat)(l:List (Nat×aJ)):I:=l.foldl (fun h p=>h.set p.1 p.2) ⟨n,.nil⟩
theorem I.NG(l:List (Nat×aJ)):∀(h:I)(i:Nat)(b:aJ),(l.foldl (fun h p=>h.set p.1 p.2) h).get i=some b→h.get i=some b∨(i,b)∈l:=by
 induction l with
 |nil=>intro h i b k;exact .inl k
 |cons p r ih =>
  intro h i b k;rcases ih _ i b k with k|k
  ·rw [I.lA]at k;split at k
   ·rename_i e;simp only [Option.some.injEq]at k;exact .inr (by rw [←e,←k];exact List.mem_cons_self ..)
   ·exact .inl k
  ·exact .inr (by simp [k])
theorem I.NH(l:List (Nat×aJ)):∀(h:I)(i:Nat),(In h i∨i∈l.map (·.1))→In (l.foldl (fun h p=>h.set p.1 p.2) h) i:=by
 induction l with
 |nil=>intro h i k;rcases k with k|k;exact k;simp at k
 |cons p r ih =>
  intro h i k;refine ih _ i ?_;by_cases e:p.1=i
  ·left;unfold In;rw [I.lA,if_pos e];rfl
  ·rcases k with k|k
   ·left;unfold In;rw [I.lA,if_neg e];exact k
   ·simp only [List.map_cons,List.mem_cons]at k;rcases k with k|k
    ·exact absurd k.symm e
    ·exact .inr k
theorem I.NI(l:List (Nat×aJ)):∀(h:I),(l.foldl (fun h p=>h.set p.1 p.2) h).next=h.next:=by
 induction l with
 |nil=>intro h;rfl
 |cons p r ih=>intro h;rw [List.foldl_cons,ih];rfl
@[simp] theorem I.x3(n : Nat)(l : List (Nat × aJ)) : (I.rows n l).next = n := I.NI _ _
theorem I.q8{n:Nat}{l:List (Nat×aJ)}{i:Nat}{b:aJ}(h:(I.rows n l).get i=some b):(i,b)∈l:=by
 rcases I.NG l _ i b h with k|k
 ·cases k
 ·exact k
theorem I.sB{n:Nat}{l:List (Nat×aJ)}{i:Nat}(h:i∈l.map (·.1)):In (I.rows n l) i:=I.NH l _ i (.inr h)
theorem I.sC{n:Nat}{l:List (Nat×aJ)}{i:Nat}(h:In (I.rows n l) i):i∈l.map (·.1):=by obtain⟨b,ao⟩:=Option.isSome_iff_exists.1 h;exact List.mem_map.2 ⟨_,I.q8 ao,rfl⟩
mutual
theorem J.sD:∀(v:J),v.bF (fun i=>i)=v
 |.ptr (some a)=>rfl
 |.slice (some a) _ _=>rfl
 |.func fn f c=>by simp only [J.bF,J.x4]
 |.iface t v=>by simp only [J.bF,J.sD v]
 |.agg cs=>by simp only [J.bF,J.x4]
 |.tuple vs=>by simp only [J.bF,J.x4]
 |.undef=>rfl
 |.bool _=>rfl
 |.int _ _=>rfl
 |.str _=>rfl
 |.ptr none=>rfl
 |.slice none _ _=>rfl
 |.nilFunc=>rfl
 |.nilIface=>rfl
theorem J.x4:∀(l:List J),J.iw (fun i=>i) l=l
 |[]=>rfl
 |a::l=>by simp only [J.iw,J.sD a,J.x4 l]
end
theorem aJ.sD(b:aJ):b.bF (fun i=>i)=b:=by
 unfold aJ.bF
 have:b.a'.map (J.bF fun i=>i)=b.a':=by
  conv=>rhs;rw [←List.map_id b.a']
  exact List.map_congr_left fun e he=>J.sD e
 rw [this]
def jg(b:aJ):Prop:= ∀e∈b.a',ey e
theorem jg.bF{b:aJ}(h:jg b)(r:Nat→Nat):b.bF r=b:=by
 unfold aJ.bF
 have:b.a'.map (J.bF r)=b.a':=by
  conv=>rhs;rw [←List.map_id b.a']
  exact List.map_congr_left fun e he=>(h e he).1 r
 rw [this]
theorem ey.ints{α:Type}(l:List α)(k:IntKind)(f:α→Int):∀e∈l.map (fun x=>J.int k (f x)),ey e:=by intro e he;obtain⟨x,_,rfl⟩:=List.mem_map.1 he;exact ey.int k _
theorem ey.ox{v:J}(h:ey v)(D:Nat→Prop):cw D v:=cw.mono (fun _ k=>k.elim) h.2
def lQ(l:List Nat):Nat→Prop:=fun i=>i∈l
theorem bL.drop{base n:Nat}{F:a6}{h:I}{K:Nat}{l:List (Nat×aJ)}(aF:l.map (fun p=>h.get p.1)=l.map (fun p=>some p.2))(dL:l.all (fun p=>Nat.blt p.1 K)=true)
 (ao:(List.range base).all (fun i=>(l.map (·.1)).contains i)=true) (be:F.all (fun p=>Nat.blt p.1 n)=true) (dT:cG (F.map fun p=>cw (lQ (l.map (·.1))) p.2))
 (ar:cG (l.map fun p=> ∀e∈p.2.a',cw (lQ (l.map (·.1))) e)):bL base n F h F (I.rows K l):=by
 have hl:∀i b,(I.rows K l).get i=some b→i<K∧h.get i=some b:=by intro i b k;have hm:=I.q8 k;refine⟨Nat.blt_eq.mp (List.all_eq_true.1 dL _ hm),?_⟩;obtain⟨j,ay,e⟩:=List.mem_iff_getElem.1 hm;have U:=congrArg (fun(x:List (Option aJ))=>x[j]?) aF;simp only [List.getElem?_map,List.getElem?_eq_getElem ay,Option.map_some,e,Option.some.injEq]at U;exact U
 have pN:∀{v:J},cw (lQ (l.map (·.1))) v→cw (In (I.rows K l)) v:=cw.mono fun i ac=>I.sB ac
 refine bL.bF (r:=fun i=>i) ⟨fun i b k=>⟨by rw [I.x3];exact(hl i b k).1,by rw [aJ.sD];exact(hl i b k).2⟩,fun i j _ _ e=>e,?_⟩ ?_ ?_ ?_ ?_
 ·intro i b k e he;have hm:=I.q8 k;exact pN (ar _ (List.mem_map.2 ⟨_,hm,rfl⟩) e he)
 ·intro t v a7
  have hm:(t,v)∈F:=by
   clear be dT
   induction F with
   |nil=>cases a7
   |cons p r ih =>
    obtain⟨k,u⟩:=p;rw [ny]at a7;split at a7
    ·rename_i e;simp only [Option.some.injEq]at a7;subst e;subst a7;simp
    ·exact List.mem_cons_of_mem _ (ih a7)
  exact⟨Nat.blt_eq.mp (List.all_eq_true.1 be _ hm),by rw [J.sD];exact a7,pN (dT _ (List.mem_map.2 ⟨_,hm,rfl⟩))⟩
 ·intro i ac _;exact I.sB (by simpa using List.all_eq_true.1 ao i (List.mem_range.2 ac))
 ·intro i _ _;rfl
 ·intro i _ k;exact k
theorem aZ.NJ{P:Program}{C:(Nat→Prop)→World→Prop}[kH C]{f:FuncId}{args:List J}{h h':I}{v:J}(k:aZ P C f args h v h')(r:Nat→Nat)(v2:J)(K:Nat)(l:List (Nat×aJ))
 (aF:l.map (fun p=>h'.get (r p.1))=l.map (fun p=>some (p.2.bF r))) (a7:v=v2.bF r) (dL:l.all (fun p=>Nat.blt p.1 K)=true) (aC:((l.map (·.1)).map r).Nodup)
 (ao:(List.range h.next).all (fun i=>(l.map (·.1)).contains i&&Nat.beq (r i) i)=true) (fg:l.all (fun p=>Nat.blt p.1 h.next || Nat.ble h.next (r p.1))=true) (be:Nat.ble h.next K=true)
 (B2:cw (lQ (l.map (·.1))) v2) (ar:cG (l.map fun p=> ∀e∈p.2.a',cw (lQ (l.map (·.1))) e)):aZ P C f args h v2 (I.rows K l):=by
 have hl:∀i b,(I.rows K l).get i=some b→i<K∧h'.get (r i)=some (b.bF r):=by intro i b k;have hm:=I.q8 k;refine⟨Nat.blt_eq.mp (List.all_eq_true.1 dL _ hm),?_⟩;obtain⟨j,ay,e⟩:=List.mem_iff_getElem.1 hm;have U:=congrArg (fun(x:List (Option aJ))=>x[j]?) aF;simp only [List.getElem?_map,List.getElem?_eq_getElem ay,Option.map_some,e,Option.some.injEq]at U;exact U
 have pN:∀{v:J},cw (lQ (l.map (·.1))) v→cw (In (I.rows K l)) v:=cw.mono fun i ac=>I.sB ac
 refine k.bF (r:=r) ⟨fun i b k=>⟨by rw [I.x3];exact(hl i b k).1,(hl i b k).2⟩,?_,?_⟩ a7 (pN B2) ?_ ?_ ?_ (by rw [I.x3];exact Nat.le_of_ble_eq_true be)
 ·intro i j ac ay e;have ac:=I.sC ac;have ay:=I.sC ay;obtain⟨a,aW,rfl⟩:=List.mem_iff_getElem.1 ac;obtain⟨b,fr,rfl⟩:=List.mem_iff_getElem.1 ay;have U:((l.map (·.1)).map r)[a]'(by simpa using aW)=((l.map (·.1)).map r)[b]'(by simpa using fr):=by simpa using e
  have:=(List.getElem_inj aC).1 U;subst this;rfl
 ·intro i b k e he;have hm:=I.q8 k;exact pN (ar _ (List.mem_map.2 ⟨_,hm,rfl⟩) e he)
 ·intro i ac _;have:=List.all_eq_true.1 ao i (List.mem_range.2 ac);simp only [Bool.and_eq_true]at this;exact I.sB (by simpa using this.1)
 ·intro i ac _;have:=List.all_eq_true.1 ao i (List.mem_range.2 ac);simp only [Bool.and_eq_true]at this;exact Nat.eq_of_beq_eq_true this.2
 ·intro i ac bH;have ac:=I.sC ac;obtain⟨p,hm,rfl⟩:=List.mem_map.1 ac;have:=List.all_eq_true.1 fg p hm;simp only [Bool.or_eq_true]at this;rcases this with U|U
  ·exact Nat.blt_eq.mp U
  ·have:=Nat.le_of_ble_eq_true U;omega
def I.nC:Nat→List aJ→I→I
 |_,[],h=>h
 |i,b::r,h=>I.nC (i+1) r (h.set i b)
def I.of(l:List aJ):I:=I.nC 0 l ⟨l.length,.nil⟩
theorem I.x5:∀(l:List aJ)(i:Nat)(h:I)(j:Nat),(I.nC i l h).get j=if i≤j∧j<i+l.length then l[j-i]? else h.get j
 |[],i,h,j=>by simp only [I.nC,List.length_nil];rw [if_neg (by omega)]
 |b ::r,i,h,j=>by
  simp only [I.nC,I.x5 r,List.length_cons,I.lA];by_cases e:i=j
  ·subst e;rw [if_neg (by omega),if_pos rfl,if_pos (by omega)];simp
  ·by_cases c:i+1≤j∧j<i+1+r.length
   ·rw [if_pos c,if_pos (by omega),show j-i=(j- (i+1))+1 by omega];simp
   ·rw [if_neg c,if_neg e,if_neg (by omega)]
theorem I.B3:∀(l:List aJ)(i:Nat)(h:I),(I.nC i l h).next=h.next
 |[],i,h=>rfl
 |b::r,i,h=>by simp only [I.nC,I.B3 r];rfl
@[simp] theorem I.of_next(l : List aJ) : (I.of l).next = l.length := I.B3 _ _ _
theorem I.io(l:List aJ)(j:Nat):(I.of l).get j=l[j]? :=by
 unfold I.of;rw [I.x5];split
 ·simp
 ·rw [List.getElem?_eq_none (by omega)];rfl
theorem I.sE{l:List aJ}{j:Nat} :In (I.of l) j↔j<l.length:=by unfold In;rw [I.io];simp
def eg(ids:List Nat)(n:Nat)(i:Nat):Nat :=
 match ids[i]? with
 |some j=>j
 |none=>n+(i-ids.length)
def I.ln:List Nat→List aJ→I→I
 |j::ids,b::r,h=>I.ln ids r (h.set j b)
 |[],r,h=>I.nC h.next r {h with next:=h.next+r.length}
 |_::_,[],h=>h
def I.uU(h:I)(ids:List Nat)(l:List aJ):I:=I.ln ids l h
theorem I.GK:∀(ids:List Nat)(l:List aJ)(h:I),ids.length≤l.length→(I.ln ids l h).next=h.next+(l.length-ids.length)
 |[],l,h,_=>by simp [I.ln,I.B3]
 |j::ids,[],h,k=>by simp at k
 |j::ids,b::r,h,k=>by simp only [I.ln];rw [I.GK ids r _ (by simpa using k)];simp
theorem I.x6:∀(ids:List Nat)(l:List aJ)(h:I)(j:Nat),ids.length≤l.length→j<h.next→j ∉ ids→(I.ln ids l h).get j=h.get j
 |[],l,h,j,_,ay,_=>by simp only [I.ln];rw [I.x5,if_neg (by omega)];rfl
 |i::ids,[],h,j,k,_,_=>by simp at k
 |i::ids,b::r,h,j,k,ay,hm=>by simp only [List.mem_cons,not_or]at hm;simp only [I.ln];rw [I.x6 ids r (h.set i b) j (by simpa using k) ay hm.2,I.hX _ _ (Ne.symm hm.1)]
theorem I.GL:∀(ids:List Nat)(l:List aJ)(h:I)(i:Nat),ids.length≤l.length→ids.Nodup→(∀j∈ids,j<h.next)→i<l.length→(I.ln ids l h).get (eg ids h.next i)=l[i]?
 |[],l,h,i,_,_,_,ac=>by simp only [I.ln,eg,List.getElem?_nil,List.length_nil,Nat.sub_zero];rw [I.x5,if_pos (by omega)];congr 1;omega
 |j::ids,[],h,i,k,_,_,_=>by simp at k
 |j ::ids,b::r,h,i,k,gi,bH,ac=>by
  simp only [List.nodup_cons]at gi;simp only [I.ln];cases i with
  |zero =>
   simp only [eg,List.getElem?_cons_zero];rw [I.x6 ids r (h.set j b) j (by simpa using k) (bH j (by simp)) gi.1,I.eG]
  |succ i =>
   have e:eg (j::ids) h.next (i+1)=eg ids (h.set j b).next i:=by
    simp only [eg,List.getElem?_cons_succ,List.length_cons,I.Kd];cases ids[i]? with
    |some x=>rfl
    |none=>simp only;omega
   rw [e,I.GL ids r (h.set j b) i (by simpa using k) gi.2 (fun x ab=>bH x (by simp [ab])) (by simpa using ac)];simp
theorem aZ.up{P:Program}{C:(Nat→Prop)→World→Prop}[kH C]{f:FuncId}{args:List J}{v:J}{l ds:List aJ}(k:aZ P C f args (I.of l) v (I.of ds))(ao:∀b∈l,jg b)(fr:∀b∈ds,jg b)(pk:l.length≤ds.length)(aW:e9 (fun i=>i<l.length) args)
 {H H':I} (ids:List Nat) (be:ids.Nodup) (bH:∀j∈ids,j<H.next) (aF:ids.map H.get=l.map some) (xR:H'.next=H.next+(ds.length-l.length)) (wU:∀i,i<ds.length→H'.get (eg ids H.next i)=ds[i]?)
 (jY:∀j,j<H.next→j ∉ ids→H'.get j=H.get j):aZ P C f (args.map (J.bF (eg ids H.next))) H (v.bF (eg ids H.next)) H':=by
 have hlen:ids.length=l.length:=by have:=congrArg List.length aF;simpa using this
 have tM:∀i (ac:i<ids.length),eg ids H.next i=ids[i]:=fun i ac=>by simp [eg,List.getElem?_eq_getElem ac]
 refine k.frame (r:=eg ids H.next) ⟨?_,?_,?_⟩ ?_ ?_ ?_ ?_ ?_
 ·intro i b an;rw [I.io]at an;have ac:=(List.getElem?_eq_some_iff.1 an).1;refine⟨by rw [I.of_next];exact ac,?_⟩;rw [(ao b (List.mem_of_getElem? an)).bF,tM i (by omega)];have U:=congrArg (fun(x:List (Option aJ))=>x[i]?) aF;simp only [List.getElem?_map,List.getElem?_eq_getElem (show i<ids.length by omega),Option.map_some,an,Option.some.injEq]at U;exact U
 ·intro i j ac ay e;rw [I.sE]at ac ay;rw [tM i (by omega),tM j (by omega)]at e;exact(List.getElem_inj be).1 e
 ·intro i b an e he;rw [I.io]at an;exact(ao b (List.mem_of_getElem? an) e he).ox _
 ·exact e9.mono (fun i ac=>I.sE.2 ac) aW
 ·intro i ac;rw [I.of_next]at ac;simp only [eg,List.getElem?_eq_none (show ids.length≤i by omega),I.of_next,hlen]
 ·intro i b an _;rw [I.io]at an;rw [(fr b (List.mem_of_getElem? an)).bF,wU i (List.getElem?_eq_some_iff.1 an).1,an]
 ·rw [xR];simp
 ·intro j ay cg;refine jY j ay fun hm=> ?_
  obtain⟨i,ac,e⟩:=List.mem_iff_getElem.1 hm;exact cg i (I.sE.2 (by omega)) (by rw [tM i ac];exact e)
theorem aZ.NK{P:Program}{C:(Nat→Prop)→World→Prop}[kH C]{f:FuncId}{args:List J}{v:J}{l:List aJ}(k:aZ P C f args (I.of l) v (I.of l))(ao:∀b∈l,jg b)(aW:e9 (fun i=>i<l.length) args)
 {H:I} (ids:List Nat) (be:ids.Nodup) (bH:∀j∈ids,j<H.next) (aF:ids.map H.get=l.map some):aZ P C f (args.map (J.bF (eg ids H.next))) H (v.bF (eg ids H.next)) H:=by
 have hlen:ids.length=l.length:=by have:=congrArg List.length aF;simpa using this
 refine k.up ao ao (Nat.le_refl _) aW ids be bH aF (by simp) (fun i ac=> ?_) fun _ _ _=>rfl
 have U:=congrArg (fun(x:List (Option aJ))=>x[i]?) aF;simp only [List.getElem?_map,List.getElem?_eq_getElem (show i<ids.length by omega),List.getElem?_eq_getElem ac,Option.map_some,Option.some.injEq]at U;simp only [eg,List.getElem?_eq_getElem (show i<ids.length by omega),U,List.getElem?_eq_getElem ac]
theorem aZ.NL{P:Program}{C:(Nat→Prop)→World→Prop}[kH C]{f:FuncId}{args:List J}{v:J}{l bX:List aJ}(k:aZ P C f args (I.of l) v (I.of (l++bX)))(ao:∀b∈l,jg b)(fr:∀b∈bX,jg b)(aW:e9 (fun i=>i<l.length) args)
 {H:I} (ids:List Nat) (be:ids.Nodup) (bH:∀j∈ids,j<H.next) (aF:ids.map H.get=l.map some):aZ P C f (args.map (J.bF (eg ids H.next))) H (v.bF (eg ids H.next)) (H.uU [] bX):=by
 have hlen:ids.length=l.length:=by have:=congrArg List.length aF;simpa using this
 refine k.up ao (fun b hm=>(List.mem_append.1 hm).elim (ao b) (fr b)) (by simp) aW ids be bH aF ?_ ?_ ?_
 ·show(I.ln [] bX H).next=_
  rw [I.GK [] bX H (by simp)];simp
 ·intro i ac;show(I.ln [] bX H).get _=_;by_cases c:i<ids.length
  ·have U:=congrArg (fun(x:List (Option aJ))=>x[i]?) aF;simp only [List.getElem?_map,List.getElem?_eq_getElem c,List.getElem?_eq_getElem (show i<l.length by omega),Option.map_some,Option.some.injEq]at U;simp only [eg,List.getElem?_eq_getElem c];rw [I.x6 [] bX H _ (by simp) (bH _ (List.getElem_mem c)) (by simp),U,List.getElem?_append_left (by omega),List.getElem?_eq_getElem (show i<l.length by omega)]
  ·have e:eg ids H.next i=eg [] H.next (i-ids.length):=by simp [eg,List.getElem?_eq_none (show ids.length≤i by omega)]
   rw [List.length_append]at ac;rw [e,I.GL [] bX H (i-ids.length) (by simp) (by simp) (by simp) (by omega),List.getElem?_append_right (by omega),hlen]
 ·intro j ay hm;exact I.x6 [] bX H j (by simp) ay (by simp)
def jh:Nat→List aJ→List (Nat×aJ)
 |_,[]=> []
 |i,b::r=>(i,b)::jh (i+1) r
theorem I.GM:∀(l:List aJ)(i:Nat)(h:I),I.nC i l h=(jh i l).foldl (fun h p=>h.set p.1 p.2) h
 |[],i,h=>rfl
 |b::r,i,h=>by simp only [I.nC,jh,List.foldl_cons];exact I.GM r _ _
theorem I.B4(l:List aJ):I.of l=I.rows l.length (jh 0 l):=I.GM _ _ _
theorem GN:∀(l:List aJ)(i:Nat),(jh i l).map (·.1)=List.range' i l.length
 |[],i=>rfl
 |b::r,i=>by simp only [jh,List.map_cons,GN r,List.length_cons,List.range'_succ]
theorem B5:∀(l:List aJ)(i:Nat),(jh i l).map (·.2)=l
 |[],i=>rfl
 |b::r,i=>by simp only [jh,List.map_cons,B5 r]
theorem List.Nodup.NM{f:Nat→Nat}{n:Nat}(h:∀a∈List.range n,∀b∈List.range n,f a=f b→a=b):((List.range n).map f).Nodup:=by rw [List.nodup_iff_pairwise_ne,List.pairwise_map];refine List.Pairwise.imp_of_mem ?_ (List.nodup_range (n:=n));intro a b aW ao cg e;exact cg (h a aW b ao e)
def hK(k:Nat)(iy:List Nat)(i:Nat):Nat:=if i<k then i else(iy[i-k]?).getD 0
theorem aZ.fin{P:Program}{C:(Nat→Prop)→World→Prop}[kH C]{f:FuncId}{args:List J}{h':I}{v:J}{l:List aJ}(k:aZ P C f args (I.of l) v h')(iy:List Nat)(ds:List aJ)(v2:J)(fr:∀b∈ds,jg b)
 (hlen:ds.length=l.length+iy.length) (hl:(List.range ds.length).map (fun i=>h'.get (hK l.length iy i))=ds.map some) (a7:v=v2.bF (hK l.length iy)) (B2:cw (fun i=>i<ds.length) v2)
 (NN:iy.all (fun j=>Nat.ble l.length j)=true) (gi:iy.Nodup):aZ P C f args (I.of l) v2 (I.of ds):=by
 have sF:(jh 0 ds).map (·.1)=List.range ds.length:=by rw [GN,List.range_eq_range']
 have hh:∀j∈iy,l.length≤j:=fun j ay=>Nat.le_of_ble_eq_true (List.all_eq_true.1 NN j ay)
 have ja:∀i,l.length≤i→i<ds.length→ ∃(h:i-l.length<iy.length),hK l.length iy i=iy[i-l.length]:=by
  intro i U ak;have aP:i-l.length<iy.length:=by omega
  exact⟨aP,by simp only [hK,if_neg (show ¬i<l.length by omega),List.getElem?_eq_getElem aP,Option.getD_some]⟩
 rw [I.B4 ds];refine k.NJ (hK l.length iy) v2 ds.length (jh 0 ds) ?_ a7 ?_ ?_ ?_ ?_ (Nat.ble_eq.mpr ?_) ?_ ?_
 ·have U:(jh 0 ds).map (fun p=>h'.get (hK l.length iy p.1))=((jh 0 ds).map (·.1)).map (fun i=>h'.get (hK l.length iy i)):=by rw [List.map_map];rfl
  have ak:(jh 0 ds).map (fun p=>some (p.2.bF (hK l.length iy)))=((jh 0 ds).map (·.2)).map (fun b=>some (b.bF (hK l.length iy))):=by rw [List.map_map];rfl
  rw [U,ak,sF,B5,hl];exact List.map_congr_left fun b hm=>by rw [(fr b hm).bF]
 ·rw [List.all_eq_true];intro p ag;have:p.1∈(jh 0 ds).map (·.1):=List.mem_map.2 ⟨p,ag,rfl⟩;rw [sF]at this;exact Nat.blt_eq.mpr (List.mem_range.1 this)
 ·rw [sF];refine List.Nodup.NM ?_;intro a aW b ao e;have aW:=List.mem_range.1 aW;have ao:=List.mem_range.1 ao;by_cases bU:a<l.length<;>by_cases b8:b<l.length
  ·simpa [hK,bU,b8]using e
  ·obtain⟨aP,bQ⟩:=ja b (by omega) ao;rw [bQ,show hK l.length iy a=a by simp [hK,bU]]at e;have:=hh _ (List.getElem_mem aP);omega
  ·obtain⟨aP,bQ⟩:=ja a (by omega) aW;rw [bQ,show hK l.length iy b=b by simp [hK,b8]]at e;have:=hh _ (List.getElem_mem aP);omega
  ·obtain⟨aP,bQ⟩:=ja a (by omega) aW;obtain⟨ct,cL⟩:=ja b (by omega) ao;rw [bQ,cL]at e;have:=(List.getElem_inj gi).1 e;omega
 ·rw [List.all_eq_true,I.of_next];intro i ac;have ac:=List.mem_range.1 ac;rw [sF,Bool.and_eq_true];exact⟨by simp;omega,beq_true (by simp [hK,ac])⟩
 ·rw [List.all_eq_true,I.of_next];intro p ag;have:p.1∈(jh 0 ds).map (·.1):=List.mem_map.2 ⟨p,ag,rfl⟩;rw [sF]at this;have bH:=List.mem_range.1 this;rw [Bool.or_eq_true];by_cases c:p.1<l.length
  ·exact .inl (Nat.blt_eq.mpr c)
  ·obtain⟨aP,bQ⟩:=ja p.1 (by omega) bH;exact .inr (Nat.ble_eq.mpr (by rw [bQ];exact hh _ (List.getElem_mem aP)))
 ·rw [I.of_next];omega
 ·rw [sF];exact cw.mono (fun i ac=>List.mem_range.2 ac) B2
 ·intro p ag;obtain⟨q,aw,rfl⟩:=List.mem_map.1 ag;intro e he;exact(fr q.2 (by have:q.2∈(jh 0 ds).map (·.2):=List.mem_map.2 ⟨q,aw,rfl⟩;rwa [B5]at this) e he).ox _
theorem aZ.pure{P:Program}{C:(Nat→Prop)→World→Prop}[kH C]{f:FuncId}{args:List J}{h':I}{v:J}{l:List aJ}(k:aZ P C f args (I.of l) v h')(ao:∀b∈l,jg b)(hl:(List.range l.length).map h'.get=l.map some)(a7:ey v)
 (aW:e9 (fun i=>i<l.length) args) {H:I} (ids:List Nat) (be:ids.Nodup) (bH:∀j∈ids,j<H.next) (aF:ids.map H.get=l.map some):aZ P C f (args.map (J.bF (eg ids H.next))) H v H:=by
 have k1:=k.fin [] l v ao (by simp) (by
  rw [←hl]
  exact List.map_congr_left fun i ac=>by rw [show hK l.length [] i=i by simp [hK,List.mem_range.1 ac]]) (a7.1 _).symm (a7.ox _) rfl (by simp)
 have k2:=k1.NK ao aW ids be bH aF
 rwa [a7.1]at k2
theorem aZ.NO{P:Program}{C:(Nat→Prop)→World→Prop}[kH C]{f:FuncId}{args:List J}{h':I}{j es n c ver:Nat}{l:List aJ}{bn:aJ}(k:aZ P C f args (I.of l) (.slice (some ⟨j,ver,0,0,es⟩) n c) h')(ao:∀b∈l,jg b)(GO:jg bn)
 (hl:(List.range l.length).map h'.get=l.map some) (fg:h'.get j=some bn) (ay:l.length≤j) (aW:e9 (fun i=>i<l.length) args) {H:I} (ids:List Nat) (be:ids.Nodup) (bH:∀j∈ids,j<H.next) (aF:ids.map H.get=l.map some) :
 aZ P C f (args.map (J.bF (eg ids H.next))) H (.slice (some ⟨H.next,ver,0,0,es⟩) n c) (H.uU [] [bn]):=by
 have hlen:ids.length=l.length:=by have:=congrArg List.length aF;simpa using this
 have k1:=k.fin [j] (l++[bn]) (.slice (some ⟨l.length,ver,0,0,es⟩) n c) (fun b hm=>(List.mem_append.1 hm).elim (ao b) (fun h=>by rw [List.mem_singleton.1 h];exact GO)) (by simp) (by
  rw [List.length_append,List.length_singleton,List.range_succ,List.map_append,List.map_append]
  congr 1
  ·rw [←hl];exact List.map_congr_left fun i ac=>by rw [show hK l.length [j] i=i by simp [hK,List.mem_range.1 ac]]
  ·simp [hK,fg]) (by simp [J.bF,aO.bF,hK]) (by simp [cw]) (by simp [ay]) (by simp)
 have k2:=k1.NL ao (fun b hm=>by rw [List.mem_singleton.1 hm];exact GO) aW ids be bH aF
 have e:(J.slice (some ⟨l.length,ver,0,0,es⟩) n c).bF (eg ids H.next)=.slice (some ⟨H.next,ver,0,0,es⟩) n c:=by simp only [J.bF,aO.bF,eg,List.getElem?_eq_none (show ids.length≤l.length by omega),hlen,Nat.sub_self,Nat.add_zero]
 rwa [e]at k2
def sG(o:Option aO)(n c id ver off es:Nat):Prop:=o=some ⟨id,ver,off,0,es⟩∨(o=none∧n=0∧c=0)
theorem sG.index{o:Option aO}{n c id ver off es:Nat}(h:sG o n c id ver off es){D:c5}{t e:TypeId}{d b':o4}(aM:D t=some d)(az:d.kind=.slice e)(ab:D e=some b')(eA:es=b'.size){k:IntKind}{i:Int}(bt:0≤i)(ac:i<n) :
 bb D t (.slice o n c) (.int k i)=some (.ptr (some ⟨id,ver,off+i.toNat,0,es⟩)):=by
 rcases h with rfl|⟨_,rfl,_⟩
 ·simp only [bb,aM,az,ab];rw [if_pos ⟨bt,ac,eA,trivial⟩]
 ·omega
structure pO(D:c5)(t e:TypeId)(sz hr:Nat):Prop where
 ty:∃d b',D t=some d∧d.kind=.slice e∧D e=some b'∧b'.size=sz∧b'.bytes=hr∧0<sz∧b'.o7=true
section
variable {E:bh}{t e:TypeId}{sz hr nid:Nat}{h:I}{x:J}{new:List J}
theorem B6(hs:pO E.D t e sz hr)(s:J):dk E .append #[t,t] [s,x] nid h=hB E.D t s x nid h:=by obtain⟨d,b',U,ak,aP,rfl,rfl,bQ,ct⟩:=hs.ty;simp only [dk,List.getElem?_toArray,List.getElem?_cons_zero,List.getElem?_cons_succ,U,ak]
theorem NP(hs:pO E.D t e sz hr)(ab:gj sz x h=some new)(cg:new≠[])(ao:(new.length+new.length/4+512)*hr≤2^48)(aF:new.length<2^62) :
 dk E .append #[t,t] [.slice none 0 0,x] nid h=some (ii nid sz new.length new.length,h.set nid (.made new sz false (some (e,0)))):=by
 rw [B6 hs];obtain⟨d,b',U,ak,aP,rfl,rfl,bQ,ct⟩:=hs.ty;have be:¬0+new.length=0:=by rw [Nat.zero_add];intro c;exact cg (List.eq_nil_of_length_eq_zero c)
 simp only [hB,U,ak,aP,ab];rw [if_pos ⟨bQ,by simpa using ao,by simpa using aF,ct⟩];rw [if_neg be,if_pos ⟨trivial,trivial⟩,Nat.zero_add]
theorem NQ(hs:pO E.D t e sz hr)(ab:gj sz x h=some new)(cg:new≠[]){a:aO}{len cap:Nat}{b:aJ}(ao:((len+new.length)+(len+new.length)/4+512)*hr≤2^48)(aF:len+new.length<2^62)
 (an:h.get a.id=some b) (eA:a.es=sz∧a.fld=0) (jX:¬len+new.length≤cap) (cL:b.exact=false) (eT:b.ro=false) (bZ:a.ver=b.ver) (eB:a.idx+len=b.a'.length) (tB:b.ty=none∨b.ty=some (e,0)) :
 dk E .append #[t,t] [.slice (some a) len cap,x] nid h=some (.slice (some {a with ver:=a.ver+1}) (len+new.length) (len+new.length),h.set a.id (b.grow new)):=by
 rw [B6 hs];obtain⟨d,b',U,ak,aP,rfl,rfl,bQ,ct⟩:=hs.ty;simp only [hB,U,ak,aP,ab];rw [if_pos ⟨bQ,ao,aF,ct⟩];rw [if_pos eA];simp only [an];rw [if_neg jX,if_neg (by rw [cL];simp),if_pos ⟨eT,bZ,eB,cg,tB⟩]
theorem NR(hs:pO E.D t e sz hr)(ab:gj sz x h=some new){a:aO}{len cap:Nat}{b:aJ}{old:List J}(ao:((len+new.length)+(len+new.length)/4+512)*hr≤2^48)(aF:len+new.length<2^62)
 (an:h.get a.id=some b) (eA:a.es=sz∧a.fld=0) (jX:¬len+new.length≤cap) (cL:b.exact=true) (ap:gj sz (.slice (some a) len cap) h=some old) :
 dk E .append #[t,t] [.slice (some a) len cap,x] nid h=some (ii nid sz (len+new.length) (len+new.length),h.set nid (.made (old++new) sz false (some (e,0)))):=by
 rw [B6 hs];obtain⟨d,b',U,ak,aP,rfl,rfl,bQ,ct⟩:=hs.ty;simp only [hB,U,ak,aP,ab];rw [if_pos ⟨bQ,ao,aF,ct⟩];rw [if_pos eA];simp only [an];rw [if_neg jX,if_pos cL];simp only [ap]
end
theorem bf.round{P:Program}{C:(Nat→Prop)→World→Prop}{base n:Nat}{c:Code}{F ah mA:a6}{h U hk ak:I}{e:bx}(k1:aR P C base n c F h .normal ah U)(i:bL base n ah U ah hk)(k2:bf P C base n c ah hk e mA ak):bf P C base n c F h e mA ak :=
 bf.step (k1.post i) k2
end
end Go.ba
namespace Go.ba
noncomputable section
open Go.RowKit
inductive dA:Type 1 where
 |nil
 |aa (x:hp) (r:dA)
 |bP (i:Nat) (y n:dA)
 |cases (i:Nat) (p:Prop) (y n:dA)
 |ex (i:Nat) {α:Type} (p:α→Prop) (f:α→dA)
 |skip (i:Nat) (r:dA)
def ji:List Prop→Prop→Prop
 |[],k=>k
 |p::r,k=>p∧ji r k
theorem j4:∀{l:List Prop}{k:Prop},ji l k→cG l∧k
 |[],k,h=>⟨cG.nil,h⟩
 |p::r,k,h=>⟨cG.cons h.1 (j4 h.2).1,(j4 h.2).2⟩
abbrev kJ:=J→I→dA→List fD→Prop
abbrev pP:=FuncId→List J→I→dA→(J→I→dA→Prop)→Prop
abbrev uV:=bx→a6→I→dA→Prop
def B7(ρ:Operand→J)(o:Op):Option (Prop×Bool) :=
 match o with
 |.binOp op t x y _ =>
  match ρ x,ρ y with
  |.int k a,.int k' b =>
   match decEq k k' with
   |isTrue _ =>
    match op with
    |.eql=>some (a=b,true)
    |.neq=>some (a=b,false)
    |.lss=>some (a<b,true)
    |.leq=>some (a≤b,true)
    |.gtr=>some (b<a,true)
    |.geq=>some (b≤a,true)
    |_=>none
   |isFalse _=>none
  |.str a,.str b =>
   match op with
   |.eql=>some (a=b,true)
   |.neq=>some (a=b,false)
   |_=>none
  |_,_=>none
 |_=>none
theorem GP{E:bh}{ρ:Operand→J}{o:Op}{p:Prop}{b:Bool}(k:B7 ρ o=some (p,b))(call:da)(nid:Nat)(h:I):(p→aV E call nid ρ h o=some (.bool b,h))∧(¬p→aV E call nid ρ h o=some (.bool (!b),h)):=by
 cases o<;>simp only [B7]at k<;>try (cases k;done)
 rename_i op t x y ty;split at k
 ·rename_i k1 a k2 c ab bi;split at k
  ·rename_i az _;subst az;split at k<;>first|(cases k;done)|(simp only [Option.some.injEq,Prod.mk.injEq]at k)
   all_goals (obtain⟨rfl,rfl⟩:=k)
   all_goals (constructor<;>intro ag<;>simp [aV,ab,bi,nf,ju,ag])
   all_goals omega
  ·cases k
 ·rename_i a c ab bi;split at k<;>first|(cases k;done)|(simp only [Option.some.injEq,Prod.mk.injEq]at k)
  all_goals (obtain⟨rfl,rfl⟩:=k)
  all_goals (constructor<;>intro ag<;>simp [aV,ab,bi,nf,tl,ag])
 ·cases k
inductive j5 where
 |one (v:J) (h:I) (ps:List Prop)
 |or (p:Prop) (a b:j5)
 |some (v:J) (ps:List Prop) (p:I→Prop)
def j5.dG(P:Program)(C:(Nat→Prop)→World→Prop)(f:FuncId)(args:List J)(h:I):j5→Prop
 |.one v h' ps=>cG ps→aZ P C f args h v h'
 |.or p a b=>(p→j5.dG P C f args h a)∧(¬p→j5.dG P C f args h b)
 |.some v ps p=>cG ps→ ∃h',aZ P C f args h v h'∧p h'
abbrev lR:=FuncId→Option (List J→I→Option j5)
def iz(P:Program)(C:(Nat→Prop)→World→Prop)(S:lR):Prop:= ∀f g,S f=some g→ ∀args h a,g args h=some a→a.dG P C f args h
def B8:lR:=fun _=>none
theorem bq{P:Program}{C:(Nat→Prop)→World→Prop} :iz P C B8:=fun _ _ h=>by cases h
def lR.add(S:lR)(f:FuncId)(g:List J→I→Option j5):lR:=fun k=>_root_.cond (Nat.beq k f) (some g) (S k)
theorem iz.add{P:Program}{C:(Nat→Prop)→World→Prop}{S:lR}(k:iz P C S){f:FuncId}{g:List J→I→Option j5}(an:∀args h a,g args h=some a→a.dG P C f args h):iz P C (S.add f g):=by
 intro bG l4 aS;unfold lR.add at aS;rcases my bG f with ⟨e,e'⟩|⟨e,e'⟩
 ·rw [e',cond_true]at aS;simp only [Option.some.injEq]at aS;subst aS;subst e;exact an
 ·rw [e',cond_false]at aS;exact k bG l4 aS
def ep(l:List UInt8):List J:=l.map fun b=> .int .u8 b.toNat
def strOf(l:List J):List UInt8:=(bytesOf l).getD []
def bM(l:List J)(i:Nat):Int:=match l[i]? with|some (.int _ n)=>n|_=>0
def B9(E:bh)(draw:Bool)(ops:Array Oper)(aD i:Nat)(ρ:Operand→J)(h:I)(o:Op):Option (J×I×List Prop) :=
 match o with
 |.convert s d x =>
  match ρ x with
  |.slice (some a) n c =>
   match E.D s,E.D d,h.get a.id with
   |some l8,some dd,some b =>
    match l8.kind,dd.kind with
    |.slice e,.string =>
     match E.D e with
     |some hA =>
      match hA.kind with
      |.int .u8 =>
       cond (Nat.beq a.fld 0&&Nat.beq a.es 1&&(!draw || (kn ops i || hg ops aD i ρ (.convert s d x))))
        (some (.str (strOf ((b.a'.drop a.idx).take n)),h,[a.ver=b.ver,a.idx+n≤b.a'.length,∃l,(b.a'.drop a.idx).take n=ep l])) none
      |_=>none
     |none=>none
    |_,_=>none
   |_,_,_=>none
  |_=>none
 |.load t x =>
  match ρ x with
  |.ptr (some a) =>
   match E.D t,h.get a.id with
   |some d,some b =>
    match d.kind with
    |.int k =>
     cond (Nat.beq a.fld 0&&Nat.beq d.size 1)
      (some (.int k (bM b.a' a.idx),h,[a.ver=b.ver,b.a'[a.idx]? =some (.int k (bM b.a' a.idx))]++cond draw (gW ops aD i ρ h o h) [])) none
    |_=>none
   |_,_=>none
  |_=>none
 |_=>none
theorem B':∀(l:List UInt8),bytesOf (ep l)=some l
 |[]=>rfl
 |b::r=>by have:=B' r;unfold ep at this;simp only [ep,List.map_cons,bytesOf,this,Option.map_some];simp
theorem GQ(l:List UInt8):strOf (ep l)=l:=by unfold strOf;rw [B'];rfl
theorem NS{P :Program}{E:bh}{draw:Bool}{ops:Array Oper}{aD i:Nat}{ρ:Operand→J}{h h':I}{o:Op}{v:J}{ps:List Prop}(k:B9 E draw ops aD i ρ h o=some (v,h',ps))(ag:cG ps)(call:da):j2 E call ops draw aD i ρ h o=some (v,h'):=by
 cases o<;>simp only [B9]at k<;>try (cases k;done)
 case convert s d x =>
  split at k
  ·rename_i a n c ab;split at k
   ·rename_i l8 dd b hs aM an;split at k
    ·rename_i e fL fM;split at k
     ·rename_i hA he;split at k
      ·rename_i kv;cases aw:(Nat.beq a.fld 0&&Nat.beq a.es 1&&(!draw || (kn ops i || hg ops aD i ρ (.convert s d x))))with
       |false=>rw [aw]at k;cases k
       |true =>
        rw [aw,cond_true]at k;simp only [Option.some.injEq,Prod.mk.injEq]at k;obtain⟨rfl,rfl,rfl⟩:=k;simp only [Bool.and_eq_true]at aw;have cC:=Nat.eq_of_beq_eq_true aw.1.1;have ci:=Nat.eq_of_beq_eq_true aw.1.2;have cv:a.ver=b.ver:=ag.head;have bu:a.idx+n≤b.a'.length:=ag.tail.head;obtain⟨l,bS⟩:∃l,(b.a'.drop a.idx).take n=ep l:=ag.tail.tail.head;have jx:b.cj a.ver=b.a'.length:=by rw [cv];simp [aJ.cj]
        have eV:gj 1 (.slice (some a) n c) h=some (ep l):=by
         by_cases be:n=0
         ·subst be;simp only [gj,cC,ci,if_true,an];rw [←bS];simp
         ·simp only [gj,cC,ci,if_true,an];rw [if_neg be,if_pos ⟨by rw [jx];exact bu,bu⟩,bS]
        refine xY E ?_ ?_ ?_
        ·simp only [aV,ab,qi,hs,aM];rfl
        ·simp only [gD,ab,tr,hs,aM,fL,fM,he,kv,eV,B',Option.map_some];rw [bS,GQ]
        ·intro pu;refine⟨rfl,?_⟩;have:=aw.2;rw [pu]at this;simpa using this
      ·cases k
     ·cases k
    ·cases k
   ·cases k
  ·cases k
 case load t x =>
  split at k
  ·rename_i a ab;split at k
   ·rename_i d b aM an;split at k
    ·rename_i la az;cases aw:(Nat.beq a.fld 0&&Nat.beq d.size 1)with
     |false=>rw [aw]at k;cases k
     |true =>
      rw [aw,cond_true]at k;simp only [Option.some.injEq,Prod.mk.injEq]at k;obtain⟨rfl,rfl,rfl⟩:=k;simp only [Bool.and_eq_true]at aw;have cC:=Nat.eq_of_beq_eq_true aw.1;have cv:a.ver=b.ver:=ag.head;have bu:b.a'[a.idx]? =some (.int la (bM b.a' a.idx)):=ag.tail.head;refine ix E ?_ ag.tail.tail;have bH:=(List.getElem?_eq_some_iff.1 bu).1
      have eV:b.elem? a.ver a.idx=some (.int la (bM b.a' a.idx)):=by unfold aJ.elem?;rw [if_pos (by rw [cv];simpa [aJ.cj]using bH)];exact bu
      simp only [aV,ab,aQ,aM,an,eV,az,gQ.isAgg,n1,cC,if_true,Option.map_some,Bool.false_eq_true,if_false]
    ·cases k
   ·cases k
  ·cases k
section
variable(P:Program)(E:bh)(S:lR)
def x7(draw:Bool)(ops:Array Oper)(aD i:Nat)(F:a6)(h:I)(o:Op):Option (J×I×List Prop×List fD) :=
 match o with
 |.call c =>
  match c.callee with
  |.value f =>
   match a1 F f with
   |.func (.func g) fs cs =>
    match S g with
    |some uW =>
     match uW (fs++c.args.toList.map (a1 F)++cs) h with
     |some (.one v h' ps)=>some (v,h',ps++cond draw (gW ops aD i (a1 F) h o h') [],[⟨g,fs++c.args.toList.map (a1 F)++cs,h,v,h'⟩])
     |_=>none
    |none=>none
   |_=>none
  |_=>match nz E draw ops aD i F h o []with|some (v,h',_,cs,ks)=>some (v,h',cs,ks)|none=>none
 |_=>match nz E draw ops aD i F h o []with|some (v,h',_,cs,ks)=>some (v,h',cs,ks)|none=>none
def oC(draw:Bool)(ops:Array Oper)(aD i:Nat)(F:a6)(o:Op)(g:FuncId)(args:List J)(h:I)(K:kJ):j5→dA→Prop
 |.one v h' ps,hs=>ji (ps++cond draw (gW ops aD i (a1 F) h o h') []) (K v h' hs [⟨g,args,h,v,h'⟩])
 |.or p a b,.bP _ y n=>(p→oC draw ops aD i F o g args h K a y)∧(¬p→oC draw ops aD i F o g args h K b n)
 |.or _ _ _,_=>False
 |.some v ps p,hs=>ji ps (∀h',p h'→ji (cond draw (gW ops aD i (a1 F) h o h') []) (K v h' hs [⟨g,args,h,v,h'⟩]))
def x8(F:a6)(h:I)(o:Op):Option (j5×FuncId×List J) :=
 match o with
 |.call c =>
  match c.callee with
  |.value f =>
   match a1 F f with
   |.func (.func g) fs cs =>
    match S g with
    |some uW=>match uW (fs++c.args.toList.map (a1 F)++cs) h with|some a=>some (a,g,fs++c.args.toList.map (a1 F)++cs)|none=>none
    |none=>none
   |_=>none
  |_=>none
 |_=>none
def nD(draw:Bool)(ops:Array Oper)(aD i:Nat)(F:a6)(h:I)(o:Op)(hs:dA)(K:kJ):Prop :=
 match x7 E S draw ops aD i F h o with
 |some (v,h',cs,ks)=>ji cs (K v h' hs ks)
 |none =>
  match x8 S F h o with
  |some (.some v ps p,g,args)=>oC draw ops aD i F o g args h K (.some v ps p) hs
  |_=>False
def Ca(draw:Bool)(ops:Array Oper)(aD i:Nat)(F:a6)(h:I)(o:Op)(y n:dA)(K:kJ):Prop :=
 match B7 (a1 F) o with
 |some (p,b)=>(p→ji (cond draw (gW ops aD i (a1 F) h o h) []) (K (.bool b) h y []))∧(¬p→ji (cond draw (gW ops aD i (a1 F) h o h) []) (K (.bool (!b)) h n []))
 |none =>
  match x7 E S draw ops aD i F h o with
  |some (.bool b,h',cs,ks)=>ji cs ((b=true→K (.bool true) h' y ks)∧(b=false→K (.bool false) h' n ks))
  |_=>False
def Cb(draw:Bool)(ops:Array Oper)(aD i:Nat)(F:a6)(h:I)(o:Op)(j:Nat)(y n:dA)(K:kJ):Prop :=
 match x8 S F h o with
 |some (.or p a b,g,args)=>oC draw ops aD i F o g args h K (.or p a b) (.bP j y n)
 |_=>Ca E S draw ops aD i F h o y n K
def Cc(en:pP)(draw:Bool)(ops:Array Oper)(aD i:Nat)(F:a6)(h:I)(o:Op)(x:hp)(r:dA)(K:kJ):Prop :=
 match x with
 |.enter _ =>
  match o with
  |.call c =>
   match c.callee with
   |.value f =>
    match a1 F f with
    |.func (.func g) fs cs =>
     en g (fs++c.args.toList.map (a1 F)++cs) h r fun v h' eZ=>ji (cond draw (gW ops aD i (a1 F) h o h') []) (K v h' eZ [⟨g,fs++c.args.toList.map (a1 F)++cs,h,v,h'⟩])
    |_=>False
   |_=>False
  |_=>False
 |_ =>
  match uR P E (fun _ _ _ _=>none) draw ops aD i F h o x []with
  |some (v,h',_,cs,ks)=>ji cs (K v h' r ks)
  |none=>match B9 E draw ops aD i (a1 F) h o with|some (v,h',cs)=>ji cs (K v h' r [])|none=>False
def nE(en:pP)(q:Nat)(ops:Array Oper)(draw:Bool)(aD i:Nat)(F:a6)(h:I)(o:Op)(K:kJ):dA→Prop
 |.nil=>nD E S draw ops aD i F h o .nil K
 |.aa x r=>match x.at with|some j=>cond (Nat.beq (1000*q+i) j) (Cc P E en draw ops aD i F h o x r K) (nD E S draw ops aD i F h o (.aa x r) K)|none=>nD E S draw ops aD i F h o (.aa x r) K
 |.bP j y n=>cond (Nat.beq (1000*q+i) j) (Cb E S draw ops aD i F h o j y n K) (nD E S draw ops aD i F h o (.bP j y n) K)
 |.cases j p y n=>cond (Nat.beq (1000*q+i) j) ((p→nE en q ops draw aD i F h o K y)∧(¬p→nE en q ops draw aD i F h o K n)) (nD E S draw ops aD i F h o (.cases j p y n) K)
 |.ex j p f=>cond (Nat.beq (1000*q+i) j) ((∃x,p x)∧∀x,p x→nE en q ops draw aD i F h o K (f x)) (nD E S draw ops aD i F h o (.ex j p f) K)
 |.skip j r=>cond (Nat.beq (1000*q+i) j) (nD E S draw ops aD i F h o r K) (nD E S draw ops aD i F h o (.skip j r) K)
def q9(ops:Array Oper)(draw:Bool)(aD i:Nat)(F:a6)(h:I)(o:Op)(K:kJ):Prop :=
 ∃v h' dE ks,K v h' dE ks∧(∀c∈ks,aZ P E.cond c.f c.args c.h c.v c.h')∧∀call:da,(∀c∈ks,c.holds call)→j2 E call ops draw aD i (a1 F) h o=some (v,h')
def x9(en:pP):Prop:= ∀f args h hs K,en f args h hs K→ ∃v h' dE,aZ P E.cond f args h v h'∧K v h' dE
variable {P E S}
theorem GR(bR:fh P E)(dI:P.follows .mixedOrders=true)(cb:iz P E.cond S){draw:Bool}{ops:Array Oper}{aD i:Nat}{F:a6}{h h':I}{o:Op}{v:J}{cs:List Prop}{ks:List fD}(k:x7 E S draw ops aD i F h o=some (v,h',cs,ks))(ar:cG cs) :
 (∀c∈ks,aZ P E.cond c.f c.args c.h c.v c.h')∧∀call:da,(∀c∈ks,c.holds call)→j2 E call ops draw aD i (a1 F) h o=some (v,h'):=by
 have plain:∀{r:Option (J×I×List Prop×List fD)},(match nz E draw ops aD i F h o []with|some (v,h',_,cs,ks)=>some (v,h',cs,ks)|none=>none)=some (v,h',cs,ks) →
  (∀c∈ks,aZ P E.cond c.f c.args c.h c.v c.h')∧∀call:da,(∀c∈ks,c.holds call)→j2 E call ops draw aD i (a1 F) h o=some (v,h'):=by
  intro r k;split at k
  ·rename_i v1 U c' bU k1 ag;simp only [Option.some.injEq,Prod.mk.injEq]at k;obtain⟨rfl,rfl,rfl,rfl⟩:=k;have jf:BY P E (fun _ _ _ _=>none):=fun _ _ _ _ _ _ _ _ h=>by cases h
   have dX:pop P E (fun _ _ _ _=>none) 0 ops draw aD i F h o []=some (v1,U,c',bU,k1):=ag;exact⟨GC P E bR dI jf dX ar,fun call az=>GB P E dX ar az⟩
  ·cases k
 unfold x7 at k;split at k
 ·rename_i c;split at k
  ·rename_i f aS;split at k
   ·rename_i g fs q3 an;split at k
    ·rename_i uW r7;split at k
     ·rename_i v1 U ps eW;simp only [Option.some.injEq,Prod.mk.injEq]at k;obtain⟨rfl,rfl,rfl,rfl⟩:=k;refine⟨fun c hm=> ?_,fun call az=> ?_⟩
      ·rw [List.mem_singleton.1 hm];exact cb _ _ r7 _ _ _ eW ar.left
      ·refine ix E ?_ ar.right;simp only [aV,aS,an,l7];exact az _ (List.mem_singleton.2 rfl)
     ·cases k
    ·cases k
   ·cases k
  ·exact plain (r:=none) k
 ·exact plain (r:=none) k
theorem Cd{draw:Bool}{ops:Array Oper}{aD i:Nat}{F:a6}{h:I}{c:Call}{f:Operand}(aS:c.callee=.value f){g:FuncId}{fs cs:List J}(an:a1 F f=.func (.func g) fs cs){K:kJ} :
 ∀(a:j5)(hs:dA),a.dG P E.cond g (fs++c.args.toList.map (a1 F)++cs) h→oC draw ops aD i F (.call c) g (fs++c.args.toList.map (a1 F)++cs) h K a hs→q9 P E ops draw aD i F h (.call c) K
 |.one v h' ps,hs,ok,k=>by
  obtain⟨ar,dL⟩:=j4 (by simpa only [oC]using k);refine⟨v,h',hs,_,dL,fun c hm=> ?_,fun call az=> ?_⟩
  ·rw [List.mem_singleton.1 hm];exact ok ar.left
  ·refine ix E ?_ ar.right;simp only [aV,aS,an,l7];exact az _ (List.mem_singleton.2 rfl)
 |.some v ps p,hs,ok,k=>by
  obtain⟨ar,dL⟩:=j4 (by simpa only [oC]using k);obtain⟨h',aM,ag⟩:=ok ar;obtain⟨od,dL⟩:=j4 (dL h' ag);refine⟨v,h',hs,_,dL,fun c hm=> ?_,fun call az=> ?_⟩
  ·rw [List.mem_singleton.1 hm];exact aM
  ·refine ix E ?_ od;simp only [aV,aS,an,l7];exact az _ (List.mem_singleton.2 rfl)
 |.or p a b,.bP j y n,ok,k=>by
  simp only [oC]at k;by_cases ag:p
  ·exact Cd aS an a y (ok.1 ag) (k.1 ag)
  ·exact Cd aS an b n (ok.2 ag) (k.2 ag)
 |.or p a b,.nil,ok,k=>k.elim
 |.or p a b,.aa _ _,ok,k=>k.elim
 |.or p a b,.cases _ _ _ _,ok,k=>k.elim
 |.or p a b,.ex _ _ _,ok,k=>k.elim
 |.or p a b,.skip _ _,ok,k=>k.elim
theorem GS(cb:iz P E.cond S){draw:Bool}{ops:Array Oper}{aD i:Nat}{F:a6}{h:I}{o:Op}{a:j5}{g:FuncId}{args:List J}(bl:x8 S F h o=some (a,g,args)){K:kJ}{hs:dA}(k:oC draw ops aD i F o g args h K a hs):q9 P E ops draw aD i F h o K:=by
 unfold x8 at bl;split at bl
 ·rename_i c;split at bl
  ·rename_i f aS;split at bl
   ·rename_i l4 fs cs an;split at bl
    ·rename_i uW r7;split at bl
     ·rename_i bN eW;simp only [Option.some.injEq,Prod.mk.injEq]at bl;obtain⟨rfl,rfl,rfl⟩:=bl;exact Cd aS an _ _ (cb _ _ r7 _ _ _ eW) k
     ·cases bl
    ·cases bl
   ·cases bl
  ·cases bl
 ·cases bl
theorem pQ(bR:fh P E)(dI:P.follows .mixedOrders=true)(cb:iz P E.cond S){draw:Bool}{ops:Array Oper}{aD i:Nat}{F:a6}{h:I}{o:Op}{hs:dA}{K:kJ}(k:nD E S draw ops aD i F h o hs K):q9 P E ops draw aD i F h o K:=by
 unfold nD at k;split at k
 ·rename_i v h' cs ks ao;obtain⟨ar,dL⟩:=j4 k;obtain⟨k1,k2⟩:=GR bR dI cb ao ar;exact⟨v,h',hs,ks,dL,k1,k2⟩
 ·split at k
  ·rename_i bl;exact GS cb bl k
  ·exact k.elim
theorem NT(bR:fh P E)(dI:P.follows .mixedOrders=true)(cb:iz P E.cond S){draw:Bool}{ops:Array Oper}{aD i:Nat}{F:a6}{h:I}{o:Op}{y n:dA}{K:kJ}(k:Ca E S draw ops aD i F h o y n K):q9 P E ops draw aD i F h o K:=by
 unfold Ca at k;split at k
 ·rename_i p b ao;by_cases ag:p
  ·obtain⟨ar,dL⟩:=j4 (k.1 ag);exact⟨_,_,_,_,dL,fun c hm=>by simp at hm,fun call _=>ix E ((GP ao call (aD+i) h).1 ag) ar⟩
  ·obtain⟨ar,dL⟩:=j4 (k.2 ag);exact⟨_,_,_,_,dL,fun c hm=>by simp at hm,fun call _=>ix E ((GP ao call (aD+i) h).2 ag) ar⟩
 ·split at k
  ·rename_i b h' cs ks ao;obtain⟨ar,dL⟩:=j4 k;obtain⟨k1,k2⟩:=GR bR dI cb ao ar;cases b with
   |true=>exact⟨_,_,_,_,dL.1 rfl,k1,k2⟩
   |false=>exact⟨_,_,_,_,dL.2 rfl,k1,k2⟩
  ·exact k.elim
theorem NU(bR:fh P E)(dI:P.follows .mixedOrders=true)(cb:iz P E.cond S){draw:Bool}{ops:Array Oper}{aD i:Nat}{F:a6}{h:I}{o:Op}{j:Nat}{y n:dA}{K:kJ}(k:Cb E S draw ops aD i F h o j y n K):q9 P E ops draw aD i F h o K:=by
 unfold Cb at k;split at k
 ·rename_i bl;exact GS cb bl k
 ·exact NT bR dI cb k
theorem NV(bR:fh P E)(dI:P.follows .mixedOrders=true)(cb:iz P E.cond S){en:pP}(jf:x9 P E en){q:Nat}{draw:Bool}{ops:Array Oper}{aD i:Nat}{F:a6}{h:I}{o:Op}{x:hp}(ab:x.at=some (1000*q+i)){r:dA}{K:kJ}(k:Cc P E en draw ops aD i F h o x r K) :
 q9 P E ops draw aD i F h o K:=by
 unfold Cc at k;split at k
 ·split at k
  ·rename_i c;split at k
   ·rename_i f aS;split at k
    ·rename_i g fs cs an;obtain⟨v,h',dE,aM,dL⟩:=jf _ _ _ _ _ k;obtain⟨ar,dL⟩:=j4 dL;refine⟨v,h',dE,_,dL,fun c hm=> ?_,fun call az=> ?_⟩
     ·rw [List.mem_singleton.1 hm];exact aM
     ·refine ix E ?_ ar;simp only [aV,aS,an,l7];exact az _ (List.mem_singleton.2 rfl)
    ·exact k.elim
   ·exact k.elim
  ·exact k.elim
 ·split at k
  ·rename_i v h' c' cs ks ag;obtain⟨ar,dL⟩:=j4 k;have NW:BY P E (fun _ _ _ _=>none):=fun _ _ _ _ _ _ _ _ h=>by cases h
   have dX:pop P E (fun _ _ _ _=>none) q ops draw aD i F h o [x]=some (v,h',c',cs,ks):=by unfold pop;simp only [ab];rw [beq_true rfl,cond_true];exact ag
   exact⟨v,h',r,ks,dL,GC P E bR dI NW dX ar,fun call az=>GB P E dX ar az⟩
  ·split at k
   ·rename_i v h' cs ag;obtain⟨ar,dL⟩:=j4 k;exact⟨v,h',r,[],dL,fun c hm=>by simp at hm,fun call _=>NS (P:=P) ag ar call⟩
   ·exact k.elim
theorem x'(bR:fh P E)(dI:P.follows .mixedOrders=true)(cb:iz P E.cond S){en:pP}(jf:x9 P E en){q:Nat}{draw:Bool}{ops:Array Oper}{aD i:Nat}{F:a6}{h:I}{o:Op}{K:kJ} :∀(hs:dA),nE P E S en q ops draw aD i F h o K hs→q9 P E ops draw aD i F h o K
 |.nil,k=>pQ bR dI cb k
 |.aa x r,k=>by
  simp only [nE]at k;split at k
  ·rename_i j ay;rcases my (1000*q+i) j with ⟨e,e'⟩|⟨e,e'⟩
   ·rw [e',cond_true]at k;exact NV bR dI cb jf (by rw [ay,e]) k
   ·rw [e',cond_false]at k;exact pQ bR dI cb k
  ·exact pQ bR dI cb k
 |.bP j y n,k=>by
  simp only [nE]at k;rcases my (1000*q+i) j with ⟨e,e'⟩|⟨e,e'⟩
  ·rw [e',cond_true]at k;exact NU bR dI cb k
  ·rw [e',cond_false]at k;exact pQ bR dI cb k
 |.cases j p y n,k=>by
  simp only [nE]at k;rcases my (1000*q+i) j with ⟨e,e'⟩|⟨e,e'⟩
  ·rw [e',cond_true]at k;by_cases ag:p
   ·exact x' bR dI cb jf y (k.1 ag)
   ·exact x' bR dI cb jf n (k.2 ag)
  ·rw [e',cond_false]at k;exact pQ bR dI cb k
 |.ex j p f,k=>by
  simp only [nE]at k;rcases my (1000*q+i) j with ⟨e,e'⟩|⟨e,e'⟩
  ·rw [e',cond_true]at k;obtain⟨⟨x,ab⟩,k⟩:=k;exact x' bR dI cb jf (f x) (k x ab)
  ·rw [e',cond_false]at k;exact pQ bR dI cb k
 |.skip j r,k=>by
  simp only [nE]at k;rcases my (1000*q+i) j with ⟨e,e'⟩|⟨e,e'⟩
  ·rw [e',cond_true]at k;exact pQ bR dI cb k
  ·rw [e',cond_false]at k;exact pQ bR dI cb k
variable(P E S)
def q'(en:pP)(q:Nat)(ops:Array Oper)(draw:Bool)(n aD:Nat):List Oper→Nat→a6→I→dA→List fD→(a6→I→dA→List fD→Prop)→Prop
 |[],_,F,h,hs,ks,K=>K F h hs ks
 |o::r,i,F,h,hs,ks,K =>
  cond (BZ n o)
  (match BO ops F o with
  |some true=>cond (o.op.operands.toList.all (sw F)) (nE P E S en q ops draw aD i F h o.op (fun v h' dE k2=>q' en q ops draw n aD r (i+1) (xS F o.dst v) h' dE (ks++k2) K) hs) False
  |some false=>q' en q ops draw n aD r (i+1) (xS F o.dst fq) h hs ks K
  |none=>False) False
variable {P E S}
theorem ya(bR:fh P E)(dI:P.follows .mixedOrders=true)(cb:iz P E.cond S){en:pP}(jf:x9 P E en){q:Nat}{ops:Array Oper}{draw:Bool}{n aD:Nat} :∀(l:List Oper)(i:Nat)(F:a6)(h:I)(hs:dA)(ks:List fD){K:a6→I→dA→List fD→Prop},(∀j,l[j]? =ops[i+j]?) →
 q' P E S en q ops draw n aD l i F h hs ks K→ ∃dS h' dE k2,K dS h' dE (ks++k2)∧(∀c∈k2,aZ P E.cond c.f c.args c.h c.v c.h')∧∀call:da,(∀c∈k2,c.holds call)→ ∀s:List J,s.length=n→Has F s→ ∃bm,bm.length=n∧Has dS bm ∧
  nA E call ops draw aD (List.range' i l.length) ⟨s,h⟩=some ⟨bm,h'⟩
 |[],i,F,h,hs,ks,K,aF,k=>⟨F,h,hs,[],by simpa [q']using k,fun c hm=>by simp at hm,fun call _ s be dT=>⟨s,be,dT,by unfold nA;cases draw<;>rfl⟩⟩
 |o :: r, i,F,h,hs,ks,K,aF,k=>by
  have ap:ops[i]? =some o:=by have:=aF 0;simpa using this.symm
  have aC:∀j,r[j]? =ops[i+1+j]? :=fun j=>by have:=aF (j+1);simp at this;rw [this];congr 1;omega
  simp only [q']at k;cases aM:BZ n o with
  |false=>rw [aM]at k;exact k.elim
  |true =>
   rw [aM,cond_true]at k
   have GU:∀m,m=n→ ∀t,o.dst=some t→t<m:=by intro m hm t bl;unfold BZ at aM;rw [bl]at aM;rw [hm];exact Nat.blt_eq.mp aM
   rw [List.length_cons,List.range'_succ];split at k
   ·rename_i an;cases gu:o.op.operands.toList.all (sw F)with
    |false=>rw [gu]at k;exact k.elim
    |true =>
     rw [gu,cond_true]at k;obtain⟨v,U,c',k1,dL,AM,NX⟩:=x' bR dI cb jf hs k;obtain⟨dS,h',dE,k2,Ce,ol,Cf⟩:=ya bR dI cb jf r (i+1) _ _ _ _ aC dL;refine⟨dS,h',dE,k1++k2,by rw [←List.append_assoc];exact Ce,fun c hm=>(List.mem_append.1 hm).elim (AM c) (ol c),fun call az s be dT=> ?_⟩;have oj:=NX call fun c hm=>az c (by simp [hm])
     obtain⟨bm,bo,bO,lo⟩:=Cf call (fun c hm=>az c (by simp [hm])) (gE s o.dst v) (by rw [GD];exact be) (dT.set (GU s.length be) v);refine⟨bm,bo,bO,?_⟩
     have NY:j2 E call ops draw aD i (cK s) h o.op=some (v,U):=by
      rw [←oj];have nF:∀x∈o.op.operands.toList,cK s x=a1 F x:=fun x ab=>(dT.get (List.all_eq_true.1 gu x ab)).symm
      have bt:∀nid,aV E call nid (cK s) h o.op=aV E call nid (a1 F) h o.op:=fun nid=>Fc nF
      have dK:jv (cK s) o.op=jv (a1 F) o.op:=by cases iL:o.op<;>simp only [jv];rename_i t x;rw [iL]at nF;rw [nF x (by simp [Op.operands])]
      have f':l9 (cK s) o.op=l9 (a1 F) o.op:=by cases iL:o.op<;>simp only [l9];rename_i t x y;rw [iL]at nF;rw [nF x (by simp [Op.operands])]
      have tW:∀nid,gD E nid (cK s) h o.op=gD E nid (a1 F) h o.op:=fun nid=>Nw E nF
      have xh:gr (cK s) o.op=gr (a1 F) o.op:=by cases iL:o.op<;>simp only [gr];rename_i c;rw [iL]at nF;rw [r9 (xs:=c.args) (fun x ab=>nF x (by simp only [Op.operands,Call.operands,Array.toList_append,List.mem_append];exact .inr ab))]
      have AN:hg ops aD i (cK s) o.op=hg ops aD i (a1 F) o.op:=by
       have:l' (cK s) o.op=l' (a1 F) o.op:=by cases iL:o.op<;>simp only [l'];rename_i a b x;rw [iL]at nF;rw [nF x (by simp [Op.operands])]
       unfold hg;rw [this]
      unfold j2 eE ik;simp only [bt,dK,f',tW,xh,AN]
     exact(NA E ap (Gp dT an) NY).trans lo
   ·rename_i an;obtain⟨dS,h',dE,k2,Ce,ol,Cf⟩:=ya bR dI cb jf r (i+1) _ _ _ _ aC k;refine⟨dS,h',dE,k2,Ce,ol,fun call az s be dT=> ?_⟩;obtain⟨bm,bo,bO,lo⟩:=Cf call az (gE s o.dst fq) (by rw [GD];exact be) (dT.set (GU s.length be) fq);exact⟨bm,bo,bO,(NB E ap (Gp dT an)).trans lo⟩
   ·exact k.elim
def yb(step:a6→I→dA→uV→Prop)(K:uV):Nat→a6→I→dA→Prop
 |0,_,_,_=>False
 |m+1,F,h,hs=>step F h hs fun e ah U c'=>match e with|.normal=>yb step K m ah U c' | e=>K e ah U c'
def GV(D:c5)(rs:List ResultVar)(e:bx)(F:a6)(h h':I)(K:J→Prop):Prop :=
 match e with
 |.normal=>match lm D F h' rs []with|some (l,cs)=>ji cs (cond (Nat.ble h.next h'.next) (K (lD l)) False)|none=>False
 |.ret=>match lm D F h' rs []with|some (l,cs)=>ji cs (cond (Nat.ble h.next h'.next) (K (lD l)) False)|none=>False
 |_=>False
def yc(P:Program)(C:(Nat→Prop)→World→Prop):List fD→List Prop
 |[]=> []
 |[c]=> [c.h'=c.h,∀h,bY P C c.f c.args h c.v h]
 |_=> [False]
open Classical in
noncomputable def ra:List fD→da
 |[],_,_,_=>none
 |c::_,f,args,h=>if c.f=f∧c.args=args then some (c.v,h)else none
theorem NZ(ks:List fD):ue (ra ks):=by
 intro f args h v h' e;cases ks with
 |nil=>cases e
 |cons c r =>
  simp only [ra]at e⊢;split at e
  ·rename_i q;simp only [Option.some.injEq,Prod.mk.injEq]at e;exact⟨e.2.symm,fun ak=>by rw [if_pos q,e.1]⟩
  ·cases e
theorem N1{P:Program}{C:(Nat→Prop)→World→Prop}{ks:List fD}(h:cG (yc P C ks)):∀c∈ks,c.holds (ra ks):=by
 match ks,h with
 |[],_=>intro c ar;cases ar
 |[k],h =>
  intro c ar;obtain rfl:=List.mem_singleton.1 ar;have e:c.h'=c.h:=h.head;unfold fD.holds;simp only [ra];rw [if_pos ⟨trivial,trivial⟩,e]
 |a::b::r,h=>exact(h _ (List.mem_singleton.2 rfl):False).elim
theorem N2{P:Program}{E:bh}{ks:List fD}(az:cG (yc P E.cond ks)){N0:Nat→Prop}{w0:World}(bA:dW N0 w0.heap.size)(dV:E.cond N0 w0):kz P N0 w0 (ra ks):=by
 match ks,az with
 |[],_=>intro f args h v h' ar;cases ar
 |a::b::r,h=>exact(h _ (List.mem_singleton.2 rfl):False).elim
 |[k],az =>
  intro f args h v h' ar φ w args' dw aX dy;simp only [ra]at ar;split at ar
  ·rename_i q;simp only [Option.some.injEq,Prod.mk.injEq]at ar;obtain⟨rfl,rfl⟩:=q;obtain⟨rfl,rfl⟩:=ar;have aM:∀h,bY P E.cond k.f k.args h k.v h:=az _ (by simp [yc]);exact(aM h).uP N0 w0 bA dV φ w args' dw aX dy
  ·cases ar
variable(P E S)
def sH(ex:Nat→Nat→Code→a6→I→dA→uV→Prop):pP:=fun f args h hs K =>
 match P.funcs[f]? with
 |some fn =>
  match fn.body with
  |some c=>ex h.next (args.length+(fn.ntmps-args.length)) c (q4 0 args) h hs fun e F h' dE=>GV E.D fn.results.toList e F h h' fun v=>K v h' dE
  |none=>False
 |none=>False
def gd(R:Nat→Nat→Code→a6→I→bx→a6→I→Prop):Nat→Nat→Nat→Option Code→Code→a6→I→dA→uV→Prop
 |0,_,_,_,_,_,_,_,_=>False
 |k + 1,base,n,some body,c,F,h,hs,K =>
  gd R k base n none c F h hs fun e ah U c' =>
   match e with
   |.goto l =>
    match findLabel body l with
    |some rest=>gd R k base n (some body) rest ah U c' K
    |none=>K (.goto l) ah U c'
   |e=>K e ah U c'
 |k + 1,base,n,none,c,F,h,hs,K =>
  match c with
  |.skip=>K .normal F h hs
  |.label _=>K .normal F h hs
  |.region q ops draw =>
   cond (!draw || n5 ops)
   (cond (Nat.ble base h.next&&true)
   (q' P E S (sH P E fun b m c F h hs K=>gd R k b m none c F h hs K) q ops draw n h.next ops.toList 0 F {h with next:=h.next+ops.size} hs [] fun ah U c' ks=>ji (xZ ks) (K .normal ah U c')) False)
   (cond (Nat.ble base h.next&&ui ops)
   (q' P E S (sH P E fun b m c F h hs K=>gd R k b m none c F h hs K) q ops true n h.next ops.toList 0 F {h with next:=h.next+ops.size} hs [] fun ah U c' ks=>ji (yc P E.cond ks) (K .normal ah U c')) False)
  |.seq a b =>
   gd R k base n none a F h hs fun e ah U c' =>
    match e with
    |.normal=>gd R k base n none b ah U c' K
    |e=>K e ah U c'
  |.cond x a b =>
   cond (sw F x)
   (match a1 F x with
   |.bool true=>gd R k base n none a F h hs K
   |.bool false=>gd R k base n none b F h hs K
   |_=>False) False
  |.block id c =>
   gd R k base n none c F h hs fun e ah U c' =>
    match e with
    |.exit j=>K (cond (Nat.beq j id) .normal (.exit j)) ah U c'
    |e=>K e ah U c'
  |.loop c =>
   match hs with
   |.aa (.keep l) (.aa (.loop ah U e) r)=>R base n (.loop c) (oA F l) h e ah U∧K e ah U r
   |.aa (.loop ah U e) r=>R base n (.loop c) F h e ah U∧K e ah U r
   |.aa (.rounds m) r=>yb (fun F h hs K=>gd R k base n none c F h hs K) K m F h r
   |.cases _ p y dC=>(p→gd R k base n none (.loop c) F h y K)∧(¬p→gd R k base n none (.loop c) F h dC K)
   |.ex _ p f=>(∃x,p x)∧∀x,p x→gd R k base n none (.loop c) F h (f x) K
   |_=>False
  |.scope c=>gd R k base n (some c) c F h hs K
  |.goto l=>K (.goto l) F h hs
  |.exit id=>K (.exit id) F h hs
  |.ret=>K .ret F h hs
  |_=>False
variable {P E S}
theorem GW(bR:fh P E){f:FuncId}{fn:Func}{c:Code}(aS:P.funcs[f]? =some fn)(ao:fn.body=some c){args:List J}{h h':I}{e:bx}{dS:a6}{K:J→Prop}
 (aC:aR P E.cond h.next (args.length+(fn.ntmps-args.length)) c (q4 0 args) h e dS h') (k:GV E.D fn.results.toList e dS h h' K):∃v,aZ P E.cond f args h v h'∧K v:=by
 have fin:(e=.normal∨e=.ret)→(match lm E.D dS h' fn.results.toList []with|some (l,cs)=>ji cs (cond (Nat.ble h.next h'.next) (K (lD l)) False)|none=>False)→ ∃v,aZ P E.cond f args h v h'∧K v:=by
  intro he k;split at k
  ·rename_i l cs ag;obtain⟨ar,k⟩:=j4 k;cases hle:Nat.ble h.next h'.next with
   |false=>rw [hle]at k;exact k.elim
   |true =>
    rw [hle,cond_true]at k;exact⟨_,aZ.ND bR aS ao he aC ag ar (Nat.le_of_ble_eq_true hle),k⟩
  ·exact k.elim
 cases e with
 |normal=>exact fin (.inl rfl) k
 |ret=>exact fin (.inr rfl) k
 |exit j=>exact k.elim
 |goto l=>exact k.elim
theorem GX(bR:fh P E)(dI:P.follows .mixedOrders=true)(cb:iz P E.cond S):∀(k:Nat){base n:Nat}(body:Option Code)(c:Code)(F:a6)(h:I)(hs:dA){K:uV},
 gd P E S (aR P E.cond) k base n body c F h hs K→ ∃e dS h' dE,j3 P E.cond base n (q5 P body c) F h e dS h'∧K e dS h' dE:=by
 intro k;induction k with
 |zero=>intro base n body c F h hs K ag;exact ag.elim
 |succ k ih =>
  intro base n body c F h hs K ag;cases body with
  |some body =>
   simp only [gd]at ag;obtain⟨e,ah,U,c',t1,ag⟩:=ih none c F h hs ag
   have pass:(∀l,e≠ .goto l)→j3 P E.cond base n (q5 P (some body) c) F h e ah U:=by
    intro cg S w0 cb fE ec φ a w bt az r Q dZ;refine xm (t1 S w0 cb fE ec φ a w bt az r _ fun bj bN aN dz eZ=> ?_);have:=dZ bj bN aN dz eZ;cases e with
    |goto l=>exact absurd rfl (cg l)
    |_=>exact this
   cases e with
   |goto l =>
    simp only at ag;cases aF:findLabel body l with
    |none =>
     rw [aF]at ag;refine⟨.goto l,ah,U,c',?_,ag⟩;intro S w0 cb fE ec φ a w bt az r Q dZ;refine xm (t1 S w0 cb fE ec φ a w bt az r _ fun bj bN aN dz eZ=> ?_);show pF P body Q (.goto l) bN aN;simp only [pF,aF];exact dZ bj bN aN dz eZ
    |some rest =>
     rw [aF]at ag;obtain⟨bO,mA,ak,mr,t2,ag⟩:=ih (some body) rest ah U c' ag;refine⟨bO,mA,ak,mr,?_,ag⟩;intro S w0 cb fE ec φ a w bt az r Q dZ;refine xm (t1 S w0 cb fE ec φ a w bt az r _ fun bj bN aN dz eZ=> ?_);show pF P body Q (.goto l) bN aN;simp only [pF,aF];exact t2 S w0 cb fE ec bj bN aN bt dz eZ Q dZ
   |normal=>exact⟨_,ah,U,c',pass (fun l=>by simp),ag⟩
   |exit j=>exact⟨_,ah,U,c',pass (fun l=>by simp),ag⟩
   |ret=>exact⟨_,ah,U,c',pass (fun l=>by simp),ag⟩
  |none =>
   have stop:∀{e0:bx},(∀(Q:Exit→Act→World→Prop)(a:Act)(w:World),Q (uk e0) a w→c.wp P Q a w)→K e0 F h hs→ ∃e dS h' dE,j3 P E.cond base n (q5 P none c) F h e dS h'∧K e dS h' dE:=by intro e0 bt ag;refine⟨e0,F,h,hs,?_,ag⟩;intro S w0 cb fE ec φ a w aM az r Q dZ;exact bt Q a w (dZ φ a w az r)
   cases c;case skip=>exact stop (e0:= .normal) (fun _ _ _ aw=>wp_skip aw) ag
   case label l=>exact stop (e0:= .normal) (fun _ _ _ aw=>wp_label aw) ag
   case goto l=>exact stop (e0:= .goto l) (fun _ _ _ aw=>wp_goto aw) ag
   case exit id=>exact stop (e0:= .exit id) (fun _ _ _ aw=>wp_exit aw) ag
   case ret=>exact stop (e0:= .ret) (fun _ _ _ aw=>wp_ret aw) ag
   case region id ops draw =>
    simp only [gd]at ag;have aF:∀j:Nat,ops.toList[j]? =ops[0+j]? :=fun j=>by simp
    have jf:x9 P E (sH P E fun b m c F h hs K=>gd P E S (aR P E.cond) k b m none c F h hs K):=by
     intro f args h hs K aw;unfold sH at aw;split at aw
     ·rename_i fn aS;split at aw
      ·rename_i c ao;obtain⟨e,dS,h',dE,t,aw⟩:=ih none c _ _ _ aw;obtain⟨v,aM,dL⟩:=GW bR aS ao t aw;exact⟨v,h',dE,aM,dL⟩
      ·exact aw.elim
     ·exact aw.elim
    cases Cg:(!draw || n5 ops)with
    |true =>
     rw [Cg,cond_true]at ag;cases aM:(Nat.ble base h.next&&true)with
     |false=>rw [aM]at ag;exact ag.elim
     |true =>
     rw [aM,cond_true]at ag;rw [Bool.and_true]at aM;have ao:base≤h.next:=Nat.le_of_ble_eq_true aM
     obtain⟨ah,U,c',k1,dL,np,gT⟩:=ya bR dI cb jf ops.toList 0 F _ hs [] aF ag;rw [List.nil_append]at dL;obtain⟨dO,dL⟩:=j4 dL;refine⟨.normal,ah,U,c',?_,dL⟩;intro S w0 cb fE ec φ a w bt az ⟨s,be,dT,r⟩ Q dZ;obtain⟨bm,g1,g2,jW⟩:=gT (pM k1) (GH dO) s be dT;have Ch:List.range' 0 ops.toList.length=List.range ops.size:=by rw [List.range_eq_range',Array.length_toList]
     rw [Ch]at jW
     have N3:qn E (pM k1) ops draw ⟨s,h⟩=some ⟨bm,U⟩:=by
      unfold qn;unfold nA at jW;cases draw with
      |false=>simpa using jW
      |true =>
       have aM:n5 ops=true:=by simpa using Cg
       simp only [if_true,aM];simpa using jW
     exact FG bR cb (NC P E np cb fE) dI r N3 fun bN aN bj cC ci gI=>dZ bj bN aN (az.trans (cC.mono ao)) ⟨bm,g1,g2,ci⟩
    |false =>
     rw [Cg,cond_false]at ag;obtain rfl:draw=true:=by cases draw<;>simp_all
     cases aM:(Nat.ble base h.next&&ui ops)with
     |false=>rw [aM]at ag;exact ag.elim
     |true =>
     rw [aM,cond_true]at ag;rw [Bool.and_eq_true]at aM;have ao:base≤h.next:=Nat.le_of_ble_eq_true aM.1
     obtain⟨ah,U,c',k1,dL,np,gT⟩:=ya bR dI cb jf ops.toList 0 F _ hs [] aF ag;rw [List.nil_append]at dL;obtain⟨dO,dL⟩:=j4 dL;refine⟨.normal,ah,U,c',?_,dL⟩;intro S w0 cb fE ec φ a w bt az ⟨s,be,dT,r⟩ Q dZ;obtain⟨bm,g1,g2,jW⟩:=gT (ra k1) (N1 dO) s be dT;have Ch:List.range' 0 ops.toList.length=List.range ops.size:=by rw [List.range_eq_range',Array.length_toList]
     rw [Ch]at jW;unfold nA at jW;simp only [if_true]at jW;exact Mc bR cb (N2 dO cb fE) (NZ k1) dI r aM.2 jW fun bN aN bj cC ci gI=>dZ bj bN aN (az.trans (cC.mono ao)) ⟨bm,g1,g2,ci⟩
   case seq x y =>
    simp only [gd]at ag;obtain⟨e,ah,U,c',t1,ag⟩:=ih none x F h hs ag
    have pass:e≠ .normal→j3 P E.cond base n (q5 P none (.seq x y)) F h e ah U:=by
     intro cg S w0 cb fE ec φ a w bt az r Q dZ;refine wp_seq (t1 S w0 cb fE ec φ a w bt az r _ fun bj bN aN dz eZ=> ?_);have:=dZ bj bN aN dz eZ;cases e with
     |normal=>exact absurd rfl cg
     |_=>exact this
    cases e with
    |normal =>
     obtain⟨bO,mA,ak,mr,t2,ag⟩:=ih none y ah U c' ag;refine⟨bO,mA,ak,mr,?_,ag⟩;intro S w0 cb fE ec φ a w bt az r Q dZ;exact wp_seq (t1 S w0 cb fE ec φ a w bt az r _ fun bj bN aN dz eZ=>t2 S w0 cb fE ec bj bN aN bt dz eZ Q dZ)
    |exit j=>exact⟨_,ah,U,c',pass (by simp),ag⟩
    |goto l=>exact⟨_,ah,U,c',pass (by simp),ag⟩
    |ret=>exact⟨_,ah,U,c',pass (by simp),ag⟩
   case cond x y z =>
    simp only [gd]at ag;cases az:sw F x with
    |false=>rw [az]at ag;exact ag.elim
    |true =>
     rw [az,cond_true]at ag
     have go:∀{q:Bool},a1 F x=.bool q→gd P E S (aR P E.cond) k base n none (cond q y z) F h hs K→ ∃e dS h' dE,j3 P E.cond base n (q5 P none (.cond x y z)) F h e dS h'∧K e dS h' dE:=by
      intro q aw ag;obtain⟨e,ah,U,c',t1,ag⟩:=ih none (cond q y z) F h hs ag;refine⟨e,ah,U,c',?_,ag⟩;intro S w0 cb fE ec φ a w bt dz r Q dZ;have hw:=t1 S w0 cb fE ec φ a w bt dz r Q dZ;obtain⟨s,be,dT,r⟩:=r;have ab:=r.eval x;simp only at ab;rw [←dT.get az,aw]at ab;simp only [aA]at ab;cases q
      ·exact wp_cond_false ab hw
      ·exact wp_cond_true ab hw
     split at ag
     ·rename_i aw;exact go (q:=true) aw ag
     ·rename_i aw;exact go (q:=false) aw ag
     ·exact ag.elim
   case block id c =>
    simp only [gd]at ag;obtain⟨e,ah,U,c',t1,ag⟩:=ih none c F h hs ag
    have pass:(∀j,e≠ .exit j)→j3 P E.cond base n (q5 P none (.block id c)) F h e ah U:=by
     intro cg S w0 cb fE ec φ a w bt az r Q dZ;refine wp_block (t1 S w0 cb fE ec φ a w bt az r _ fun bj bN aN dz eZ=> ?_);have:=dZ bj bN aN dz eZ;cases e with
     |exit j=>exact absurd rfl (cg j)
     |_=>exact this
    cases e with
    |exit j =>
     refine⟨_,ah,U,c',?_,ag⟩;intro S w0 cb fE ec φ a w bt az r Q dZ;refine wp_block (t1 S w0 cb fE ec φ a w bt az r _ fun bj bN aN dz eZ=> ?_);have:=dZ bj bN aN dz eZ;simp only [uk,Exit.inBlock];rcases my j id with ⟨ay,sI⟩|⟨ay,sI⟩
     ·rw [sI,cond_true]at this;rw [if_pos ay];exact this
     ·rw [sI,cond_false]at this;rw [if_neg ay];exact this
    |normal=>exact⟨_,ah,U,c',pass (fun j=>by simp),ag⟩
    |goto l=>exact⟨_,ah,U,c',pass (fun j=>by simp),ag⟩
    |ret=>exact⟨_,ah,U,c',pass (fun j=>by simp),ag⟩
   case loop c =>
    simp only [gd]at ag;split at ag
    ·rename_i l ah U bo cB;have ab:j3 P E.cond base n (q5 P none (.loop c)) (oA F l) h bo ah U:=ag.1;exact⟨_,_,_,_,ab.pre (bL.facts fun t v a7=>xT a7),ag.2⟩
    ·exact⟨_,_,_,_,ag.1,ag.2⟩
    ·rename_i m r
     have key:∀(m:Nat)(F:a6)(h:I)(hs:dA),yb (fun F h hs K=>gd P E S (aR P E.cond) k base n none c F h hs K) K m F h hs→ ∃e dS h' dE,bf P E.cond base n c F h e dS h'∧K e dS h' dE:=by
      intro m;induction m with
      |zero=>intro F h hs ag;exact ag.elim
      |succ m N4 =>
       intro F h hs ag;simp only [yb]at ag;obtain⟨e,ah,U,c',t1,ag⟩:=ih none c F h hs ag;cases e with
       |normal =>
        obtain⟨bO,mA,ak,mr,t2,ag⟩:=N4 ah U c' ag;exact⟨bO,mA,ak,mr,bf.step t1 t2,ag⟩
       |exit j=>exact⟨_,ah,U,c',bf.last (by simp) t1,ag⟩
       |goto j=>exact⟨_,ah,U,c',bf.last (by simp) t1,ag⟩
       |ret=>exact⟨_,ah,U,c',bf.last (by simp) t1,ag⟩
     obtain⟨e,dS,h',dE,t,dL⟩:=key m F h r ag;exact⟨e,dS,h',dE,aR.cx t,dL⟩
    ·rename_i p y dC;by_cases aw:p
     ·exact ih none (.loop c) F h y (ag.1 aw)
     ·exact ih none (.loop c) F h dC (ag.2 aw)
    ·rename_i α p f;obtain⟨⟨x,ab⟩,ag⟩:=ag;exact ih none (.loop c) F h (f x) (ag x ab)
    ·exact ag.elim
   case scope c =>
    simp only [gd]at ag;obtain⟨e,ah,U,c',t1,ag⟩:=ih (some c) c F h hs ag;refine⟨e,ah,U,c',?_,ag⟩;intro S w0 cb fE ec φ a w bt az r Q dZ;exact FJ (t1 S w0 cb fE ec φ a w bt az r Q dZ)
   all_goals exact ag.elim
variable(P E S)
def GY(f:FuncId)(args:List J)(h:I)(hs:dA)(K:J→I→Prop):Prop :=
 sH P E (fun b m c F h hs K=>gd P E S (aR P E.cond) 1000 b m none c F h hs K) f args h hs fun v h' _=>K v h'
def N5(base n:Nat)(c:Code)(F:a6)(h:I)(hs:dA)(keep:List Nat)(K:bx→a6→I→Prop):Prop :=
 gd P E S (aR P E.cond) 1000 base n none c F h hs fun e dS h' _=>K e (oA dS keep) h'
variable {P E S}
theorem cE(bR:fh P E)(dI:P.follows .mixedOrders=true)(cb:iz P E.cond S){f:FuncId}{args:List J}{h:I}{hs:dA}{K:J→I→Prop}{p:Prop}(e:GY P E S f args h hs K=p)(k:p):∃v h',aZ P E.cond f args h v h'∧K v h':=by
 rw [←e]at k;unfold GY sH at k;split at k
 ·rename_i fn aS;split at k
  ·rename_i c ao;obtain⟨e,dS,h',dE,t,aw⟩:=GX bR dI cb 1000 none c _ _ _ k;obtain⟨v,aM,dL⟩:=GW bR aS ao t aw;exact⟨v,h',aM,dL⟩
  ·exact k.elim
 ·exact k.elim
theorem b0(bR:fh P E)(dI:P.follows .mixedOrders=true)(cb:iz P E.cond S){base n:Nat}{c:Code}{F:a6}{h:I}{hs:dA}{keep:List Nat}{K:bx→a6→I→Prop}{p:Prop}(e:N5 P E S base n c F h hs keep K=p)(k:p) :
 ∃e dS h',aR P E.cond base n c F h e dS h'∧K e dS h':=by
 rw [←e]at k;obtain⟨e,dS,h',dE,t,aw⟩:=GX bR dI cb 1000 none c _ _ _ k;exact⟨e,_,h',t.post (bL.facts (a6.GI _ _)),aw⟩
end
end
end Go.ba
namespace Go.ba
abbrev an(n:Nat)(r:dA):dA:= .aa (.go n) r
abbrev he(n:Nat)(r:dA):dA:= .aa (.enter n) r
abbrev Wq(a b x:Int):Prop:=a≤x∧x≤b
abbrev ad(a b:Nat)(p:Prop):Prop:=bif Nat.ble a b&&true then p else False
abbrev cW(a b:Nat)(p:Prop):Prop:=bif Nat.ble a b then p else False
end Go.ba
namespace Go.ba
noncomputable section
open Go.RowKit
mutual
theorem J.yd{D:Nat→Prop}{r:Nat→Nat}(h:∀i,D i→r i=i):∀{v:J},cw D v→v.bF r=v
 |.ptr (some a),k=>by simp only [cw]at k;simp only [J.bF,aO.bF,h _ k]
 |.slice (some a) _ _,k=>by simp only [cw]at k;simp only [J.bF,aO.bF,h _ k]
 |.func fn f c,k=>by simp only [cw]at k;simp only [J.bF,J.uX h k.1,J.uX h k.2]
 |.iface t v,k=>by simp only [cw]at k;simp only [J.bF,J.yd h k]
 |.agg cs,k=>by simp only [cw]at k;simp only [J.bF,J.uX h k]
 |.tuple vs,k=>by simp only [cw]at k;simp only [J.bF,J.uX h k]
 |.undef,_=>rfl
 |.bool _,_=>rfl
 |.int _ _,_=>rfl
 |.str _,_=>rfl
 |.ptr none,_=>rfl
 |.slice none _ _,_=>rfl
 |.nilFunc,_=>rfl
 |.nilIface,_=>rfl
theorem J.uX{D:Nat→Prop}{r:Nat→Nat}(h:∀i,D i→r i=i):∀{l:List J},e9 D l→J.iw r l=l
 |[],_=>rfl
 |a::l,k=>by simp only [e9]at k;simp only [J.iw,J.yd h k.1,J.uX h k.2]
end
def GZ(D:Nat→Prop)(b:aJ):Prop:= ∀e∈b.a',cw D e
theorem aJ.yd{D:Nat→Prop}{r:Nat→Nat}(h:∀i,D i→r i=i){b:aJ}(k:GZ D b):b.bF r=b:=by
 unfold aJ.bF
 have:b.a'.map (J.bF r)=b.a':=by
  conv=>rhs;rw [←List.map_id b.a']
  exact List.map_congr_left fun e he=>J.yd h (k e he)
 rw [this]
end
end Go.ba
namespace Go.ba
noncomputable section
open Go.RowKit
def G0:List (Nat×aJ)→Option aJ
 |[]=>none
 |(k,b)::r=>_root_.cond (Nat.beq k 0) (some b) (G0 r)
def uY(o:Nat):List (Nat×aJ)→List (Nat×aJ)
 |[]=> []
 |(k,b)::r=>_root_.cond (Nat.beq k 0) (uY o r) (_root_.cond (Nat.beq (Nat.mod k 2) o) (((k- (2-o))/2,b)::uY o r) (uY o r))
def ofLT:Nat→List (Nat×aJ)→aK aJ
 |_,[]=> .nil
 |0,_=> .nil
 |d+1,l=> .node (G0 l) (ofLT d (uY 1 l)) (ofLT d (uY 0 l))
def I.bI(n:Nat)(l:List (Nat×aJ)):I:=⟨n,ofLT 20 l⟩
def I.lay(H:I)(n:Nat)(l:List (Nat×aJ)):I:=l.foldl (fun h p=>h.set p.1 p.2) {H with next:=n}
theorem N6(l:List (Nat×aJ)):∀(h:I),(l.map (·.1)).Nodup→ ∀p∈l,(l.foldl (fun h p=>h.set p.1 p.2) h).get p.1=some p.2:=by
 induction l with
 |nil=>intro h _ p ag;cases ag
 |cons a r ih =>
  intro h be p ag;simp only [List.map_cons,List.nodup_cons]at be;rw [List.foldl_cons];rcases List.mem_cons.1 ag with rfl|ag
  ·have:∀(r:List (Nat×aJ)) (h:I),p.1 ∉ r.map (·.1)→(r.foldl (fun h p=>h.set p.1 p.2) h).get p.1=h.get p.1:=by
    intro r;induction r with
    |nil=>intro h _;rfl
    |cons b s um =>
     intro h hm;simp only [List.map_cons,List.mem_cons,not_or]at hm;rw [List.foldl_cons,um _ hm.2,I.hX _ _ (Ne.symm hm.1)]
   rw [this r _ be.1,I.eG]
  ·exact ih _ be.2 p ag
theorem G1(l:List (Nat×aJ)):∀(h:I)(i:Nat),i ∉ l.map (·.1)→(l.foldl (fun h p=>h.set p.1 p.2) h).get i=h.get i:=by
 induction l with
 |nil=>intro h i _;rfl
 |cons p r ih =>
  intro h i ac;simp only [List.map_cons,List.mem_cons,not_or]at ac;rw [List.foldl_cons,ih _ i ac.2,I.hX _ _ (Ne.symm ac.1)]
theorem G2(l:List (Nat×aJ)):∀(h:I),(l.foldl (fun h p=>h.set p.1 p.2) h).next=h.next:=by
 induction l with
 |nil=>intro h;rfl
 |cons p r ih=>intro h;rw [List.foldl_cons,ih];rfl
theorem uZ{ids:List Nat}{n i:Nat}(h:i<ids.length):eg ids n i=ids[i]:=by simp [eg,List.getElem?_eq_getElem h]
theorem rb{ids:List Nat}{n i:Nat}(h:ids.length≤i):eg ids n i=n+(i-ids.length):=by simp [eg,List.getElem?_eq_none h]
theorem N7{ids:List Nat}{n:Nat}(be:ids.Nodup)(bH:∀j∈ids,j<n){i j:Nat}(e:eg ids n i=eg ids n j):i=j:=by
 by_cases bU:i<ids.length<;>by_cases b8:j<ids.length
 ·rw [uZ bU,uZ b8]at e;exact(List.getElem_inj be).1 e
 ·rw [uZ bU,rb (by omega)]at e;have:=bH _ (List.getElem_mem bU);omega
 ·rw [uZ b8,rb (by omega)]at e;have:=bH _ (List.getElem_mem b8);omega
 ·rw [rb (by omega),rb (by omega)]at e;omega
def aK.fe:aK aJ→List (Nat×aJ)
 |.nil=> []
 |.node v l r=>(match v with|some b=> [(0,b)]|none=> [])++((aK.fe l).map fun p=>(2*p.1+1,p.2))++((aK.fe r).map fun p=>(2*p.1+2,p.2))
theorem aK.N8(v:Option aJ)(l r:aK aJ)(k:Nat):(aK.node v l r).get k=_root_.cond (Nat.beq k 0) v (_root_.cond (Nat.beq (k%2) 1) (l.get (k/2)) (r.get (k/2-1))):=rfl
theorem aK.ye:∀(t:aK aJ)(k:Nat)(b:aJ),t.get k=some b→(k,b)∈aK.fe t
 |.nil,k,b,h=>by cases h
 |.node v l r,k,b,h=>by
  rw [aK.N8]at h;unfold aK.fe;rcases my k 0 with ⟨e,e'⟩|⟨e,e'⟩
  ·rw [e',cond_true]at h;subst h;subst e;simp
  ·rw [e',cond_false]at h;rcases my (k%2) 1 with ⟨f,bG⟩|⟨f,bG⟩
   ·rw [bG,cond_true]at h;have:=aK.ye l _ _ h;refine List.mem_append_left _ (List.mem_append_right _ (List.mem_map.2 ⟨_,this,?_⟩));simp only [Prod.mk.injEq,and_true];omega
   ·rw [bG,cond_false]at h;have:=aK.ye r _ _ h;refine List.mem_append_right _ (List.mem_map.2 ⟨_,this,?_⟩);simp only [Prod.mk.injEq,and_true];omega
theorem aK.Ci:∀(t:aK aJ),((aK.fe t).map (·.1)).Nodup
 |.nil=>List.nodup_nil
 |.node v l r=>by
  unfold aK.fe;have U:=aK.Ci l;have ak:=aK.Ci r;have m1:(((aK.fe l).map fun p=>(2*p.1+1,p.2)).map (·.1))=((aK.fe l).map (·.1)).map fun k=>2*k+1:=by simp [List.map_map,Function.comp_def]
  have m2:(((aK.fe r).map fun p=>(2*p.1+2,p.2)).map (·.1))=((aK.fe r).map (·.1)).map fun k=>2*k+2:=by simp [List.map_map,Function.comp_def]
  rw [List.map_append,List.map_append,m1,m2]
  have inj:∀(l:List Nat)(c:Nat),l.Nodup→(l.map fun k=>2*k+c).Nodup:=by intro l c aF;rw [List.nodup_iff_pairwise_ne,List.pairwise_map];exact List.Pairwise.imp (fun k3 e=>k3 (by omega)) (List.nodup_iff_pairwise_ne.1 aF)
  rw [List.nodup_append,List.nodup_append];refine⟨⟨by cases v<;>simp,inj _ _ U,?_⟩,inj _ _ ak,?_⟩
  ·intro a aW b ao e;obtain⟨k,_,rfl⟩:=List.mem_map.1 ao;cases v with
   |none=>simp at aW
   |some x=>simp at aW;omega
  ·intro a aW b ao e;obtain⟨k,_,rfl⟩:=List.mem_map.1 ao;rcases List.mem_append.1 aW with aW|aW
   ·cases v with
    |none=>simp at aW
    |some x=>simp at aW;omega
   ·obtain⟨j,_,rfl⟩:=List.mem_map.1 aW;omega
theorem aZ.place{P:Program}{C:(Nat→Prop)→World→Prop}[kH C]{f:FuncId}{args:List J}{v:J}{l:List aJ}{h':I}(k:aZ P C f args (I.of l) v h')(q7:l.length≤h'.next)
 (ao:∀b∈l,GZ (fun i=>i<l.length) b) (aW:e9 (fun i=>i<l.length) args) {H:I} (ids:List Nat) (be:ids.Nodup) (bH:∀j∈ids,j<H.next) (hlen:ids.length=l.length)
 (aF:∀i b,l[i]? =some b→H.get (eg ids H.next i)=some (b.bF (eg ids H.next))) :
 ∃H',aZ P C f (args.map (J.bF (eg ids H.next))) H (v.bF (eg ids H.next)) H'∧H'.next=H.next+(h'.next-l.length)∧(∀i b,h'.get i=some b→H'.get (eg ids H.next i)=some (b.bF (eg ids H.next)))∧∀j,j<H.next→j ∉ ids→H'.get j=H.get j:=by
 let ds:=aK.fe h'.aj
 have gi:(ds.map (·.1)).Nodup:=aK.Ci _
 let dC:=h'.next
 let r:=eg ids H.next
 have G3:∀i j,r i=r j→i=j:=fun i j e=>N7 be bH e
 let m:List (Nat×aJ):=ds.map fun p=>(r p.1,p.2.bF r)
 have G4:m.map (·.1)=(ds.map (·.1)).map r:=by simp [m,List.map_map,Function.comp_def]
 have N9:(m.map (·.1)).Nodup:=by rw [G4,List.nodup_iff_pairwise_ne,List.pairwise_map];exact List.Pairwise.imp (fun k3 e=>k3 (G3 _ _ e)) (List.nodup_iff_pairwise_ne.1 gi)
 have hl:∀p∈ds,(H.lay (H.next+(dC-l.length)) m).get (r p.1)=some (p.2.bF r):=by intro p ag;exact N6 m _ N9 (r p.1,p.2.bF r) (List.mem_map.2 ⟨p,ag,rfl⟩)
 have G5:∀j,j<H.next→(∀i,i<l.length→r i≠j)→j ∉ m.map (·.1):=by
  intro j ay cg hm;rw [G4]at hm;obtain⟨i,_,e⟩:=List.mem_map.1 hm;by_cases c:i<l.length
  ·exact cg i c e
  ·have:r i=H.next+(i-ids.length):=rb (by omega)
   omega
 refine⟨H.lay (H.next+(dC-l.length)) m,k.frame (r:=r) ⟨?_,?_,?_⟩ ?_ ?_ ?_ ?_ ?_,?_,fun i b an=>hl (i,b) (aK.ye _ _ _ an),?_⟩
 ·intro i b an;rw [I.io]at an;exact⟨by rw [I.of_next];exact(List.getElem?_eq_some_iff.1 an).1,aF i b an⟩
 ·intro i j _ _ e;exact G3 i j e
 ·intro i b an e he;rw [I.io]at an;exact cw.mono (fun i ac=>I.sE.2 ac) (ao b (List.mem_of_getElem? an) e he)
 ·exact e9.mono (fun i ac=>I.sE.2 ac) aW
 ·intro i ac;rw [I.of_next]at ac;rw [I.of_next,←hlen];exact rb (by omega)
 ·intro i b an _;exact hl (i,b) (aK.ye _ _ _ an)
 ·rw [I.of_next];unfold I.lay;rw [G2]
 ·intro j ay cg;unfold I.lay;rw [G1 _ _ _ (G5 j ay fun i ac=>cg i (I.sE.2 ac))];rfl
 ·unfold I.lay;rw [G2]
 ·intro j ay hm;unfold I.lay;rw [G1 _ _ _ (G5 j ay fun i ac e=>hm (by rw [←e];show eg ids H.next i∈ids;rw [uZ (by omega)];exact List.getElem_mem _))];rfl
theorem aZ.gm{P:Program}{C:(Nat→Prop)→World→Prop}[kH C]{f:FuncId}{args:List J}{v:J}(k:∃v1 U,aZ P C f args ⟨0,.nil⟩ v1 U∧v1=v)(aW:J.nB args=true)(a7:v.mB=true)(H:I):aZ P C f args H v H:=by
 obtain⟨v1,U,aM,rfl⟩:=k
 have hd:∀{l:List J},J.nB l=true→ ∀a∈l,ey a:=by
  intro l;induction l with
  |nil=>intro _ a aW;cases aW
  |cons x r ih =>
   intro aF a aW;simp only [J.nB,Bool.and_eq_true]at aF;rcases List.mem_cons.1 aW with rfl|hm
   ·exact ey.of aF.1
   ·exact ih aF.2 a hm
 exact aM.bare (hd aW) (ey.of a7) H
def u0(g:List J→Option (J×List Prop)):List J→I→Option j5:=fun args h=>match g args with|some (v,ps)=>some (.one v h ps)|none=>none
theorem Cj{P:Program}{C:(Nat→Prop)→World→Prop}{f:FuncId}{g:List J→Option (J×List Prop)}(k:∀args v ps,g args=some (v,ps)→cG ps→ ∀H,aZ P C f args H v H):∀args h a,u0 g args h=some a→a.dG P C f args h:=by
 intro args h a e;unfold u0 at e;split at e
 ·rename_i u qs hu;simp only [Option.some.injEq]at e;subst e;exact fun ag=>k _ _ _ hu ag h
 ·cases e
end
end Go.ba
namespace Go.Proofs.YtjpfnbihopoeeaaGreatDoor
open Go.ba
abbrev Bytes:=List UInt8
instance:kH aq where
 mono _ dV hs be:=dV.keep hs be
instance:kH env.cond:=inferInstanceAs (kH aq)
end Go.Proofs.YtjpfnbihopoeeaaGreatDoor
namespace Go.Proofs.YtjpfnbihopoeeaaGreatDoor
open Go.ba
abbrev u1:=List UInt8
end Go.Proofs.YtjpfnbihopoeeaaGreatDoor
namespace Go.Proofs.YtjpfnbihopoeeaaGreatDoor
open Go.ba
end Go.Proofs.YtjpfnbihopoeeaaGreatDoor
namespace Go.Proofs.YtjpfnbihopoeeaaGreatDoor
open Go.ba Go.Shelf Go.RowKit
end Go.Proofs.YtjpfnbihopoeeaaGreatDoor
namespace Go.ba
noncomputable section
open Go.RowKit
theorem N'{F:a6}{t:Nat}{v:J}(a7:gb F t=some v):(t,v)∈F:=by
 induction F with
 |nil=>cases a7
 |cons p r ih =>
  obtain⟨k,u⟩:=p;rw [ny]at a7;split at a7
  ·rename_i e;simp only [Option.some.injEq]at a7;subst e;subst a7;simp
  ·exact List.mem_cons_of_mem _ (ih a7)
theorem Oa{F:a6}{g:J→J}{t:Nat}{v:J}(a7:gb F t=some v):gb (F.map fun p=>(p.1,g p.2)) t=some (g v):=by
 induction F with
 |nil=>cases a7
 |cons p r ih =>
  obtain⟨k,u⟩:=p;rw [List.map_cons,ny];rw [ny]at a7;split at a7
  ·rename_i e;simp only [Option.some.injEq]at a7;subst a7;rw [if_pos e]
  ·rename_i e;rw [if_neg e];exact ih a7
theorem bL.move{base n:Nat}{F ah:a6}{h:I}{K:Nat}{l:List (Nat×aJ)}(r:Nat→Nat)(aF:l.map (fun p=>h.get (r p.1))=l.map (fun p=>some (p.2.bF r)))(dL:l.all (fun p=>Nat.blt p.1 K)=true)
 (aC:((l.map (·.1)).map r).Nodup) (ao:(List.range base).all (fun i=>(l.map (·.1)).contains i&&Nat.beq (r i) i)=true) (fg:l.all (fun p=>Nat.blt p.1 base || Nat.ble base (r p.1))=true)
 (Ob:F=ah.map fun p=>(p.1,p.2.bF r)) (be:ah.all (fun p=>Nat.blt p.1 n)=true) (dT:cG (ah.map fun p=>cw (lQ (l.map (·.1))) p.2))
 (ar:cG (l.map fun p=> ∀e∈p.2.a',cw (lQ (l.map (·.1))) e)):bL base n F h ah (I.rows K l):=by
 have hl:∀i b,(I.rows K l).get i=some b→i<K∧h.get (r i)=some (b.bF r):=by intro i b k;have hm:=I.q8 k;refine⟨Nat.blt_eq.mp (List.all_eq_true.1 dL _ hm),?_⟩;obtain⟨j,ay,e⟩:=List.mem_iff_getElem.1 hm;have U:=congrArg (fun(x:List (Option aJ))=>x[j]?) aF;simp only [List.getElem?_map,List.getElem?_eq_getElem ay,Option.map_some,e,Option.some.injEq]at U;exact U
 have pN:∀{v:J},cw (lQ (l.map (·.1))) v→cw (In (I.rows K l)) v:=cw.mono fun i ac=>I.sB ac
 subst Ob;refine bL.bF (r:=r) ⟨fun i b k=>⟨by rw [I.x3];exact(hl i b k).1,(hl i b k).2⟩,?_,?_⟩ ?_ ?_ ?_ ?_
 ·intro i j ac ay e;have ac:=I.sC ac;have ay:=I.sC ay;obtain⟨a,aW,rfl⟩:=List.mem_iff_getElem.1 ac;obtain⟨b,fr,rfl⟩:=List.mem_iff_getElem.1 ay;have U:((l.map (·.1)).map r)[a]'(by simpa using aW)=((l.map (·.1)).map r)[b]'(by simpa using fr):=by simpa using e
  have:=(List.getElem_inj aC).1 U;subst this;rfl
 ·intro i b k e he;have hm:=I.q8 k;exact pN (ar _ (List.mem_map.2 ⟨_,hm,rfl⟩) e he)
 ·intro t v a7;have hm:=N' a7;exact⟨Nat.blt_eq.mp (List.all_eq_true.1 be _ hm),Oa a7,pN (dT _ (List.mem_map.2 ⟨_,hm,rfl⟩))⟩
 ·intro i ac _;have:=List.all_eq_true.1 ao i (List.mem_range.2 ac);simp only [Bool.and_eq_true]at this;exact I.sB (by simpa using this.1)
 ·intro i ac _;have:=List.all_eq_true.1 ao i (List.mem_range.2 ac);simp only [Bool.and_eq_true]at this;exact Nat.eq_of_beq_eq_true this.2
 ·intro i ac bH;have ac:=I.sC ac;obtain⟨p,hm,rfl⟩:=List.mem_map.1 ac;have:=List.all_eq_true.1 fg p hm;simp only [Bool.or_eq_true]at this;rcases this with U|U
  ·exact Nat.blt_eq.mp U
  ·have:=Nat.le_of_ble_eq_true U;omega
end
end Go.ba
namespace Go.Proofs.YtjpfnbihopoeeaaGreatDoor
open Go.ba
end Go.Proofs.YtjpfnbihopoeeaaGreatDoor
namespace Go.Proofs.YtjpfnbihopoeeaaGreatDoor
open Go.ba
end Go.Proofs.YtjpfnbihopoeeaaGreatDoor
namespace Go.Proofs.YtjpfnbihopoeeaaGreatDoor
open Go.ba
end Go.Proofs.YtjpfnbihopoeeaaGreatDoor
namespace Go.Proofs.YtjpfnbihopoeeaaGreatDoor
open Go.ba
end Go.Proofs.YtjpfnbihopoeeaaGreatDoor
namespace Go.Proofs.YtjpfnbihopoeeaaGreatDoor
open Go.ba Go.Shelf Go.RowKit
end Go.Proofs.YtjpfnbihopoeeaaGreatDoor
namespace Go.Proofs.YtjpfnbihopoeeaaGreatDoor
open Go.ba
end Go.Proofs.YtjpfnbihopoeeaaGreatDoor
namespace Go.Proofs.YtjpfnbihopoeeaaGreatDoor
open Go.ba
end Go.Proofs.YtjpfnbihopoeeaaGreatDoor
namespace Go.Proofs.YtjpfnbihopoeeaaGreatDoor
open Go.ba
end Go.Proofs.YtjpfnbihopoeeaaGreatDoor
namespace Go.Proofs.YtjpfnbihopoeeaaGreatDoor
open Go.ba
end Go.Proofs.YtjpfnbihopoeeaaGreatDoor
namespace Go.Proofs.YtjpfnbihopoeeaaGreatDoor
open Go.ba
end Go.Proofs.YtjpfnbihopoeeaaGreatDoor
namespace Go.Proofs.YtjpfnbihopoeeaaGreatDoor
open Go.ba
abbrev u2(H:I):I:=(I.mk (H.next+1+8) (I.aj (I.mk (H.next+1) (I.aj H))))
theorem Oc(H:I)(o:Option aO)(n c:Nat)(k:Int)(p:aO)(w:List UInt8)(ai:J→I→Prop)(aG:ad (H.next) (H.next) (ad (H.next) (H.next+1) ((k<0→ad (H.next) (H.next+9) (cW (H.next) (H.next+10) (ai (.str []) (I.mk (H.next+9+1) (I.aj (u2 H))))))∧(¬k<0→((n:Int)≤k→ad (H.next) (H.next+9) (cW (H.next) (H.next+10) (ai (.str []) (I.mk (H.next+9+1) (I.aj (u2 H))))))∧(¬(n:Int)≤k→ad (H.next) (H.next+9) (bb env.D 36 (.slice o n c) (.int .i64 k)=some (J.ptr (some p))∧aQ env.D 9 p (I.mk (H.next+14) (H.2))=some (J.str w)∧cW (H.next) (H.next+14) (ai (.str w) (I.mk (H.next+9+5) (I.aj (u2 H)))))))))) :
 ∃v U,aZ Tryz.prog aq 49 [.slice o n c,.int .i64 k] H v U∧ai v U :=
 cE bg mixed bq (hs:= .bP 1001 .nil (.bP 1006 .nil (.aa (.val 3002 (.ptr (some p))) (.aa (.val 3003 (.str w)) .nil)))) (by kernel_rfl) aG
end Go.Proofs.YtjpfnbihopoeeaaGreatDoor
namespace Go.Proofs.YtjpfnbihopoeeaaGreatDoor
open Go.ba
abbrev up(H:I)(m:Nat):I:=⟨H.next+m,H.aj⟩
def G6(H:I)(v:J)(l:List Bytes):Prop :=
 ∃o c,v=.slice o l.length c∧∀i,(ac:i<l.length)→ ∃a b,o=some a∧a.es=1∧a.fld=0∧H.get a.id=some b∧b.elem? a.ver (a.idx+i)=some (.str l[i])
def kK(l:List Bytes)(k:Int):Bytes:=if k<0 then []else(l[k.toNat]?).getD []
theorem G7{l:List Bytes}{k:Int}(bt:¬k<0)(h:¬(l.length:Int)≤k):kK l k=l[k.toNat]'(by omega):=by unfold kK;rw [if_neg bt,List.getElem?_eq_getElem (by omega)];rfl
theorem Od{l:List Bytes}{k:Int}(bt:k<0):kK l k=[]:=if_pos bt
theorem G8{l:List Bytes}{k:Int}(h:(l.length:Int)≤k):kK l k=[]:=by
 unfold kK;split
 ·rfl
 ·rw [List.getElem?_eq_none (by omega)];rfl
theorem df{a b:Nat}{p:Prop}(h:a≤b)(k:p):_root_.cond (Nat.ble a b) p False:=by rw [Nat.ble_eq.mpr h];exact k
theorem ae{a b:Nat}{p:Prop}(h:a≤b)(k:p):bif Nat.ble a b&&true then p else False:=by rw [Nat.ble_eq.mpr h];exact k
theorem bump{f:FuncId}{args:List J}{H h':I}{v:J}{n:Nat}(k:aZ Tryz.prog aq f args H v h')(be:h'.next≤n):aZ Tryz.prog aq f args H v ⟨n,h'.aj⟩:=by intro S w0 cb fE φ w args' dw aX dy;obtain⟨g1,g2⟩:=k S w0 cb fE φ w args' dw aX dy;exact⟨g1,g2.mono fun e aN ⟨a8,bj,cM,a2,a3,a4,a5,iO⟩=>⟨a8,bj,cM,a2,a3,a4.next be,a5,Nat.le_trans iO be⟩⟩
theorem Oe{k:Int}{l:List Bytes}{o:Option aO}{c:Nat}{H:I}(aC:∀i,(ac:i<l.length)→ ∃a b,o=some a∧a.es=1∧a.fld=0∧H.get a.id=some b∧b.elem? a.ver (a.idx+i)=some (.str l[i])) :
 ∃p:aO,¬k<0→ ¬(l.length:Int)≤k→bb (bh.D env) 36 (J.slice o l.length c) (J.int IntKind.i64 k)=some (J.ptr (some p))∧∀n,aQ (bh.D env) 9 p (⟨n,H.aj⟩)=some (J.str (kK l k)):=by
 by_cases bt:k<0
 ·exact⟨⟨0,0,0,0,0⟩,fun h=>absurd bt h⟩
 ·by_cases U:(l.length:Int)≤k
  ·exact⟨⟨0,0,0,0,0⟩,fun _ h=>absurd U h⟩
  ·obtain⟨a,b,rfl,bo,bO,fR,jV⟩:=aC k.toNat (by omega);have cp:(bh.D env 36).map (fun d=>d.kind)=some (.slice 9):=by kernel_rfl
   have bR:(bh.D env 9).map (fun d=>(d.size,d.kind.isAgg))=some (1,false):=by kernel_rfl
   obtain⟨d,d1,d2⟩:=Option.map_eq_some_iff.1 cp;obtain⟨x,cf,cu⟩:=Option.map_eq_some_iff.1 bR;simp only [Prod.mk.injEq]at cu;refine⟨{a with idx:=a.idx+k.toNat},fun _ _=>⟨?_,fun n=> ?_⟩⟩
   ·unfold bb;simp only [d1,d2,cf];rw [if_pos ⟨by omega,by omega,by rw [bo,cu.1],bO⟩]
   ·unfold aQ;have an:I.get ⟨n,H.aj⟩ a.id=some b:=fR;simp only [cf,an,jV,cu.2,G7 bt U,n1,bO];rfl
theorem Of{H:I}{v:J}{l:List Bytes}(h:G6 H v l)(k:Int):aZ Tryz.prog aq 49 [v,.int .i64 k] H (.str (kK l k)) (up H 14):=by
 obtain⟨o,c,rfl,aC⟩:=h;obtain⟨p,ag⟩:=Oe (k:=k) (c:=c) aC
 obtain⟨v1,U,aM,rfl,m,hm,rfl⟩:=Oc H o l.length c k p (kK l k) (fun v U=>v=.str (kK l k)∧∃m,m≤14∧U=up H m)
  (ae (Nat.le_refl _) (ae (by omega) ⟨fun h=>ae (by omega) (df (by omega) ⟨by rw [Od h],10,by omega,rfl⟩),fun h=>⟨fun ak=>ae (by omega) (df (by omega) ⟨by rw [G8 ak],10,by omega,rfl⟩),
   fun ak=>ae (by omega) ⟨(ag h ak).1,(ag h ak).2 _,df (by omega) ⟨rfl,14,by omega,rfl⟩⟩⟩⟩))
 exact bump (h':=up H m) aM (by show H.next+m≤H.next+14;omega)
end Go.Proofs.YtjpfnbihopoeeaaGreatDoor
namespace Go.Proofs.YtjpfnbihopoeeaaGreatDoor
open Go.ba
end Go.Proofs.YtjpfnbihopoeeaaGreatDoor
namespace Go.Proofs.YtjpfnbihopoeeaaGreatDoor
open Go.ba
end Go.Proofs.YtjpfnbihopoeeaaGreatDoor
namespace Go.Proofs.YtjpfnbihopoeeaaGreatDoor
open Go.ba
end Go.Proofs.YtjpfnbihopoeeaaGreatDoor
namespace Go.Proofs.YtjpfnbihopoeeaaGreatDoor
open Go.ba
end Go.Proofs.YtjpfnbihopoeeaaGreatDoor
namespace Go.Proofs.YtjpfnbihopoeeaaGreatDoor
open Go.ba
end Go.Proofs.YtjpfnbihopoeeaaGreatDoor
namespace Go.Proofs.YtjpfnbihopoeeaaGreatDoor
open Go.ba
end Go.Proofs.YtjpfnbihopoeeaaGreatDoor
namespace Go.Proofs.YtjpfnbihopoeeaaGreatDoor
open Go.ba
end Go.Proofs.YtjpfnbihopoeeaaGreatDoor
namespace Go.Proofs.YtjpfnbihopoeeaaGreatDoor
open Go.ba
structure Fr(H H':I)(L:List Nat):Prop where
 next:H.next≤H'.next
 get:∀x,x<H.next→x ∉ L→H'.get x=H.get x
theorem Fr.refl(H:I)(L:List Nat):Fr H H L:=⟨Nat.le_refl _,fun _ _ _=>rfl⟩
theorem Fr.up(H:I)(k:Nat)(L:List Nat):Fr H (up H k) L:=⟨by show H.next≤H.next+k;omega,fun _ _ _=>rfl⟩
theorem Fr.trans{H H1 af:I}{L M:List Nat}(a:Fr H H1 L)(b:Fr H1 af M)(h:∀x∈M,x<H.next→x∈L):Fr H af L :=
 ⟨Nat.le_trans a.next b.next,fun x ab de=>by
  have be:=a.next
  rw [b.get x (by omega) (fun k=>de (h x k ab)),a.get x ab de]⟩
theorem Fr.sub{H H1:I}{L M:List Nat}(a:Fr H H1 L)(h:∀x∈L,x<H.next→x∈M):Fr H H1 M:=⟨a.next,fun x ab jj=>a.get x ab fun k=>jj (h x k ab)⟩
theorem Fr.set(H:I)(q:Nat)(b:aJ){L:List Nat}(h:q<H.next→q∈L):Fr H (H.set q b) L:=⟨Nat.le_refl _,fun x ab de=>I.hX _ _ fun e=>by subst e;exact de (h ab)⟩
structure re(t e hr:Nat):Prop where
 eS:pO env.D t e 1 hr
 G9:(bh.D env e).map (fun d=>d.kind.isAgg)=some false
theorem Og:pO env.D 22 36 1 24:=by
 have U:(env.D 36).map (fun x=>(x.size,x.bytes,x.o7))=some (1,24,true):=by kernel_rfl
 have ak:(env.D 22).map (fun x=>x.kind)=some (.slice 36):=by kernel_rfl
 obtain⟨x,ab,k⟩:=Option.map_eq_some_iff.1 U;obtain⟨d,aM,u3⟩:=Option.map_eq_some_iff.1 ak;simp only [Prod.mk.injEq]at k;exact⟨d,x,aM,u3,ab,k.1,k.2.1,by decide,k.2.2⟩
theorem Oh:re 22 36 24:=⟨Og,by kernel_rfl⟩
def dJ(H:I)(q:Nat)(v:J)(eh:List J):Prop :=
 ∃o c,v=.slice o eh.length c∧(∀a,o=some a→a.es=1∧a.fld=0)∧(eh=[]∨ ∃ver off b,o=some ⟨q,ver,off,0,1⟩∧q<H.next∧H.get q=some b∧∀i,(ac:i<eh.length)→b.elem? ver (off+i)=some eh[i])
theorem dJ.aI{H H':I}{q:Nat}{v:J}{eh:List J}{L:List Nat}(h:dJ H q v eh)(m:Fr H H' L)(aw:q ∉ L):dJ H' q v eh:=by obtain⟨o,c,e,z,k⟩:=h;refine⟨o,c,e,z,k.imp_right fun⟨ver,off,b,k1,k2,bT,cr⟩=>⟨ver,off,b,k1,Nat.lt_of_lt_of_le k2 m.next,(m.get q k2 aw).trans bT,cr⟩⟩
theorem dJ.nil(H:I)(q:Nat):dJ H q (.slice none 0 0) []:=⟨none,0,rfl,(fun a h=>by cases h),.inl rfl⟩
theorem dJ.eS{H:I}{q:Nat}{v:J}{eh:List J}(h:dJ H q v eh):∃o c,v=.slice o eh.length c:=by obtain⟨o,c,e,_,k⟩:=h;exact⟨o,c,e⟩
def jG(v:J):Prop:=v.iG=true
theorem yf{e:J}(h:jG e):n1 false 1 0 e=some e:=by cases e<;>first|rfl|cases h
theorem G'{e x:J}(h:jG e)(ab:jG x):n3 0 x e=some x:=by cases e<;>first|(simp only [n3];rw [if_pos ⟨trivial,ab⟩];done)|cases h
theorem dJ.at{H:I}{q t e hr:Nat}{v:J}{eh:List J}(h:dJ H q v eh)(E:re t e hr){i:Nat}(ac:i<eh.length)(hs:jG eh[i]) :
 ∃a,bb (bh.D env) t v (.int .i64 (i:Nat))=some (.ptr (some a))∧a.id<H.next∧∀n,aQ (bh.D env) e a ⟨n,H.aj⟩=some eh[i]:=by
 obtain⟨o,c,rfl,_,k⟩:=h;rcases k with k|⟨ver,off,b,rfl,k2,bT,cr⟩
 ·rw [k]at ac;exact absurd ac (by simp)
 obtain⟨d,x,d1,d2,cf,cu,_⟩:=E.eS.ty;obtain⟨br,mC,hH⟩:=Option.map_eq_some_iff.1 E.G9;have d1:bh.D env t=some d:=d1;have cf:bh.D env e=some x:=cf;rw [cf]at mC;simp only [Option.some.injEq]at mC;subst mC;refine⟨⟨q,ver,off+i,0,1⟩,?_,k2,fun n=> ?_⟩
 ·unfold bb;simp only [d1,d2,cf];rw [if_pos ⟨by omega,by omega,by rw [cu],by trivial⟩];simp
 ·unfold aQ;have an:I.get ⟨n,H.aj⟩ q=some b:=bT;simp only [cf,an,cr i ac,hH];rw [cu];exact yf hs
def cQ(H:I)(e q:Nat)(v:J)(eh:List J):Prop :=
 (eh=[]∧v=.slice none 0 0)∨ ∃b,v=.slice (some ⟨q,b.ver,0,0,1⟩) eh.length eh.length∧q<H.next∧H.get q=some b∧b.a'=eh∧b.ro=false∧(b.exact=true∨(b.exact=false∧(b.ty=none∨b.ty=some (e,0))))
theorem cQ.aI{H H':I}{e q:Nat}{v:J}{eh:List J}{L:List Nat}(h:cQ H e q v eh)(m:Fr H H' L)(aw:q ∉ L):cQ H' e q v eh:=by
 rcases h with h|⟨b,k1,k2,bT,cr⟩
 ·exact .inl h
 ·exact .inr ⟨b,k1,Nat.lt_of_lt_of_le k2 m.next,(m.get q k2 aw).trans bT,cr⟩
theorem Ha{b:aJ}{i:Nat}(ac:i<b.a'.length):b.elem? b.ver (0+i)=some b.a'[i]:=by unfold aJ.elem? aJ.cj;rw [if_pos rfl,if_pos (by omega),Nat.zero_add];exact List.getElem?_eq_getElem ac
theorem cQ.rd{H:I}{e q:Nat}{v:J}{eh:List J}(h:cQ H e q v eh):dJ H q v eh:=by
 rcases h with ⟨rfl,rfl⟩|⟨b,rfl,k2,bT,rfl,c6,ev⟩
 ·exact dJ.nil H q
 ·exact⟨_,_,rfl,(fun a h=>by cases h;exact⟨rfl,rfl⟩),.inr ⟨_,_,b,rfl,k2,bT,fun i ac=>Ha ac⟩⟩
def Oi(H:I)(q:Nat)(v:J):Prop:=v=.slice none 0 0∨ ∃b,H.get q=some b∧q<H.next∧(b.exact=true∨b.eD=b.ver)
theorem cQ.hq{H:I}{e q t hr i:Nat}{v x:J}{eh:List J}(h:cQ H e q v eh)(E:re t e hr)(ac:i<eh.length)(hs:jG eh[i])(ab:jG x)(n:Nat) :
 ∃a H1,bb (bh.D env) t v (.int .i64 (i:Nat))=some (.ptr (some a))∧e7 (bh.D env) e a x (up H n)=some H1∧cQ H1 e q v (eh.set i x)∧Oi H1 q v∧Fr H H1 [q]∧H1.next=H.next+n:=by
 rcases h with ⟨rfl,rfl⟩|⟨b,rfl,k2,bT,rfl,c6,ev⟩
 ·exact absurd ac (by simp)
 obtain⟨d,y,d1,d2,cf,cu,_⟩:=E.eS.ty;obtain⟨br,mC,hH⟩:=Option.map_eq_some_iff.1 E.G9;have d1:bh.D env t=some d:=d1;have cf:bh.D env e=some y:=cf;rw [cf]at mC;simp only [Option.some.injEq]at mC;subst mC
 have aS:x.fits y.kind.isAgg y.size=true:=by rw [hH,cu];cases x<;>first|rfl|cases ab
 refine⟨⟨q,b.ver,0+i,0,1⟩,(up H n).set q {b with a':=b.a'.set i x,eD:=b.ver},?_,?_,.inr ⟨{b with a':=b.a'.set i x,eD:=b.ver},by simp,by show q<H.next+n;omega,I.eG _ _ _,rfl,c6,ev⟩,.inr ⟨_,I.eG _ _ _,by show q<H.next+n;omega,.inr rfl⟩,(Fr.up H n _).trans (Fr.set _ _ _ fun _=>by simp) (fun y bi _=>bi),rfl⟩
 ·unfold bb;simp only [d1,d2,cf];rw [if_pos ⟨by omega,by omega,by rw [cu],by trivial⟩];simp
 ·unfold e7;have an:(up H n).get q=some b:=bT;simp only [cf,an,aS,c6];rw [Nat.zero_add];simp only [List.getElem?_eq_getElem ac,G' hs ab];simp
theorem cQ.hV{H:I}{e q t hr nid:Nat}{v w x:J}{eh:List J}(h:cQ H e q v eh)(E:re t e hr)(Oj:hr≤32)(hw:gj 1 w H=some [x])(be:nid<H.next)(aF:eh.length<2^41) :
 ∃v2 af ci,dk env .append #[t,t] [v,w] nid H=some (v2,af)∧cQ af e ci v2 (eh++[x])∧(ci=q∨ci=nid)∧(eh=[]→v=.slice none 0 0→ci=nid)∧Fr H af [ci]∧af.next=H.next∧ci<af.next:=by
 have aX:∀n:Nat,n<2^42→(n+n/4+512)*hr≤2^48:=fun n be=>by have:(n+n/4+512)*hr≤(n+n/4+512)*32:=Nat.mul_le_mul_left _ Oj;omega
 rcases h with ⟨rfl,rfl⟩|⟨b,rfl,k2,bT,rfl,c6,ev⟩
 ·exact⟨_,_,nid,NP E.eS hw (by simp) (aX _ (by simp)) (by simp),.inr ⟨.made [x] 1 false (some (e,0)),rfl,be,I.eG _ _ _,rfl,rfl,.inr ⟨rfl,.inr rfl⟩⟩,.inr rfl,fun _ _=>rfl,Fr.set _ _ _ fun _=>by simp,rfl,be⟩
 ·rcases ev with ev|⟨ev,kA⟩
  ·refine⟨_,_,nid,NR E.eS hw (a:=⟨q,b.ver,0,0,1⟩) (len:=b.a'.length) (cap:=b.a'.length) (b:=b) (old:=b.a') (aX _ (by simp;omega)) (by simp;omega) bT ⟨rfl,rfl⟩ (by simp) ev ?_,.inr ⟨.made (b.a'++[x]) 1 false (some (e,0)),by simp [ii,aJ.made],be,I.eG _ _ _,rfl,rfl,.inr ⟨rfl,.inr rfl⟩⟩,.inr rfl,fun _ _=>rfl,Fr.set _ _ _ fun _=>by simp,rfl,be⟩;simp only [gj,if_true,bT];by_cases cl:b.a'.length=0
   ·rw [if_pos cl,List.length_eq_zero_iff.1 cl]
   ·rw [if_neg cl,if_pos ⟨by simp [aJ.cj],by simp⟩];simp
  ·refine⟨_,_,q,NQ (nid:=nid) E.eS hw (by simp) (a:=⟨q,b.ver,0,0,1⟩) (len:=b.a'.length) (cap:=b.a'.length) (b:=b) (aX _ (by simp;omega)) (by simp;omega) bT ⟨rfl,rfl⟩ (by simp) ev c6 rfl (by simp) kA,.inr ⟨b.grow [x],by simp [aJ.grow],k2,I.eG _ _ _,rfl,c6,.inr ⟨ev,kA⟩⟩,.inl rfl,?_,Fr.set _ _ _ fun _=>by simp,rfl,k2⟩;intro _ h;cases h
end Go.Proofs.YtjpfnbihopoeeaaGreatDoor
namespace Go.Proofs.YtjpfnbihopoeeaaGreatDoor
open Go.ba
structure ht where
 q:Nat
 v:J
 l:List u1
abbrev Ck(rs:List ht):List J:=rs.map (·.v)
theorem dJ.sv{H:I}{q:Nat}{v:J}{eh:List J}(h:dJ H q v eh):jG v:=by obtain⟨o,c,e,_,k⟩:=h;rw [e];rfl
end Go.Proofs.YtjpfnbihopoeeaaGreatDoor
namespace Go.Proofs.YtjpfnbihopoeeaaGreatDoor
open Go.ba
end Go.Proofs.YtjpfnbihopoeeaaGreatDoor
namespace Go.Proofs.YtjpfnbihopoeeaaGreatDoor
open Go.ba
theorem dx(i:Nat):(i:Int)+1=((i+1:Nat):Int):=by omega
theorem bB{p:Prop}[Decidable p](h:p):some (J.bool (decide p))=some (J.bool true):=by rw [decide_eq_true h]
theorem b7{p:Prop}[Decidable p](h:¬p):some (J.bool (decide p))=some (J.bool false):=by rw [decide_eq_false h]
end Go.Proofs.YtjpfnbihopoeeaaGreatDoor
namespace Go.Proofs.YtjpfnbihopoeeaaGreatDoor
open Go.ba
theorem Ok(H:I)(q:Nat)(x:J):gj 1 (.slice (some ⟨q,0,0,0,1⟩) 1 1) (H.set q (aJ.made [x] 1 true))=some [x]:=by have ct:=I.eG H q (aJ.made [x] 1 true);simp only [gj,if_true,ct];rw [if_neg (by decide),if_pos ⟨by simp [aJ.cj,aJ.made],by simp [aJ.made]⟩];simp [aJ.made]
end Go.Proofs.YtjpfnbihopoeeaaGreatDoor
namespace Go.Proofs.YtjpfnbihopoeeaaGreatDoor
open Go.ba
end Go.Proofs.YtjpfnbihopoeeaaGreatDoor
namespace Go.Proofs.YtjpfnbihopoeeaaGreatDoor
open Go.ba
end Go.Proofs.YtjpfnbihopoeeaaGreatDoor
namespace Go.Proofs.YtjpfnbihopoeeaaGreatDoor
open Go.ba
theorem cR{t:TypeId}{F:a6}{H H1:I}{a:aO}{v:J}{nid:Nat}{x y:Operand}(aS:a1 F x=.ptr (some a))(a7:a1 F y=v)(hs:e7 (bh.D env) t a v H=some H1):aV env bz nid (a1 F) H (Op.store t x y)=some (.tuple [],H1):=by simp only [aV,aS,a7,hs,Option.map_some]
theorem ed{F G:a6}(l:List Nat)(h:oA F l=G):a6.le G F:=h▸a6.GI F l
end Go.Proofs.YtjpfnbihopoeeaaGreatDoor
namespace Go.Proofs.YtjpfnbihopoeeaaGreatDoor
open Go.ba
end Go.Proofs.YtjpfnbihopoeeaaGreatDoor
namespace Go.Proofs.YtjpfnbihopoeeaaGreatDoor
open Go.ba
end Go.Proofs.YtjpfnbihopoeeaaGreatDoor
namespace Go.Proofs.YtjpfnbihopoeeaaGreatDoor
open Go.ba
end Go.Proofs.YtjpfnbihopoeeaaGreatDoor
namespace Go.Proofs.YtjpfnbihopoeeaaGreatDoor
open Go.ba
end Go.Proofs.YtjpfnbihopoeeaaGreatDoor
namespace Go.Proofs.YtjpfnbihopoeeaaGreatDoor
open Go.ba
end Go.Proofs.YtjpfnbihopoeeaaGreatDoor
namespace Go.Proofs.YtjpfnbihopoeeaaGreatDoor
open Go.ba
theorem Ol:xo (mu Tryz.prog env 400 18 [] ⟨0,.nil⟩)=true:=by decide+kernel
end Go.Proofs.YtjpfnbihopoeeaaGreatDoor
namespace Go.Proofs.YtjpfnbihopoeeaaGreatDoor
open Go.ba
theorem Om(H:I):aZ Tryz.prog aq 18 [] H (.bool true) H:=by obtain⟨h',ar⟩:=M0 Ol;exact aZ.gm ⟨_,_,aZ.xQ bg mixed ar,rfl⟩ rfl rfl H
end Go.Proofs.YtjpfnbihopoeeaaGreatDoor
namespace Go.Proofs.YtjpfnbihopoeeaaGreatDoor
open Go.ba
end Go.Proofs.YtjpfnbihopoeeaaGreatDoor
namespace Go.Proofs.YtjpfnbihopoeeaaGreatDoor
open Go.ba
end Go.Proofs.YtjpfnbihopoeeaaGreatDoor
namespace Go.Proofs.YtjpfnbihopoeeaaGreatDoor
open Go.ba
end Go.Proofs.YtjpfnbihopoeeaaGreatDoor
namespace Go.Proofs.YtjpfnbihopoeeaaGreatDoor
open Go.ba
end Go.Proofs.YtjpfnbihopoeeaaGreatDoor
namespace Go.ba
def h5(π:Nat→Nat)(x y n k:Nat):Nat:=if x≤k∧k<x+n then π (k-x+y)else if y≤k∧k<y+n then π (k-y+x)else π k
def dp(π:Nat→Nat)(a m b k:Nat):Nat:=if a≤k∧k<a+(b-m)then π (k+(m-a))else if a+(b-m)≤k∧k<b then π (k- (b-m))else π k
theorem On(π:Nat→Nat){i j m:Nat}(ac:i≤m)(ay:j<i):dp (h5 π (m-i) m j) (m- (i-j)) m (m+j)=dp π (m-i) m (m+j):=by
 funext k
 unfold dp h5
 repeat' split
 all_goals first|rfl|(exfalso;omega)|(congr 1;omega)
theorem Oo(π:Nat→Nat){i j m:Nat}(ac:i≤m)(ay:i<j):dp (h5 π (m-i) (m+j-i) i) (m-i) m (m+(j-i))=dp π (m-i) m (m+j):=by
 funext k
 unfold dp h5
 repeat' split
 all_goals first|rfl|(exfalso;omega)|(congr 1;omega)
theorem Oq(π:Nat→Nat){i m:Nat}(ac:i≤m):h5 π (m-i) m i=dp π (m-i) m (m+i):=by
 funext k
 unfold dp h5
 repeat' split
 all_goals first|rfl|(exfalso;omega)|(congr 1;omega)
structure u4(less:Nat→Nat→Bool):Prop where
 u5:∀p q,less p q=true→less q p=false
 trans:∀p q r,less q p=false→less r q=false→less r p=false
def iA(less:Nat→Nat→Bool)(p q:Nat):Prop:=less p q=true∨(less q p=false∧p<q)
structure dM(π ρ:Nat→Nat)(a b:Nat):Prop where
 out:∀k,k<a∨b≤k→ρ k=π k
 perm:((List.range' a (b-a)).map ρ).Perm ((List.range' a (b-a)).map π)
theorem dM.refl(π:Nat→Nat)(a b:Nat):dM π π a b:=⟨fun _ _=>rfl,.refl _⟩
theorem dM.trans{π ρ σ:Nat→Nat}{a b:Nat}(h:dM π ρ a b)(k:dM ρ σ a b):dM π σ a b :=
 ⟨fun i ac=>(k.out i ac).trans (h.out i ac),k.perm.trans h.perm⟩
theorem dM.wide{π ρ:Nat→Nat}{a b c d:Nat}(h:dM π ρ a b)(U:c≤a)(ak:b≤d)(aP:a≤b):dM π ρ c d:=by
 refine⟨fun k az=>h.out k (by omega),?_⟩
 have e:List.range' c (d-c)=List.range' c (a-c)++(List.range' a (b-a)++List.range' b (d-b)):=by
  rw [show List.range' a (b-a)++List.range' b (d-b)=List.range' a (d-a)by
   have:=List.range'_append_1 (s:=a) (m:=b-a) (n:=d-b);rw [show a+(b-a)=b by omega]at this
   rw [this];congr 1;omega]
  have:=List.range'_append_1 (s:=c) (m:=a-c) (n:=d-a);rw [show c+(a-c)=a by omega]at this;rw [this];congr 1;omega
 rw [e];simp only [List.map_append];have bo:(List.range' c (a-c)).map ρ=(List.range' c (a-c)).map π:=List.map_congr_left fun k az=>h.out k (by have:=List.mem_range'_1.1 az;omega)
 have bO:(List.range' b (d-b)).map ρ=(List.range' b (d-b)).map π:=List.map_congr_left fun k az=>h.out k (by have:=List.mem_range'_1.1 az;omega)
 rw [bo,bO];exact(List.Perm.refl _).append (h.perm.append (.refl _))
theorem dM.from{π ρ:Nat→Nat}{a b k:Nat}(h:dM π ρ a b)(U:a≤k)(ak:k<b):∃j,a≤j∧j<b∧ρ k=π j:=by have hm:ρ k∈(List.range' a (b-a)).map ρ:=List.mem_map.2 ⟨k,List.mem_range'_1.2 ⟨U,by omega⟩,rfl⟩;obtain⟨j,ay,e⟩:=List.mem_map.1 (h.perm.mem_iff.1 hm);have:=List.mem_range'_1.1 ay;exact⟨j,this.1,by omega,e.symm⟩
def oD(π:Nat→Nat)(i k:Nat):Nat:=if k=i then π (i+1)else if k=i+1 then π i else π k
theorem yg(π:Nat→Nat){a m b:Nat}(U:a≤m)(ak:m≤b):dM π (dp π a m b) a b:=by
 refine⟨fun k az=>by unfold dp;rw [if_neg (by omega),if_neg (by omega)],?_⟩
 have bo:List.range' a (b-a)=List.range' a (b-m)++List.range' (a+(b-m)) (m-a):=by rw [List.range'_append_1];congr 1;omega
 have bO:List.range' a (b-a)=List.range' a (m-a)++List.range' m (b-m):=by have:=List.range'_append_1 (s:=a) (m:=m-a) (n:=b-m);rw [show a+(m-a)=m by omega]at this;rw [this];congr 1;omega
 have f1:(List.range' a (b-m)).map (dp π a m b)=(List.range' m (b-m)).map π:=by apply List.ext_getElem (by simp);intro i aP bQ;simp only [List.length_map,List.length_range']at aP;simp only [List.getElem_map,List.getElem_range',Nat.one_mul];unfold dp;rw [if_pos (by omega)];congr 1;omega
 have f2:(List.range' (a+(b-m)) (m-a)).map (dp π a m b)=(List.range' a (m-a)).map π:=by apply List.ext_getElem (by simp);intro i aP bQ;simp only [List.length_map,List.length_range']at aP;simp only [List.getElem_map,List.getElem_range',Nat.one_mul];unfold dp;rw [if_neg (by omega),if_pos (by omega)];congr 1;omega
 rw [show(List.range' a (b-a)).map (dp π a m b)=(List.range' m (b-m)).map π++(List.range' a (m-a)).map π by rw [bo,List.map_append,f1,f2],
  show(List.range' a (b-a)).map π=(List.range' a (m-a)).map π++(List.range' m (b-m)).map π by rw [bO,List.map_append]]
 exact List.perm_append_comm
def fV(less:Nat→Nat→Bool)(π:Nat→Nat)(a b:Nat):Prop:= ∀i j,a≤i→i<j→j<b→iA less (π i) (π j)
structure kL(less:Nat→Nat→Bool)(π:Nat→Nat)(a m b:Nat):Prop where
 one:fV less π a m
 two:fV less π m b
 sJ:∀i j,a≤i→i<m→m≤j→j<b→π i<π j
section
variable {less:Nat→Nat→Bool}(w:u4 less)
include w
theorem iA.le{p q:Nat}(h:iA less p q):less q p=false:=by
 rcases h with h|h
 ·exact w.u5 _ _ h
 ·exact h.1
theorem Hb{p q r:Nat}(h:less p q=true)(k:less r q=false):less p r=true:=by
 cases c:less p r with
 |true=>rfl
 |false =>
  have:=w.trans q r p k c;rw [h]at this;cases this
theorem Hc{p q r:Nat}(h:less q p=false)(k:less q r=true):less p r=true:=by
 cases c:less p r with
 |true=>rfl
 |false =>
  have:=w.trans r p q c h;rw [k]at this;cases this
omit w in
def gK(π:Nat→Nat)(j i k:Nat):Nat:=if k=j then π i else if j<k∧k≤i then π (k-1)else π k
omit w in
theorem Ot(π:Nat→Nat)(i:Nat):gK π i i=π:=by
 funext k;unfold gK
 repeat' split
 all_goals first|rfl|(exfalso;omega)|(congr 1;omega)
omit w in
theorem Ou(π:Nat→Nat){j i:Nat}(bt:0<j)(h:j≤i):oD (gK π j i) (j-1)=gK π (j-1) i:=by
 funext k;unfold oD gK
 repeat' split
 all_goals first|rfl|(exfalso;omega)|(congr 1;omega)
omit w in
theorem Hd(π:Nat→Nat){j i:Nat}(h:j≤i):gK π j i=dp π j i (i+1):=by
 funext k;unfold dp gK
 repeat' split
 all_goals first|rfl|(exfalso;omega)|(congr 1;omega)
theorem He{π:Nat→Nat}{a i j:Nat}(U:fV less π a i)(he:∀k,a≤k→k<i→π k<π i)(ay:a≤j)(nt:j≤i)(aC:∀k,j≤k→k<i→less (π i) (π k)=true)(aF:j=a∨less (π i) (π (j-1))=false):fV less (gK π j i) a (i+1):=by
 have before:∀k,a≤k→k<j→iA less (π k) (π i):=by
  intro k az Wr;rcases aF with rfl|aF
  ·omega
  ·refine .inr ⟨?_,he k az (by omega)⟩;by_cases e:k=j-1
   ·subst e;exact aF
   ·exact w.trans _ _ _ (iA.le w (U k (j-1) az (by omega) (by omega))) aF
 intro x y ab Cl bi;unfold gK;by_cases bU:x=j
 ·rw [if_pos bU,if_neg (by omega),if_pos ⟨by omega,by omega⟩];exact .inl (aC _ (by omega) (by omega))
 ·rw [if_neg bU];by_cases b8:j<x∧x≤i
  ·rw [if_pos b8,if_neg (by omega),if_pos ⟨by omega,by omega⟩];exact U _ _ (by omega) (by omega) (by omega)
  ·rw [if_neg b8];by_cases dj:y=j
   ·rw [if_pos dj];exact before x ab (by omega)
   ·rw [if_neg dj];by_cases eJ:j<y∧y≤i
    ·rw [if_pos eJ];exact U _ _ ab (by omega) (by omega)
    ·rw [if_neg eJ];exact U _ _ ab Cl (by omega)
omit w in
theorem Ov(π:Nat→Nat)(a:Nat):dp π a (a+1) (a+1)=π:=by
 funext k;unfold dp
 repeat' split
 all_goals first|rfl|(exfalso;omega)|(congr 1;omega)
omit w in
theorem Ow(π:Nat→Nat){a k:Nat}(h:a≤k):oD (dp π a (a+1) (k+1)) k=dp π a (a+1) (k+2):=by
 funext x;unfold oD dp
 repeat' split
 all_goals first|rfl|(exfalso;omega)|(congr 1;omega)
theorem Ox{π:Nat→Nat}{a b i:Nat}(h:kL less π a (a+1) b)(ac:a+1≤i)(ao:i≤b)(aF:i=a+1∨less (π (i-1)) (π a)=true)(aC:i=b∨less (π i) (π a)=false):fV less (dp π a (a+1) i) a b:=by
 have before:∀k,a+1≤k→k<i→less (π k) (π a)=true:=by
  intro k az yh;rcases aF with rfl|aF
  ·omega
  ·by_cases e:k=i-1
   ·subst e;exact aF
   ·exact Hc w (iA.le w (h.two k (i-1) az (by omega) (by omega))) aF
 have behind:∀k,i≤k→k<b→iA less (π a) (π k):=by
  intro k az Hf;rcases aC with rfl|aC
  ·omega
  ·refine .inr ⟨?_,h.sJ a k (by omega) (by omega) (by omega) Hf⟩;by_cases e:k=i
   ·subst e;exact aC
   ·exact w.trans _ _ _ aC (iA.le w (h.two i k (by omega) (by omega) Hf))
 intro x y ab Cl bi;unfold dp;by_cases bU:a≤x∧x<a+(i- (a+1))
 ·rw [if_pos bU];by_cases b8:a≤y∧y<a+(i- (a+1))
  ·rw [if_pos b8];exact h.two _ _ (by omega) (by omega) (by omega)
  ·rw [if_neg b8];by_cases dj:a+(i- (a+1))≤y∧y<i
   ·rw [if_pos dj,show y- (i- (a+1))=a by omega];exact .inl (before _ (by omega) (by omega))
   ·rw [if_neg dj];exact h.two _ _ (by omega) (by omega) (by omega)
 ·rw [if_neg bU];by_cases b8:a+(i- (a+1))≤x∧x<i
  ·rw [if_pos b8,if_neg (by omega),if_neg (by omega),show x- (i- (a+1))=a by omega];exact behind y (by omega) bi
  ·rw [if_neg b8,if_neg (by omega),if_neg (by omega)];exact h.two _ _ (by omega) Cl bi
omit w in
theorem Oy(π:Nat→Nat)(m:Nat):dp π m m (m+1)=π:=by
 funext k;unfold dp
 repeat' split
 all_goals first|rfl|(exfalso;omega)|(congr 1;omega)
omit w in
theorem Oz(π:Nat→Nat){k m:Nat}(h:k≤m)(bt:0<k):oD (dp π k m (m+1)) (k-1)=dp π (k-1) m (m+1):=by
 funext x;unfold oD dp
 repeat' split
 all_goals first|rfl|(exfalso;omega)|(congr 1;omega)
theorem OA{π:Nat→Nat}{a m i:Nat}(h:kL less π a m (m+1))(ac:a≤i)(hm:i≤m)(aF:i=a∨less (π m) (π (i-1))=false)(aC:i=m∨less (π m) (π i)=true):fV less (dp π i m (m+1)) a (m+1):=by
 rw [←Hd π hm];refine He w h.one (fun k U ak=>h.sJ k m U ak (Nat.le_refl _) (by omega)) ac hm ?_ aF;intro k az om;rcases aC with rfl|aC
 ·omega
 ·by_cases e:k=i
  ·subst e;exact aC
  ·exact Hb w aC (iA.le w (h.one i k ac (by omega) om))
theorem OB{π:Nat→Nat}{a m b bp start:Nat}(h:kL less π a m b)(Ws:a<m)(lo:m<b)(jk:bp=(a+b)/2)
 (c':(if bp<m then bp+m-b else a)≤start) (mr:start≤(if bp<m then bp else m))
 (aF:start=(if bp<m then bp+m-b else a)∨less (π (bp+m-1- (start-1))) (π (start-1))=false) (aC:start=(if bp<m then bp else m)∨less (π (bp+m-1-start)) (π start)=true) :
 kL less (dp π start m (bp+m-start)) a start bp∧kL less (dp π start m (bp+m-start)) bp (bp+m-start) b ∧
 ∀i j,a≤i→i<bp→bp≤j→j<b→iA less (dp π start m (bp+m-start) i) (dp π start m (bp+m-start) j):=by
 have aT:a≤start∧start≤m∧start≤bp∧m≤bp+m-start∧bp+m-start≤b:=by split at c'<;>split at mr<;>omega
 have u6:∀k,a≤k→k<start→dp π start m (bp+m-start) k=π k:=fun k U ak=>by unfold dp;rw [if_neg (by omega),if_neg (by omega)]
 have u7:∀k,start≤k→k<bp→dp π start m (bp+m-start) k=π (k+(m-start)):=fun k U ak=>by unfold dp;rw [if_pos (by omega)]
 have u9:∀k,bp≤k→k<bp+m-start→dp π start m (bp+m-start) k=π (k- (bp-start)):=fun k U ak=>by unfold dp;rw [if_neg (by omega),if_pos (by omega)];congr 1;omega
 have u':∀k,bp+m-start≤k→k<b→dp π start m (bp+m-start) k=π k:=fun k U ak=>by unfold dp;rw [if_neg (by omega),if_neg (by omega)]
 have fP :∀i j,a≤i→i<start→bp+m-start≤j→j<b→iA less (π i) (π j):=by
  intro i j U ak aP bQ;refine .inr ⟨?_,h.sJ i j U (by omega) (by omega) bQ⟩;rcases aF with aF|aF
  ·split at aF<;>omega
  ·have e:bp+m-1- (start-1)=bp+m-start:=by omega
   rw [e]at aF
   have k1:less (π (start-1)) (π i)=false:=by
    by_cases c:i=start-1
    ·subst c;cases aw:less (π (start-1)) (π (start-1))with
     |false=>rfl
     |true=>rw [w.u5 _ _ aw]at aw;cases aw
    ·exact iA.le w (h.one i (start-1) U (by omega) (by omega))
   have k2:less (π j) (π (bp+m-start))=false:=by
    by_cases c:j=bp+m-start
    ·subst c;cases aw:less (π (bp+m-start)) (π (bp+m-start))with
     |false=>rfl
     |true=>rw [w.u5 _ _ aw]at aw;cases aw
    ·exact iA.le w (h.two _ j (by omega) (by omega) bQ)
   exact w.trans _ _ _ (w.trans _ _ _ k1 aF) k2
 have OC :∀i j,m≤i→i<bp+m-start→start≤j→j<m→iA less (π i) (π j):=by
  intro i j U ak aP bQ;rcases aC with aC|aC
  ·split at aC<;>omega
  ·refine .inl ?_
   have k1:less (π (bp+m-1-start)) (π i)=false:=by
    by_cases c:i=bp+m-1-start
    ·subst c;cases aw:less (π (bp+m-1-start)) (π (bp+m-1-start))with
     |false=>rfl
     |true=>rw [w.u5 _ _ aw]at aw;cases aw
    ·exact iA.le w (h.two i _ U (by omega) (by omega))
   have k2:less (π j) (π start)=false:=by
    by_cases c:j=start
    ·subst c;cases aw:less (π j) (π j)with
     |false=>rfl
     |true=>rw [w.u5 _ _ aw]at aw;cases aw
    ·exact iA.le w (h.one start j (by omega) (by omega) bQ)
   exact Hb w (Hc w k1 aC) k2
 refine⟨⟨?_,?_,?_⟩,⟨?_,?_,?_⟩,?_⟩
 ·intro i j U ak aP;rw [u6 i U (by omega),u6 j (by omega) aP];exact h.one i j U ak (by omega)
 ·intro i j U ak aP;rw [u7 i U (by omega),u7 j (by omega) aP];exact h.two _ _ (by omega) (by omega) (by omega)
 ·intro i j U ak aP bQ;rw [u6 i U ak,u7 j aP bQ];exact h.sJ _ _ U (by omega) (by omega) (by omega)
 ·intro i j U ak aP;rw [u9 i U (by omega),u9 j (by omega) aP];exact h.one _ _ (by omega) (by omega) (by omega)
 ·intro i j U ak aP;rw [u' i U (by omega),u' j (by omega) aP];exact h.two _ _ (by omega) ak aP
 ·intro i j U ak aP bQ;rw [u9 i U ak,u' j aP bQ];exact h.sJ _ _ (by omega) (by omega) (by omega) bQ
 ·intro i j U ak aP bQ;by_cases bU:i<start<;>by_cases b8:j<bp+m-start
  ·rw [u6 i U bU,u9 j aP b8];exact h.one _ _ U (by omega) (by omega)
  ·rw [u6 i U bU,u' j (by omega) bQ];exact fP _ _ U bU (by omega) bQ
  ·rw [u7 i (by omega) ak,u9 j aP b8];exact OC _ _ (by omega) (by omega) (by omega) (by omega)
  ·rw [u7 i (by omega) ak,u' j (by omega) bQ];exact h.two _ _ (by omega) (by omega) bQ
omit w in
theorem merge_join{ρ σ:Nat→Nat}{a bp b:Nat}(U:a≤bp)(ak:bp≤b)(s1:dM ρ σ a bp)(k1:fV less σ a bp){eK:Nat→Nat}(s2:dM σ eK bp b)(k2:fV less eK bp b)
 (ar:∀i j,a≤i→i<bp→bp≤j→j<b→iA less (ρ i) (ρ j)):fV less eK a b:=by
 intro i j ac eO ay;by_cases bU:j<bp
 ·rw [s2.out i (.inl (by omega)),s2.out j (.inl bU)];exact k1 i j ac eO bU
 ·by_cases b8:bp≤i
  ·exact k2 i j b8 eO ay
  ·rw [s2.out i (.inl (by omega))];obtain⟨x,cf,cu,ex⟩:=s1.from (k:=i) ac (by omega)
   obtain⟨y,gw,gk,lE⟩:=s2.from (k:=j) (by omega) ay
   rw [ex,lE,s1.out y (.inr gw)];exact ar x y cf cu gw gk
end
end Go.ba
namespace Go.Proofs.YtjpfnbihopoeeaaGreatDoor
open Go.ba
end Go.Proofs.YtjpfnbihopoeeaaGreatDoor
namespace Go.Proofs.YtjpfnbihopoeeaaGreatDoor
open Go.ba
def Wt(N:Nat)(π:Nat→Nat):Prop:= ∀k,k<N→π k<N
theorem wrap64{n:Int}(U: -9223372036854775808≤n)(ak:n≤9223372036854775807):IntKind.wrap .i64 n=n:=by
 show(if(true&&decide (n%18446744073709551616≥9223372036854775808))=true then n%18446744073709551616-18446744073709551616 else n%18446744073709551616)=n;split
 ·rename_i h;simp at h;omega
 ·rename_i h;simp at h;omega
theorem OD{i j c:Nat}(h:(i+j)/2=c)(aF:i+j<2^60):IntKind.wrap .i64 (bE .u64 ((i:Int)+(j:Int)) 1)=(c:Int):=by
 have e:bE .u64 ((i:Int)+(j:Int)) 1=(c:Int):=by show Int.fdiv ((i:Int)+(j:Int)) 2=c;rw [Int.fdiv_eq_ediv_of_nonneg _ (by omega)];omega
 rw [e];exact wrap64 (by omega) (by omega)
theorem Hg{F:a6}{k nid:Nat}{va:IntKind}{n m:Int}{H:I}(dT:a1 F (.tmp k)=.int va n)(hm:IntKind.wrap .i64 n=m):aV env bz nid (a1 F) H (Op.convert 108 3 (Operand.tmp k))=some (.int .i64 m,H):=by
 subst hm;have:aV env bz nid (a1 F) H (Op.convert 108 3 (Operand.tmp k))=(qi (bh.D env) 108 3 (.int va n)).map fun v=>(v,H):=by rw [←dT];rfl
 exact this.trans (by kernel_rfl)
end Go.Proofs.YtjpfnbihopoeeaaGreatDoor
namespace Go.Proofs.YtjpfnbihopoeeaaGreatDoor
open Go.ba
theorem kL.congr{less:Nat→Nat→Bool}{π σ:Nat→Nat}{a m b:Nat}(h:kL less π a m b)(lS:a≤m)(nG:m≤b)(e:∀k,a≤k→k<b→σ k=π k):kL less σ a m b :=
 ⟨fun i j U ak aP=>by rw [e i (by omega) (by omega),e j (by omega) (by omega)];exact h.one i j U ak aP,
  fun i j U ak aP=>by rw [e i (by omega) (by omega),e j (by omega) (by omega)];exact h.two i j U ak aP,
  fun i j U ak aP bQ=>by rw [e i (by omega) (by omega),e j (by omega) (by omega)];exact h.sJ i j U ak aP bQ⟩
end Go.Proofs.YtjpfnbihopoeeaaGreatDoor
namespace Go.Proofs.YtjpfnbihopoeeaaGreatDoor
open Go.ba
end Go.Proofs.YtjpfnbihopoeeaaGreatDoor
namespace Go.Proofs.YtjpfnbihopoeeaaGreatDoor
open Go.ba
end Go.Proofs.YtjpfnbihopoeeaaGreatDoor
namespace Go.Proofs.YtjpfnbihopoeeaaGreatDoor
open Go.ba
end Go.Proofs.YtjpfnbihopoeeaaGreatDoor
namespace Go.Proofs.YtjpfnbihopoeeaaGreatDoor
open Go.ba
theorem rowAt{H:I}{q:Nat}{v:J}{l:List u1}(h:dJ H q v (l.map J.str)):G6 H v l:=by
 obtain⟨o,c,e,z,k⟩:=h;rw [List.length_map]at e;refine⟨o,c,e,fun i ac=> ?_⟩;rcases k with k|⟨ver,off,b,rfl,k2,bT,cr⟩
 ·have:=congrArg List.length k;simp at this;rw [this]at ac;simp at ac
 ·have:=cr i (by simpa using ac);rw [List.getElem_map]at this;exact⟨_,b,rfl,rfl,rfl,bT,this⟩
end Go.Proofs.YtjpfnbihopoeeaaGreatDoor
namespace Go.Proofs.YtjpfnbihopoeeaaGreatDoor
open Go.ba
end Go.Proofs.YtjpfnbihopoeeaaGreatDoor
namespace Go.Proofs.YtjpfnbihopoeeaaGreatDoor
open Go.ba
end Go.Proofs.YtjpfnbihopoeeaaGreatDoor
namespace Go.Proofs.YtjpfnbihopoeeaaGreatDoor
open Go.ba
end Go.Proofs.YtjpfnbihopoeeaaGreatDoor
namespace Go.Proofs.YtjpfnbihopoeeaaGreatDoor
open Go.ba
def vb(H:I)(o:Nat)(v:J)(rs:List ht):Prop:=dJ H o v (Ck rs)∧∀r∈rs,dJ H r.q r.v (r.l.map J.str)
end Go.Proofs.YtjpfnbihopoeeaaGreatDoor
namespace Go.Proofs.YtjpfnbihopoeeaaGreatDoor
open Go.ba
end Go.Proofs.YtjpfnbihopoeeaaGreatDoor
namespace Go.Proofs.YtjpfnbihopoeeaaGreatDoor
open Go.ba
theorem vb.aI{H H':I}{o:Nat}{v:J}{rs:List ht}(h:vb H o v rs)(m:Fr H H' []):vb H' o v rs:=⟨h.1.aI m (by simp),fun r aC=>(h.2 r aC).aI m (by simp)⟩
end Go.Proofs.YtjpfnbihopoeeaaGreatDoor
namespace Go.ba
noncomputable section
open Go.RowKit Go.ChangeShapes Go.WideShapes Go.ChangeAt
structure rf(w:World)(b:aJ)(p:Place):Prop where
 ro:p.ro=true
 vc:b.ro=true
 ver:b.ver=0
 es:p.es=b.es
 pos:0<p.es
 exact:p.exact=b.exact
 row:∀(φ:Map)(S:Nat→Prop),Row φ S b 0 p w
 bare:jg b
def hL(ps:List Place):Map:=fun i v=>if v=0 then ps[i]? else none
def oE(es:Nat):aJ:= {a':=[],es,exact:=true,ro:=true,ver:=0,eD:=0,hU:=0,ty:=none}
def pR(es:Nat):Place:= {bD:=0,off:=0,aB:=0,es,tot:=0,exact:=true,ro:=true}
theorem sK{w:World}(hw:0<w.heap.size){es:Nat}(he:0<es):rf w (oE es) (pR es) where
 ro:=rfl
 vc:=rfl
 ver:=rfl
 es:=rfl
 pos:=he
 exact:=rfl
 row φ S:=⟨hw,(fun h=>by cases h),fun o ap=>by simp [pR]at ap,(fun h=>by cases h),(fun h=>by cases h),(fun q h=>by cases h),fun i e U ak aP=>by simp [oE]at aP⟩
 bare e he:=by simp [oE]at he
theorem aZ.law{P:Program}{C:(Nat→Prop)→World→Prop}{f:FuncId}{args:List J}{h h':I}(k:aZ P C f args h (.bool true) h'){w:World}(dV:C (fun k=>k<w.heap.size) w){φ:Map}(aF:ch φ (fun k=>k<w.heap.size) h w){args':Array Value}(aW:bd φ args args'.toList) :
 Calls P f args' w fun e aN=>e=.returned (.bool true)∧Below w.heap.size w aN:=by
 have:=(k (fun k=>k<w.heap.size) w (fun _ h=>h) dV _ w args' aF (Safe.refl _ _) aW).2
 exact this.mono fun e aN ⟨a8,bj,U,_,ak,_,aP,_⟩=>by simp only [aA]at ak;subst ak;exact⟨U,aP.below⟩
end
end Go.ba
namespace Go.ba
noncomputable section
open Go.RowKit Go.ChangeShapes Go.WideShapes Go.ChangeAt
structure yi(φ:Map)(S:Nat→Prop)(w:World)(b:aJ)(p:Place):Prop where
 ro:p.ro=true
 vc:b.ro=true
 ver:b.ver=0
 es:p.es=b.es
 pos:0<p.es
 exact:p.exact=b.exact
 row:Row φ S b 0 p w
theorem rf.two{φ:Map}{S:Nat→Prop}{w:World}{b:aJ}{p:Place}(h:rf w b p):yi φ S w b p:=⟨h.ro,h.vc,h.ver,h.es,h.pos,h.exact,h.row φ S⟩
theorem ch.B4{w:World}{S:Nat→Prop}(l:List (aJ×Place))(h:∀x∈l,yi (hL (l.map (·.2))) S w x.1 x.2):ch (hL (l.map (·.2))) S (I.of (l.map (·.1))) w where
 cO i v p ag:=by
  unfold hL at ag;split at ag
  ·rename_i a7;subst a7;rw [List.getElem?_map,Option.map_eq_some_iff]at ag;obtain⟨x,ab,rfl⟩:=ag;have k:=h x (List.mem_of_getElem? ab);have ac:=(List.getElem?_eq_some_iff.1 ab).1;refine⟨by rw [I.of_next];simpa using ac,x.1,?_,by omega,k.es,k.exact,(fun h=>by rw [k.vc]at h;cases h),k.pos,k.row⟩;rw [I.io,List.getElem?_map,ab];rfl
  ·cases ag
 apart i v p j u q ag aw _ _:=by
  have:∀{i v p},hL (l.map (·.2)) i v=some p→p.ro=true:=by
   intro i v p ag;unfold hL at ag;split at ag
   ·rw [List.getElem?_map,Option.map_eq_some_iff]at ag;obtain⟨x,ab,rfl⟩:=ag;exact(h x (List.mem_of_getElem? ab)).ro
   ·cases ag
  exact⟨this ag,this aw⟩
 same i v p u q ag aw _:=by
  unfold hL at ag aw;split at ag
  ·split at aw
   ·rw [ag]at aw;simp only [Option.some.injEq]at aw;subst aw;exact⟨rfl,rfl⟩
   ·cases aw
  ·cases ag
end
end Go.ba
namespace Go.ba
noncomputable section
open Go.RowKit Go.ChangeShapes Go.WideShapes Go.ChangeAt
def lT(P:Program):Nat→TypeId→Nat→Option gQ
 |0,_,_=>none
 |d+1,t,c =>
  match P.underlying t with
  |some (.int k)=>if c=0 then some (.int k)else none
  |some .bool=>if c=0 then some .bool else none
  |some .string=>if c=0 then some .string else none
  |some (.struct fs)=>fs.toList.findSome? fun f=>if f.offset≤c∧c<f.offset+P.cellsOf f.type then lT P d f.type (c-f.offset)else none
  |some (.array n e)=>if c/P.cellsOf e<n then lT P d e (c%P.cellsOf e)else none
  |_=>none
def nH:gQ→Value→Prop
 |.int k,v=> ∃n,v=.int k n∧(Lit.int k n).wf=true
 |.bool,v=> ∃b,v=.bool b
 |.string,v=> ∃s:ByteArray,v=.string s∧s.size≤maxLen
 |_,_=>False
section
variable {H:Type}{enc:TypeId×Value→H}{P:Program}{w:World}{base:Nat}{spare:Nat→Bool}{held:Bool}
theorem Hh:∀(d:Nat){t:TypeId}{c:Nat}{k:gQ}{dv:Nat}{cs:List Value}{x:DataW H×List MemPlace},lT P d t c=some k→DataW.trod enc P w base spare held dv t cs=some x→ ∃v,cs[c]? =some v∧nH k v:=by
 intro d;induction d with
 |zero=>intro t c k dv cs x h;cases h
 |succ d ih =>
  intro t c k dv cs x h ab;simp only [lT]at h;split at h
  ·rename_i la hu;split at h
   ·rename_i ar;subst ar;simp only [Option.some.injEq]at h;subst h;obtain⟨n,rfl,_,hw⟩:=DataW.trod_int hu ab;exact⟨_,rfl,n,rfl,hw⟩
   ·cases h
  ·rename_i hu;split at h
   ·rename_i ar;subst ar;simp only [Option.some.injEq]at h;subst h;obtain⟨b,rfl,_⟩:=DataW.trod_bool hu ab;exact⟨_,rfl,b,rfl⟩
   ·cases h
  ·rename_i hu;split at h
   ·rename_i ar;subst ar;simp only [Option.some.injEq]at h;subst h;obtain⟨s,rfl,_,hs⟩:=DataW.trod_string hu ab;exact⟨_,rfl,s,rfl,hs⟩
   ·cases h
  ·rename_i fs hu;obtain⟨f,aS,az⟩:=List.exists_of_findSome?_eq_some h;split at az
   ·rename_i ar;obtain⟨xs,n,_,_,aF,mq,rV⟩:=DataW.trod_struct hu ab;obtain⟨j,ay,Cm⟩:=List.mem_iff_getElem.1 aS;have hv:fs[j]? =some f:=by rw [←Array.getElem?_toList,List.getElem?_eq_getElem ay,Cm]
    have U:=rV j f hv;rw [List.getElem?_eq_getElem (by rw [mq];simpa using ay)]at U;obtain⟨v,a7,gx⟩:=ih az U;rw [List.getElem?_take]at a7;split at a7
    ·rw [List.getElem?_drop,show f.offset+(c-f.offset)=c by omega]at a7;exact⟨v,a7,gx⟩
    ·cases a7
   ·cases az
  ·rename_i n e hu;split at h
   ·rename_i ar;obtain⟨xs,m,_,_,aF,mq,eA⟩:=DataW.trod_array hu ab;have U:=eA _ ar;rw [List.getElem?_eq_getElem (by omega)]at U;obtain⟨v,a7,gx⟩:=ih h U;rw [List.getElem?_take]at a7;split at a7
    ·rw [List.getElem?_drop,Nat.mul_comm,Nat.div_add_mod]at a7;exact⟨v,a7,gx⟩
    ·cases a7
   ·cases h
  ·cases h
theorem nH.bare{k:gQ}{v:Value}(h:nH k v):ey (ig v)∧(ig v).iG=true∧v.oneCell'=true:=by
 cases k with
 |int k=>obtain⟨n,rfl,_⟩:=h;exact⟨ey.int _ _,rfl,by first|trivial|rfl⟩
 |bool=>obtain⟨b,rfl⟩:=h;exact⟨ey.bool _,rfl,by first|trivial|rfl⟩
 |string=>obtain⟨s,rfl,_⟩:=h;exact⟨ey.str _,rfl,by first|trivial|rfl⟩
 |_=>exact h.elim
def vd(isA:Bool)(cs:List J):J:=if isA then .agg cs else cs.headD .undef
theorem Hi{isA:Bool}{cs:List J}(h:isA=false→ ∃a,cs=[a]∧a.iG=true):(vd isA cs).cells=cs:=by
 unfold vd;cases isA with
 |true=>rfl
 |false =>
  obtain⟨a,rfl,aW⟩:=h rfl;cases a<;>simp [J.cells]<;>cases aW
theorem ey.agg{l:List J}(h:∀a∈l,ey a):ey (.agg l):=by
 refine⟨fun r=> ?_,?_⟩
 ·simp only [J.bF,J.xM]
  have:l.map (J.bF r)=l:=by
   conv=>rhs;rw [←List.map_id l]
   exact List.map_congr_left fun e he=>(h e he).1 r
  rw [this]
 ·simp only [cw];exact xN.2 fun a aW=>(h a aW).2
def cellAt(w:World)(x:Addr)(j:Nat):Value:=(w.cell? (x.add j)).getD undef
def elemAt(w:World)(x:Addr)(isA:Bool)(sz i:Nat):J:=vd isA ((List.range sz).map fun j=>ig (cellAt w x (i*sz+j)))
theorem J1{isA:Bool}{t e:TypeId}{d sz:Nat}{ks:List gQ}(hw:0<w.heap.size)(bl:P.underlying t=some (.slice e))(ar:P.cellsOf e=sz)(di:Nat.blt 0 sz=true)(dy:isA=false→sz=1)
 (pD:(List.range sz).map (lT P d e)=ks.map some) {a:Option Addr} {len cap:Nat} {dd:DataW H} {ps:List MemPlace} (h:DataW.Trod enc P w 0 (fun _=>true) true t (.slice a len cap) dd ps) (id:Nat) :
 ∃(o:Option aO)(c:Nat)(b:aJ)(p:Place)(x:Addr),sG o len c id 0 0 sz∧rf w b p∧len≤maxLen∧(∀φ:Map,φ id 0=some p→aA φ (.slice o len c) (.slice a len cap)) ∧
  (∀i,i<len→b.elem? 0 (0+i)=some (elemAt w x isA sz i))∧(∀i j,i<len→j<sz→ ∃k,ks[j]? =some k∧nH k (cellAt w x (i*sz+j))):=by
 have di:0<sz:=Nat.blt_eq.mp di
 have ve:∀j,j<sz→ ∃k,ks[j]? =some k∧lT P d e j=some k:=by
  intro j ay;have U:=congrArg (fun(l:List (Option gQ))=>l[j]?) pD;simp only [List.getElem?_map,List.getElem?_range ay,Option.map_some]at U;cases az:ks[j]? with
  |none=>rw [az]at U;cases U
  |some k=>rw [az]at U;simp at U;exact⟨k,rfl,U⟩
 obtain⟨dv,aS⟩:=h;have mD:DataW.trod enc P w 0 (fun _=>true) true dv t [.slice a len cap]=some (dd,ps):=aS;rcases DataW.trod_slice bl mD with ⟨cP,_⟩|⟨x,l,c,a',rest,n,_,cP,_,_,aF,hm,hlen,eV,rh,_⟩
 ·simp at cP;obtain⟨rfl,rfl,rfl⟩:=cP;exact⟨none,0,oE sz,pR sz,⟨0,0,none⟩,.inr ⟨rfl,rfl,rfl⟩,sK hw di,by simp,fun φ _=>by simp [aA],fun i ac=>by omega,fun i j ac=>by omega⟩
 ·simp at cP;obtain⟨rfl,rfl,rfl⟩:=cP;obtain⟨Hj,aC⟩:=rh rfl
  have each:∀i,i<cap→ ∃cs y,w.cells? 0 (x.add (i*sz)) sz=some cs∧DataW.trod enc P w 0 (fun _=>true) true n e cs=some y:=by
   intro i ac
   have ao:∃y,(w.cells? 0 (x.add (i*P.cellsOf e)) (P.cellsOf e)).bind (DataW.trod enc P w 0 (fun _=>true) true n e)=some y:=by
    by_cases bU:i<len
    ·exact⟨_,(eV i bU).trans (List.getElem?_eq_getElem (by omega))⟩
    ·have:=aC (i-len) (by omega);rw [show len+(i-len)=i by omega]at this;exact⟨_,this.trans (List.getElem?_eq_getElem (by omega))⟩
   obtain⟨y,bi⟩:=ao;rw [ar,Option.bind_eq_some_iff]at bi;obtain⟨cs,U,ak⟩:=bi;exact⟨cs,y,U,ak⟩
  have cell:∀i j,i<cap→j<sz→ ∃v k,w.cell? (x.add (i*sz+j))=some v∧ks[j]? =some k∧nH k v:=by intro i j ac ay;obtain⟨cs,y,U,ak⟩:=each i ac;obtain⟨k,az,np⟩:=ve j ay;obtain⟨v,a7,gx⟩:=Hh d np ak;refine⟨v,k,?_,az,gx⟩;rw [←Go.Deep.add_add,(World.cells?_some U).2.2 j ay,a7]
  have j6:∀i j,i<cap→j<sz→w.cell? (x.add (i*sz+j))=some (cellAt w x (i*sz+j))∧∃k,ks[j]? =some k∧nH k (cellAt w x (i*sz+j)):=by
   intro i j ac ay;obtain⟨v,k,U,ak,aP⟩:=cell i j ac ay;have:cellAt w x (i*sz+j)=v:=by simp [cellAt,U]
   rw [this];exact⟨U,k,ak,aP⟩
  by_cases jX:cap=0
  ·subst jX;obtain rfl:len=0:=by omega
   refine⟨some ⟨id,0,0,0,sz⟩,0,oE sz,pR sz,x,.inl rfl,sK hw di,by simp,fun φ oz=> ?_,fun j ay=>by omega,fun i j ac=>by omega⟩;simp only [aA];exact⟨x,0,rfl,Nat.le_refl _,Nat.le_refl _,.inl ⟨rfl,_,oz,rfl,.inl rfl,fun _=>rfl⟩⟩
  have pS:x.spot=none:=by have:=(j6 0 0 (by omega) di).1;simpa [Addr.add]using World.cell?_spot this
  have j7:∀i,x.add i=⟨x.block,x.off+i,none⟩:=by
   intro i;obtain⟨Hk,of,ri⟩:=x;simp only at pS;subst pS;unfold Addr.add;split
   ·rename_i bt;subst bt;rfl
   ·rfl
  have lF:∀i,i<cap→(elemAt w x isA sz i).cells=(List.range sz).map fun j=>ig (cellAt w x (i*sz+j)):=by
   intro i ac;refine Hi fun uN=> ?_
   have U:=dy uN;subst U;refine⟨_,rfl,?_⟩;obtain⟨_,k,_,gx⟩:=j6 i 0 ac (by omega);exact gx.bare.2.1
  have qD:x.block<w.heap.size:=by
   have:=(j6 0 0 (by omega) di).1;rw [j7]at this;unfold World.cell? at this;split at this
   ·rename_i ao;exact(Array.getElem?_eq_some_iff.1 ao).1
   ·cases this
  refine⟨some ⟨id,0,0,0,sz⟩,cap,{a':=(List.range cap).map (elemAt w x isA sz),es:=sz,exact:=true,ro:=true,ver:=0,eD:=0,hU:=0,ty:=none},{bD:=x.block,off:=x.off,aB:=0,es:=sz,tot:=cap,exact:=true,ro:=true},x,.inl rfl,?_,by omega,?_,?_,fun i j ac ay=>(j6 i j (by omega) ay).2⟩
  ·refine⟨rfl,rfl,rfl,rfl,di,rfl,fun φ S=>⟨qD,(fun h=>by cases h),?_,(fun h=>by cases h),(fun h=>by cases h),(fun q h=>by cases h),?_⟩,?_⟩
   ·intro o ap;simp only at ap;have U:o/sz<cap:=Nat.div_lt_of_lt_mul (by rw [Nat.mul_comm];exact ap);have:=(j6 (o/sz) (o%sz) U (Nat.mod_lt _ di)).1;rw [show o/sz*sz+o%sz=o by rw [Nat.mul_comm];exact Nat.div_add_mod o sz,j7]at this;simp only [this];rfl
   ·intro i e0 _ _ he;simp only [List.getElem?_map,Option.map_eq_some_iff]at he;obtain⟨eo,du,rfl⟩:=he;have ac:=(List.getElem?_eq_some_iff.1 du).1;simp only [List.length_range]at ac;rw [List.getElem?_range ac]at du;simp only [Option.some.injEq]at du;subst du;refine⟨by rw [lF i ac];simp,by simp only;omega,fun j br ab=> ?_⟩;rw [lF i ac,List.getElem?_map,Option.map_eq_some_iff]at ab;obtain⟨je,hv,rfl⟩:=ab;have ay:=(List.getElem?_eq_some_iff.1 hv).1;simp only [List.length_range]at ay;rw [List.getElem?_range ay]at hv;simp only [Option.some.injEq]at hv;subst hv;obtain⟨U,k,_,gx⟩:=j6 i j ac ay;refine⟨_,?_,tz φ _,gx.bare.2.2⟩;rw [j7]at U;simp only [Place.at,Nat.sub_zero,Nat.add_assoc];exact U
   ·intro e0 he;obtain⟨i,ac,rfl⟩:=List.mem_map.1 he;have ac:=List.mem_range.1 ac;unfold elemAt vd
    have gu:∀a∈(List.range sz).map (fun j=>ig (cellAt w x (i*sz+j))),ey a:=by intro a aW;obtain⟨j,ay,rfl⟩:=List.mem_map.1 aW;obtain⟨_,k,_,gx⟩:=j6 i j ac (List.mem_range.1 ay);exact gx.bare.1
    cases isA with
    |true=>exact ey.agg gu
    |false =>
     have U:=dy rfl;subst U;exact gu _ (by simp)
  ·intro φ oz;simp only [aA];refine⟨x,cap,rfl,aF,Nat.le_refl _,.inl ⟨rfl,_,oz,rfl,?_,fun _=>rfl⟩⟩;refine .inr ⟨Nat.le_refl _,?_,by simp⟩;have:=j7 0;simp only [Addr.add,if_true]at this;simpa [Place.at]using this
  ·intro i ac;have du:i<cap:=by omega
   simp [aJ.elem?,aJ.cj,du]
theorem D7{t e:TypeId}(bl:P.underlying t=some (.slice e)){a:Option Addr}{len cap:Nat}{dd:DataW H}{ps:List MemPlace}(h:DataW.Trod enc P w base spare held t (.slice a len cap) dd ps)
 (hw:∀y∈dd.weights P t,y≤reachBytes):len*P.bytesOf e≤reachBytes:=by
 obtain⟨dv,aS⟩:=h;have mD:DataW.trod enc P w base spare held dv t [.slice a len cap]=some (dd,ps):=aS;rcases DataW.trod_slice bl mD with ⟨cP,_⟩|⟨x,l,c,a',rest,n,_,cP,ab,_,aF,hm,hlen,_⟩
 ·simp at cP;obtain⟨_,rfl,_⟩:=cP;simp
 ·simp at cP;obtain⟨_,rfl,_⟩:=cP;simp only [Prod.mk.injEq]at ab;obtain⟨rfl,_⟩:=ab;have:=hw ((a'.length+rest.length)*P.bytesOf e) (by simp [DataW.weights,bl]);rw [hlen]at this;exact Nat.le_trans (Nat.mul_le_mul_right _ (by omega)) this
theorem zo{t:TypeId}{ts:List TypeId}{d:DataW H}{ez:List (DataW H)}{R:Nat}(h:∀y∈DataW.weightsEach P (t::ts) (d::ez),y≤R):(∀y∈d.weights P t,y≤R)∧∀y∈DataW.weightsEach P ts ez,y≤R :=
 ⟨fun y bi=>h y (by simp [DataW.weightsEach,bi]),fun y bi=>h y (by simp [DataW.weightsEach,bi])⟩
end
end
end Go.ba
namespace Go.ba
noncomputable section
open Go.RowKit Go.ChangeShapes Go.WideShapes Go.ChangeAt
theorem Hl{H:Type}{P:Program} :∀{ts:List TypeId} {ez:List (DataW H)} {j:Nat} {t:TypeId} {d:DataW H} {y:Nat},ts[j]? =some t→ez[j]? =some d→y∈d.weights P t→y∈DataW.weightsEach P ts ez
 |[],_,_,_,_,_,h,_,_=>by cases h
 |_::_,[],_,_,_,_,_,h,_=>by cases h
 |t::ts,d::ez,0,_,_,_,U,ak,aP=>by simp at U ak;subst U ak;simp only [DataW.weightsEach,List.mem_append];exact .inl aP
 |t::ts,d::ez,j+1,_,_,_,U,ak,aP=>by simp only [DataW.weightsEach,List.mem_append];exact .inr (Hl (j:=j) (by simpa using U) (by simpa using ak) aP)
theorem yj{H:Type}{P:Program}{e:TypeId}{ez:List (DataW H)}{d:DataW H}{y:Nat}(aM:d∈ez)(aP:y∈d.weights P e):y∈DataW.weightsAll P e ez:=by
 induction ez with
 |nil=>cases aM
 |cons a r ih =>
  simp only [DataW.weightsAll,List.mem_append];rcases List.mem_cons.1 aM with rfl|aM
  ·exact .inl aP
  ·exact .inr (ih aM)
section
variable {H:Type}{enc:TypeId×Value→H}{P:Program}{w:World}{base:Nat}{spare:Nat→Bool}{held:Bool}
theorem OE:∀(d:Nat){t:TypeId}{c:Nat}{dv:Nat}{cs:List Value}{x:DataW H×List MemPlace},lT P d t c=some .string→DataW.trod enc P w base spare held dv t cs=some x→ ∃s:ByteArray,cs[c]? =some (.string s)∧s.size∈x.1.weights P t:=by
 intro d;induction d with
 |zero=>intro t c dv cs x h;cases h
 |succ d ih =>
  intro t c dv cs x h ab;simp only [lT]at h;split at h
  ·split at h<;>cases h
  ·split at h<;>cases h
  ·rename_i hu;split at h
   ·rename_i ar;subst ar;obtain⟨s,rfl,ns,hs⟩:=DataW.trod_string hu ab;subst ns;exact⟨s,rfl,by rw [DataW.weights];exact List.mem_singleton.2 (show s.data.size=s.data.toList.length from Array.length_toList.symm)⟩
   ·cases h
  ·rename_i fs hu;obtain⟨f,aS,az⟩:=List.exists_of_findSome?_eq_some h;split at az
   ·rename_i ar;obtain⟨xs,n,_,he,aF,mq,rV⟩:=DataW.trod_struct hu ab;obtain⟨j,ay,Cm⟩:=List.mem_iff_getElem.1 aS;have hv:fs[j]? =some f:=by rw [←Array.getElem?_toList,List.getElem?_eq_getElem ay,Cm]
    have U:=rV j f hv;have Hm:j<xs.length:=by rw [mq];simpa using ay
    rw [List.getElem?_eq_getElem Hm]at U;obtain⟨v,a7,gx⟩:=ih az U;rw [List.getElem?_take]at a7;split at a7
    ·rw [List.getElem?_drop,show f.offset+(c-f.offset)=c by omega]at a7;refine⟨v,a7,?_⟩;subst he;simp only [DataW.weights,hu];exact Hl (j:=j) (by simp [hv]) (by simp [Hm]) gx
    ·cases a7
   ·cases az
  ·rename_i n e hu;split at h
   ·rename_i ar;obtain⟨xs,m,_,he,aF,mq,eA⟩:=DataW.trod_array hu ab;have U:=eA _ ar;rw [List.getElem?_eq_getElem (by omega)]at U;obtain⟨v,a7,gx⟩:=ih h U;rw [List.getElem?_take]at a7;split at a7
    ·rw [List.getElem?_drop,Nat.mul_comm,Nat.div_add_mod]at a7;refine⟨v,a7,?_⟩;subst he;simp only [DataW.weights,hu];exact yj (List.mem_map.2 ⟨_,List.getElem_mem _,rfl⟩) gx
    ·cases a7
   ·cases h
  ·cases h
theorem OF{isA:Bool}{t e:TypeId}{d sz:Nat}{ks:List gQ}(hw:0<w.heap.size)(bl:P.underlying t=some (.slice e))(ar:P.cellsOf e=sz)(di:Nat.blt 0 sz=true)(dy:isA=false→sz=1)
 (pD:(List.range sz).map (lT P d e)=ks.map some) {a:Option Addr} {len cap:Nat} {dd:DataW H} {ps:List MemPlace} (h:DataW.Trod enc P w 0 (fun _=>true) true t (.slice a len cap) dd ps) (id:Nat) :
 ∃(o:Option aO)(c:Nat)(b:aJ)(p:Place)(x:Addr),sG o len c id 0 0 sz∧rf w b p∧len≤maxLen∧(∀φ:Map,φ id 0=some p→aA φ (.slice o len c) (.slice a len cap)) ∧
  (∀i,i<len→b.elem? 0 (0+i)=some (elemAt w x isA sz i))∧(∀i j,i<len→j<sz→ ∃k,ks[j]? =some k∧nH k (cellAt w x (i*sz+j))) ∧
  (∀i j,i<len→j<sz→ks[j]? =some .string→ ∃s:ByteArray,cellAt w x (i*sz+j)=.string s∧s.size∈dd.weights P t):=by
 have di:0<sz:=Nat.blt_eq.mp di
 have ve:∀j,j<sz→ ∃k,ks[j]? =some k∧lT P d e j=some k:=by
  intro j ay;have U:=congrArg (fun(l:List (Option gQ))=>l[j]?) pD;simp only [List.getElem?_map,List.getElem?_range ay,Option.map_some]at U;cases az:ks[j]? with
  |none=>rw [az]at U;cases U
  |some k=>rw [az]at U;simp at U;exact⟨k,rfl,U⟩
 obtain⟨dv,aS⟩:=h;have mD:DataW.trod enc P w 0 (fun _=>true) true dv t [.slice a len cap]=some (dd,ps):=aS;rcases DataW.trod_slice bl mD with ⟨cP,_⟩|⟨x,l,c,a',rest,n,_,cP,oF,_,aF,hm,hlen,eV,rh,_⟩
 ·simp at cP;obtain⟨rfl,rfl,rfl⟩:=cP;exact⟨none,0,oE sz,pR sz,⟨0,0,none⟩,.inr ⟨rfl,rfl,rfl⟩,sK hw di,by simp,fun φ _=>by simp [aA],fun i ac=>by omega,fun i j ac=>by omega,fun i j ac=>by omega⟩
 ·simp at cP;obtain⟨rfl,rfl,rfl⟩:=cP;obtain⟨Hj,aC⟩:=rh rfl
  have each:∀i,i<cap→ ∃cs y,w.cells? 0 (x.add (i*sz)) sz=some cs∧DataW.trod enc P w 0 (fun _=>true) true n e cs=some y:=by
   intro i ac
   have ao:∃y,(w.cells? 0 (x.add (i*P.cellsOf e)) (P.cellsOf e)).bind (DataW.trod enc P w 0 (fun _=>true) true n e)=some y:=by
    by_cases bU:i<len
    ·exact⟨_,(eV i bU).trans (List.getElem?_eq_getElem (by omega))⟩
    ·have:=aC (i-len) (by omega);rw [show len+(i-len)=i by omega]at this;exact⟨_,this.trans (List.getElem?_eq_getElem (by omega))⟩
   obtain⟨y,bi⟩:=ao;rw [ar,Option.bind_eq_some_iff]at bi;obtain⟨cs,U,ak⟩:=bi;exact⟨cs,y,U,ak⟩
  have cell:∀i j,i<cap→j<sz→ ∃v k,w.cell? (x.add (i*sz+j))=some v∧ks[j]? =some k∧nH k v:=by intro i j ac ay;obtain⟨cs,y,U,ak⟩:=each i ac;obtain⟨k,az,np⟩:=ve j ay;obtain⟨v,a7,gx⟩:=Hh d np ak;refine⟨v,k,?_,az,gx⟩;rw [←Go.Deep.add_add,(World.cells?_some U).2.2 j ay,a7]
  have j6:∀i j,i<cap→j<sz→w.cell? (x.add (i*sz+j))=some (cellAt w x (i*sz+j))∧∃k,ks[j]? =some k∧nH k (cellAt w x (i*sz+j)):=by
   intro i j ac ay;obtain⟨v,k,U,ak,aP⟩:=cell i j ac ay;have:cellAt w x (i*sz+j)=v:=by simp [cellAt,U]
   rw [this];exact⟨U,k,ak,aP⟩
  have sL:∀i j,i<len→j<sz→ks[j]? =some .string→ ∃s:ByteArray,cellAt w x (i*sz+j)=.string s∧s.size∈dd.weights P t:=by
   intro i j ac ay az;obtain⟨k',dz,np⟩:=ve j ay;rw [az]at dz;simp only [Option.some.injEq]at dz;subst dz;simp only [Prod.mk.injEq]at oF;have xl:i<a'.length:=by omega
   have bt:=(eV i ac).trans (List.getElem?_eq_getElem xl);rw [ar,Option.bind_eq_some_iff]at bt;obtain⟨cs,U,ak⟩:=bt;obtain⟨s,a7,gx⟩:=OE d np ak;refine⟨s,?_,?_⟩
   ·unfold cellAt;rw [←Go.Deep.add_add,(World.cells?_some U).2.2 j ay,a7];rfl
   ·rw [oF.1];simp only [DataW.weights,bl];refine List.mem_cons_of_mem _ (List.mem_append.2 (.inl (yj (List.mem_map.2 ⟨_,List.getElem_mem xl,rfl⟩) gx)))
  by_cases jX:cap=0
  ·subst jX;obtain rfl:len=0:=by omega
   refine⟨some ⟨id,0,0,0,sz⟩,0,oE sz,pR sz,x,.inl rfl,sK hw di,by simp,fun φ oz=> ?_,fun j ay=>by omega,fun i j ac=>by omega,fun i j ac=>by omega⟩;simp only [aA];exact⟨x,0,rfl,Nat.le_refl _,Nat.le_refl _,.inl ⟨rfl,_,oz,rfl,.inl rfl,fun _=>rfl⟩⟩
  have pS:x.spot=none:=by have:=(j6 0 0 (by omega) di).1;simpa [Addr.add]using World.cell?_spot this
  have j7:∀i,x.add i=⟨x.block,x.off+i,none⟩:=by
   intro i;obtain⟨Hk,of,ri⟩:=x;simp only at pS;subst pS;unfold Addr.add;split
   ·rename_i bt;subst bt;rfl
   ·rfl
  have lF:∀i,i<cap→(elemAt w x isA sz i).cells=(List.range sz).map fun j=>ig (cellAt w x (i*sz+j)):=by
   intro i ac;refine Hi fun uN=> ?_
   have U:=dy uN;subst U;refine⟨_,rfl,?_⟩;obtain⟨_,k,_,gx⟩:=j6 i 0 ac (by omega);exact gx.bare.2.1
  have qD:x.block<w.heap.size:=by
   have:=(j6 0 0 (by omega) di).1;rw [j7]at this;unfold World.cell? at this;split at this
   ·rename_i ao;exact(Array.getElem?_eq_some_iff.1 ao).1
   ·cases this
  refine⟨some ⟨id,0,0,0,sz⟩,cap,{a':=(List.range cap).map (elemAt w x isA sz),es:=sz,exact:=true,ro:=true,ver:=0,eD:=0,hU:=0,ty:=none},{bD:=x.block,off:=x.off,aB:=0,es:=sz,tot:=cap,exact:=true,ro:=true},x,.inl rfl,?_,by omega,?_,?_,fun i j ac ay=>(j6 i j (by omega) ay).2,sL⟩
  ·refine⟨rfl,rfl,rfl,rfl,di,rfl,fun φ S=>⟨qD,(fun h=>by cases h),?_,(fun h=>by cases h),(fun h=>by cases h),(fun q h=>by cases h),?_⟩,?_⟩
   ·intro o ap;simp only at ap;have U:o/sz<cap:=Nat.div_lt_of_lt_mul (by rw [Nat.mul_comm];exact ap);have:=(j6 (o/sz) (o%sz) U (Nat.mod_lt _ di)).1;rw [show o/sz*sz+o%sz=o by rw [Nat.mul_comm];exact Nat.div_add_mod o sz,j7]at this;simp only [this];rfl
   ·intro i e0 _ _ he;simp only [List.getElem?_map,Option.map_eq_some_iff]at he;obtain⟨eo,du,rfl⟩:=he;have ac:=(List.getElem?_eq_some_iff.1 du).1;simp only [List.length_range]at ac;rw [List.getElem?_range ac]at du;simp only [Option.some.injEq]at du;subst du;refine⟨by rw [lF i ac];simp,by simp only;omega,fun j br ab=> ?_⟩;rw [lF i ac,List.getElem?_map,Option.map_eq_some_iff]at ab;obtain⟨je,hv,rfl⟩:=ab;have ay:=(List.getElem?_eq_some_iff.1 hv).1;simp only [List.length_range]at ay;rw [List.getElem?_range ay]at hv;simp only [Option.some.injEq]at hv;subst hv;obtain⟨U,k,_,gx⟩:=j6 i j ac ay;refine⟨_,?_,tz φ _,gx.bare.2.2⟩;rw [j7]at U;simp only [Place.at,Nat.sub_zero,Nat.add_assoc];exact U
   ·intro e0 he;obtain⟨i,ac,rfl⟩:=List.mem_map.1 he;have ac:=List.mem_range.1 ac;unfold elemAt vd
    have gu:∀a∈(List.range sz).map (fun j=>ig (cellAt w x (i*sz+j))),ey a:=by intro a aW;obtain⟨j,ay,rfl⟩:=List.mem_map.1 aW;obtain⟨_,k,_,gx⟩:=j6 i j ac (List.mem_range.1 ay);exact gx.bare.1
    cases isA with
    |true=>exact ey.agg gu
    |false =>
     have U:=dy rfl;subst U;exact gu _ (by simp)
  ·intro φ oz;simp only [aA];refine⟨x,cap,rfl,aF,Nat.le_refl _,.inl ⟨rfl,_,oz,rfl,?_,fun _=>rfl⟩⟩;refine .inr ⟨Nat.le_refl _,?_,by simp⟩;have:=j7 0;simp only [Addr.add,if_true]at this;simpa [Place.at]using this
  ·intro i ac;have du:i<cap:=by omega
   simp [aJ.elem?,aJ.cj,du]
end
end
end Go.ba
namespace Go.Proofs.YtjpfnbihopoeeaaGreatDoor
open Go.ChangeShapes Go.WideShapes Go.ChangeAt Go.RowKit
open Go.ba
structure vf(w:World)(a:Addr)(r:Nat)(W:Nat→Prop) where
 A:Option Addr
 L:Nat
 C:Nat
 o:Option aO
 c:Nat
 b:aJ
 p:ba.Place
 tx:List u1
 cell:w.cell? (a.add r)=some (.slice A L C)
 eS:sG o L c (1+r) 0 0 1
 row:rf w b p
 rel:∀φ:Map,φ (1+r) 0=some p→aA φ (.slice o L c) (.slice A L C)
 len:tx.length=L
 el:∀j (h:j<tx.length),b.elem? 0 (0+j)=some (.str tx[j])
 w:∀R,(∀y,W y→y≤R)→ ∀s∈tx,s.length≤R
section
variable {H:Type}{enc:TypeId×Value→H}{P:Program}{w:World}
theorem OG{e q:TypeId}(he:P.underlying e=some (.slice q))(pD:(List.range 1).map (lT P 5 q)=([gQ.string]:List gQ).map some)(sM:P.cellsOf q=1)(hw:0<w.heap.size){a:Addr}{r n:Nat}{v:Value}{y:DataW H×List MemPlace}(a7:w.cell? (a.add r)=some v)(bi:DataW.trod enc P w 0 (fun _=>true) true n e [v]=some y)(W:Nat→Prop)(jt:∀x∈y.1.weights P e,W x):Nonempty (vf w a r W):=by
 have tT:∃A L C,v=.slice A L C:=by
  rcases DataW.trod_slice he bi with ⟨cP,_⟩|⟨x,l,c,_,_,_,_,cP,_⟩
  ·simp at cP;exact⟨_,_,_,cP⟩
  ·simp at cP;exact⟨_,_,_,cP⟩
 obtain⟨A,L,C,rfl⟩:=tT;obtain⟨o,c,b,p,x,U,ak,aP,bQ,ct,cL,eT⟩:=OF (isA:=false) (d:=5) (sz:=1) (ks:=[.string]) hw he sM (by decide) (fun _=>rfl) pD (dd:=y.1) (ps:=y.2) ⟨n,bi⟩ (1+r)
 have key:∀i,i<L→ ∃s:ByteArray,elemAt w x false 1 i=.str s.data.toList∧s.size∈y.1.weights P e:=by intro i ac;obtain⟨s,g1,g2⟩:=eT i 0 ac (by decide) rfl;have e':elemAt w x false 1 i=ig (cellAt w x (i*1+0)):=rfl;exact⟨s,by rw [e',g1];rfl,g2⟩
 let sL:Nat→u1:=fun i=>match elemAt w x false 1 i with|.str s=>s|_=> []
 have bl:∀i,i<L→elemAt w x false 1 i=.str (sL i)∧∃s∈y.1.weights P e,(sL i).length=s:=by
  intro i ac;obtain⟨s,g1,g2⟩:=key i ac;have:sL i=s.data.toList:=by show(match elemAt w x false 1 i with|.str s=>s|_=> [])=_;rw [g1]
  rw [this];exact⟨g1,_,g2,(Array.length_toList:s.data.toList.length=s.data.size)⟩
 refine⟨⟨A,L,C,o,c,b,p,(List.range L).map sL,a7,U,ak,bQ,by simp,fun j ay=> ?_,fun R e2 s hs=> ?_⟩⟩
 ·have hv:j<L:=by simpa using ay
  rw [ct j hv,(bl j hv).1];simp
 ·obtain⟨i,ac,rfl⟩:=List.mem_map.1 hs;obtain⟨_,z,jc,z2⟩:=bl i (List.mem_range.1 ac);rw [z2];exact e2 _ (jt _ jc)
end
end Go.Proofs.YtjpfnbihopoeeaaGreatDoor
namespace Go.Proofs.YtjpfnbihopoeeaaGreatDoor
open Go.ba
end Go.Proofs.YtjpfnbihopoeeaaGreatDoor
