/-
  Parts of the proof of KeysName.
-/
import Derived.Laws.IdiomCopy
import Derived.Scope
import Derived.Test.YtddnafghiejcoaaGreatDoorKKeysNameA
set_option linter.unusedVariables false
set_option linter.defProp false
set_option linter.unusedSimpArgs false
namespace Go.br
noncomputable section
open Go.RowKit
def ji(P:Program)(aR:Nat->Prop)(aV:World)(call:cR):Prop :=
 ∀f args h v Z,call f args h=some (v,Z)-> ∀(φ:Map)(w:World)(b:Array Value),cv φ aR h w->Safe aR aV w->bo φ args b.toList ->
  (∃fn c,P.funcs[f]? =some fn/\fn.body=some c) /\
  Calls P f b w λe a7=> ∃d a,e=.returned d/\dM φ a h.M/\aA a v d/\cv a aR Z a7/\Safe aR aV a7/\h.M<=Z.M
def zg(P:Program)(C:(Nat->Prop)->World->Prop)(f:FuncId)(g:vt):Prop :=
 ∀(aR:Nat->Prop)(aV:World),dS aR aV.heap.size->C aR aV-> ∀args h v Z,g args h=some (v,Z)-> ∀(φ:Map)(w:World)(b:Array Value),cv φ aR h w->Safe aR aV w->bo φ args b.toList ->
  (∃fn c,P.funcs[f]? =some fn/\fn.body=some c) /\
  Calls P f b w λe a7=> ∃d a,e=.returned d/\dM φ a h.M/\aA a v d/\cv a aR Z a7/\Safe aR aV a7/\h.M<=Z.M
def sK:Nat->Option (Array Value->Sem Value)
 |0=>some Extern.BytealgCount.count
 |1=>some Extern.BytealgIndexByte.indexByte
 |2=>some Extern.BytealgCompare.compare
 |_=>none
structure fa(P:Program)(E:bi):Prop where
 fW:E.D.cG P
 eqs:∀t,E.eS t=true->nU P t
 names:∀(f:Nat) fn,P.funcs[f]? =some fn->(fn.name == "runtime.NumGoroutine")=false
 Er:∀(f:Nat) g,E.qH f=some g->zg P E.cond f g
 Es:∀(f:Nat) k,E.ext f=some k-> ∃fn e,P.funcs[f]? =some fn/\fn.body.isNone=true/\Extern.findNext fn=none/\Extern.find fn=some e/\sK k=some e
section
variable {P:Program}{φ:Map}{E:bi}
def ek(P:Program)(φ:Map)(aR:Nat->Prop)(aV:World)(h:T)(nid:Nat)(v:J)(Z:T)(r:Result Next):Prop :=
 (∃b a7 a,(r=.ok (.value b) a7\/(r=.ok .skip a7/\b=undef))/\fB φ a h.M nid/\aA a v b/\cv a aR Z a7/\Safe aR aV a7/\h.M<=Z.M)
 \/(∃f args a7,r=.ok (.enter f args) a7/\Calls P f args a7 λe c=> ∃b a,e=.returned b/\fB φ a h.M nid/\aA a v b/\cv a aR Z c/\Safe aR aV c/\h.M<=Z.M)
variable {v:J}
def ek.pq{aR:Nat->Prop}{aV:World}{h:T}{nid:Nat}{Z:T}{s:Sem Value}{w:World}(k:mB P φ aR aV h nid v Z s w){r:Result Next}
 (d:r=(s.run P w).andThen λv w=> .ok (.value v) w):ek P φ aR aV h nid v Z r:=by
 obtain⟨e,a7,f,Y,ag,a,b,c,g⟩:=k;refine .inl ⟨e,a7,f,.inl ?_,ag,a,b,c,A⟩;rw [d,Y];rfl
def ek.gp{aR:Nat->Prop}{aV:World}{h:T}{nid:Nat}{s:Sem Value}{w:World}(d:cv φ aR h w)(b:Safe aR aV w)(k:∃a,s.run P w=.ok a w/\aA φ v a){r:Result Next}
 (c:r=(s.run P w).andThen λv w=> .ok (.value v) w):ek P φ aR aV h nid v h r :=
 ek.pq (mB.pure d b k) c
variable {ρ':Operand->Value}{ρ:Operand->J}
def jI.of_map(a:∀x,aA φ (ρ x) (ρ' x))(o:Option Operand):jI φ (o.map ρ) (o.map ρ'):=by
 cases o with
 |none=>trivial
 |some x=>exact a x
def sL(a:∀x,aA φ (ρ x) (ρ' x))(xs:Array Operand):bo φ (xs.toList.map ρ) (xs.map ρ').toList:=by rw [u7];exact bo.map _ _ _ λx _=>a x
def MZ{l:List J}(h:l.all (·.hV)=true):flat l=l:=by
 induction l with
 |nil=>rfl
 |cons a r ih =>
  simp only [iE,cC]at h;have e:a.cells=[a]:=by cases a<;>first|rfl|(simp [J.hV]at h)
  show a.cells++flat r=a::r;rw [e,ih h.2];rfl
def M0{D:cV}(E:D.cG P){aR:Nat->Prop}{h Z:T}{aV w:World}(r:cv φ aR h w)(am:Safe aR aV w){t u ty:TypeId}{s x:J}{O bD:Value}(hs:aA φ s O)(K:aA φ x bD)(g:yZ D t s x h=some (v,Z)) :
 ∃Q a7,(Builtin.copy_ #[t,u] ty #[O,bD]).run P w=.ok Q a7/\aA φ v Q/\cv φ aR Z a7/\Safe aR aV a7/\Z.M=h.M:=by
 unfold yZ at g;split at g
 .rename_i d a len cap k n d9 a4;obtain⟨el,em,ex,bn,a5, -⟩:=E.get a4;split at g
  .rename_i e F;rw [a5]at F;have:=jg F;subst this;split at g
   .rename_i cg B b d1 a0 m;obtain⟨f3,f4,d2, -, -,d4, -⟩:=E.get d1;split at g
    .rename_i aj;obtain⟨cL,c2,c3,c4,c5,S,U,W,c9,R⟩:=aj;split at g
     .rename_i cs o;split at g
      .rename_i a2;obtain⟨d8,c12⟩:=a2;simp only [a8,bC]at g;obtain⟨rfl,rfl⟩:=g;simp only [aA]at hs K;obtain⟨xs,X,rfl,fd,fn,dg⟩:=hs;obtain⟨f5,C,rfl,f0,f1,d3⟩:=K;rcases dg with ⟨bs,_⟩|⟨f,bs,q,i,fs,I,rfl⟩
       .omega
       .obtain⟨p,ae,H,c0,_⟩:=d3.plain c3;rw [c4]at H;have a3:¬C=0:= A;rcases c0 with d5|⟨ct,rfl,e0⟩
        .exact absurd d5 a3
        .obtain⟨news,z,n2,N,f2,d7⟩:=r.zd ae a0 ct U W;rw [MZ c12]at z;have G:news.length=n:=by rw [d7,<-H,o3]
         rw [R]at i;have co:b.b6 b.ad=b.bg.length:=by simp [aa.b6]
         have ce:a.idx<b.bg.length:=(e4.1 o).1
         have eq:cs.length=q.es:=by obtain⟨_,c,ag,_,_,_,_,_,l⟩:=r.cN a.id b.ad q i;rw [m]at ag;simp at ag;subst ag;exact(l.cont a.idx (.agg cs) I (by rw [co];exact ce) o).1
         have bv:a.fld-1=f:= A;have a9:((B.bg.drop k.idx).take n).length=n:=by have:=z.length;omega
         obtain⟨d6,L⟩:=r.store i m c9 (idx:=a.idx) (fld:=f) (e:= .agg cs) (e':= .agg (gW cs f ((B.bg.drop k.idx).take n))) I o z N (by rw [a9];omega) rfl;rw [bv];refine⟨_,_,run_copy_cells w t u ty e q.bQ (q.off+(a.idx-q.aD)*q.es+f) len X (p.at k.idx 0) n C news bn (by rw [d2];simp [d4▸cL]) (by rw [G];exact(Nat.min_eq_left S).symm) ?_ (λj y=>(L j y).1) (λj y=>(L j y).2) N,?_,d6,?_,rfl⟩
         .intro j v d0;have:=n2 j v d0;cases j with
          |zero=>simpa [Place.at,Addr.add]using this
          |succ j=>simpa [Place.at,Addr.add]using this
         .rw [G];rfl
         .obtain⟨_,c,ag,g3,g4,g5,g6,g7,l⟩:=r.cN a.id b.ad q i;rw [m]at ag;simp at ag;subst ag;exact sD q.bQ (l.base (g6 c9)) news _ am
      .cases g
     .cases g
    .cases g
   .cases g
  .cases g
 .cases g
def M1(l:fa P E){aR:Nat->Prop}{h Z:T}{aV w:World}(r:cv φ aR h w)(g:Safe aR aV w)(O:dS aR aV.heap.size){nid:Nat}(hid:∀v,φ nid v=none)(aw:nid<h.M)
 {b:Builtin} {ts:Array TypeId} (ty:TypeId) (N:Array Bool) {args:List J} {d:Array Value} (c:bo φ args d.toList)  (a:eY E b ts args nid h=some (v,Z)) :
 ek P φ aR aV h nid v Z ((builtin b ts ty N d).run P w):=by
 unfold eY at a;split at a
 .split at a
  .rename_i x t i;simp only [cb,bC]at a;obtain⟨v1,Y,rfl,rfl⟩:=a;exact ek.gp r g (MP l.fW ty c i Y w) (by simp [builtin])
  .cases a
 .split at a
  .rename_i s x t u i hu
   have Q:(∃j,E.D u=some j/\(j.kind matches .slice _|.string)=true/\fA E.D t s x nid h=some (v,Z)):=by
    split at a
    .rename_i j z;split at a
     .rename_i he;exact⟨j,z,by simp [he],a⟩
     .rename_i he;exact⟨j,z,by simp [he],a⟩
     .cases a
    .cases a
   obtain⟨j,z,K,a⟩:=Q;obtain⟨a3,am,a2,L,U, -⟩:=l.fW.get z
   have S:(∃e',P.underlying u=some (.slice e'))\/P.underlying u=some .string:=by
    rw [U]at K;cases am<;>simp [fm]at K
    .right;exact L
    .left;exact⟨_,L⟩
   simp only [bo]at c;obtain⟨e,I,aQ,hs,bD,l2,aZ,m,k⟩:=c;subst aZ k;have f:d= #[e,bD]:=by apply Array.ext';simpa using aQ
   have R:=MR l.fW r g O hid aw ty hs m S a;refine ek.pq (s:=Builtin.append_ ts ty d) (w:=w) ?_ (by simp [builtin]);obtain⟨y,a7,a0,o,q⟩:=R;refine⟨y,a7,a0,?_,q⟩;rw [<-o,f];have B:ts[0]? =(#[t,u]:Array TypeId)[0]? :=by rw [i];rfl
   have C:ts[1]? =(#[t,u]:Array TypeId)[1]? :=by rw [hu];rfl
   simp only [Builtin.append_,B,C]
  .cases a
 .split at a
  .rename_i x X;simp only [cb,bC]at a;obtain⟨v1,Y,rfl,rfl⟩:=a;exact ek.gp r g (Mw ts ty c Y w) (by simp [builtin])
  .cases a
 .split at a
  .rename_i x X;simp only [cb,bC]at a;obtain⟨v1,Y,rfl,rfl⟩:=a;exact ek.gp r g (Mx ts ty c Y w) (by simp [builtin])
  .cases a
 ·
   split at a
   .rename_i s x t u i hu;simp only [bo]at c;obtain⟨e,I,aQ,hs,bD,l2,aZ,m,k⟩:=c;subst aZ k;have f:d= #[e,bD]:=by apply Array.ext';simpa using aQ
    obtain⟨y,a7,o,q,F,G,H⟩:=M0 (P:=P) (u:=u) (ty:=ty) l.fW r g hs m a;refine ek.pq (s:=Builtin.copy_ ts ty d) (w:=w) ⟨y,a7,φ,?_,fB.refl _ _ _,q,F,G,H⟩ (by simp [builtin]);rw [<-o,f];have B:ts[0]? =(#[t,u]:Array TypeId)[0]? :=by rw [i];rfl
    have C:ts[1]? =(#[t,u]:Array TypeId)[1]? :=by rw [hu];rfl
    simp only [Builtin.copy_,B,C]
   .cases a
 ·
   split at a
   .rename_i x;simp only [cb,bC]at a;obtain⟨v1,Y,rfl,rfl⟩:=a;simp only [bo]at c;obtain⟨e,I,aQ,hs,aZ⟩:=c;subst aZ;have f:d= #[e]:=by apply Array.ext';simpa using aQ
    subst f;exact ek.gp r g (MX (ts:=ts) (ty:=ty) hs Y w) (by simp [builtin])
   .cases a
 ·
   split at a
   .rename_i p n t i;simp only [bo]at c;obtain⟨e,I,aQ,hs,bD,l2,aZ,m,k⟩:=c;subst aZ k;have f:d= #[e,bD]:=by apply Array.ext';simpa using aQ
    subst f;have W:bD=.int .i64 n:=by simpa only [aA]using m
    subst W;obtain⟨y,a7,o,q,F,G,H⟩:=MY l.fW r g (ty:=ty) i hs a;exact ek.pq (s:=Builtin.unsafeString_ ts ty #[e,.int .i64 n]) ⟨y,a7,φ,o,fB.refl _ _ _,q,F,G,H⟩ (by simp [builtin])
   .cases a
 .cases a
def M2(p:fa P E){aR:Nat->Prop}{h Z:T}{aV w:World}{call:cR}(a4:ji P aR aV call)(r:cv φ aR h w)(m:Safe aR aV w)(H:dS aR aV.heap.size){nid:Nat}(hid:∀v,φ nid v=none)
 (aw:nid<h.M)   (k:∀x,aA φ (ρ x) (ρ' x)) {o:Oper}  (j:bt E call nid ρ h o.op=some (v,Z)) :
 ek P φ aR aV h nid v Z ((execOp ρ' o).run P w):=by
 unfold bt at j;split at j
 ·
   rename_i x e;simp only [a8,bC]at j;obtain⟨rfl,rfl⟩:=j;exact ek.gp (s:=pure (ρ' x)) r m ⟨_,rfl,k x⟩ (by simp [execOp,e])
 .rename_i x e;simp only [a8,bC]at j;obtain⟨rfl,rfl⟩:=j;exact ek.gp (s:=pure (ρ' x)) r m ⟨_,rfl,k x⟩ (by simp [execOp,e])
 ·
   rename_i c a b e;split at j
   .rename_i t aj;simp only [a8,bC]at j;obtain⟨rfl,rfl⟩:=j;have Y:=k c;rw [aj]at Y;simp only [aA]at Y;refine ek.gp (s:=pure (if t then ρ' a else ρ' b)) r m ⟨_,rfl,?_⟩ (by simp [execOp,e,Y,asBool]);cases t
    .exact k b
    .exact k a
   .cases j
 ·
   rename_i t e;split at j
   .rename_i d L;obtain⟨dg,u,am,hu,W,hs, -,ct⟩:=p.fW.get L;split at j
    .rename_i z c3;split at j
     .rename_i aj;simp only [a8,bC]at j;obtain⟨rfl,rfl⟩:=j;simp only [cC,eP]at aj;obtain⟨d3,c0,c2⟩:=qO (P:=P) (φ:=φ) (t:=t) p.fW ct c3;obtain⟨a7,K,B,q,F,G,I⟩:=Ee (P:=P) (D:=E.D) r m H hid aw t c2 aj.1 aj.2;refine .inl ⟨_,a7,K,.inl ?_,q,F,G,I,Nat.le_refl _⟩;simp [execOp,e,Instr.alloc,sF am c0,B]
     .cases j
    .cases j
   .cases j
 ·
   rename_i t x e;split at j
   .rename_i d L;split at j
    .rename_i aj;simp only [a8,bC]at j;obtain⟨rfl,rfl⟩:=j;simp only [cC,eP]at aj;obtain⟨a7,K,B,q,F,G,I⟩:=Ee (P:=P) (D:=E.D) r m H hid aw t (k x) aj.1 aj.2;refine .inl ⟨_,a7,K,.inl ?_,q,F,G,I,Nat.le_refl _⟩;simp [execOp,e,Instr.box,B]
    .cases j
   .cases j
 ·
   rename_i t parts e;simp only [cb,bC]at j;obtain⟨v1,Y,rfl,rfl⟩:=j;exact ek.gp r m (MK p.fW k Y w) (by simp [execOp,e])
 ·
   rename_i t n parts e;exact ek.pq (MN p.fW r m H hid aw k j) (by simp [execOp,e])
 ·
   rename_i t x e;split at j
   .rename_i a C;simp only [cb,bC]at j;obtain⟨v1,Y,rfl,rfl⟩:=j;exact ek.gp r m (Ed p.fW r (by have:=k x;rw [C]at this;exact this) Y) (by simp [execOp,e])
   .cases j
 ·
   rename_i t x y e;split at j
   .rename_i a C;simp only [cb,bC]at j;obtain⟨Y,c4,rfl,rfl⟩:=j;obtain⟨a7,B,q,F,G⟩:=MH p.fW r m (by have:=k x;rw [C]at this;exact this) (k y) c4;refine .inl ⟨undef,a7,φ,.inr ⟨?_,rfl⟩,fB.refl _ _ _,aA.eR φ,q,F,A⟩;simp [execOp,e,B]
   .cases j
 ·
   rename_i x e;split at j
   .rename_i a C;simp only [a8,bC]at j;obtain⟨rfl,rfl⟩:=j;have Y:=k x;rw [C]at Y;have ag:=Y;simp only [aA]at ag;obtain⟨d2,ag,a0⟩:=ag;exact ek.gp (s:=pure (ρ' x)) r m ⟨_,rfl,Y⟩ (by simp [execOp,e,ag])
   .rename_i g fs cs C;simp only [a8,bC]at j;obtain⟨rfl,rfl⟩:=j;have Y:=k x;rw [C]at Y;have ag:=Y;simp only [aA]at ag;obtain⟨Q,N,ag,a0,d0⟩:=ag;exact ek.gp (s:=pure (ρ' x)) r m ⟨_,rfl,Y⟩ (by simp [execOp,e,ag])
   .cases j
 ·
   rename_i op t x y ty e;simp only [cb,bC]at j;obtain⟨v1,Y,rfl,rfl⟩:=j;obtain⟨S,B,q,F⟩:=Mr p.fW p.eqs (k x) (k y) Y w;exact ek.gp (s:=binOp op t (ρ' x) (ρ' y)) r m ⟨S,q,F⟩ (by simp [execOp,e,B])
 ·
   rename_i op t x e;simp only [cb,bC]at j;obtain⟨v1,Y,rfl,rfl⟩:=j;exact ek.gp r m (Ms (k x) Y w) (by simp [execOp,e])
 ·
   rename_i s d x e;simp only [cb,bC]at j;obtain⟨v1,Y,rfl,rfl⟩:=j;exact ek.gp r m (Mt p.fW (k x) Y w) (by simp [execOp,e])
 ·
   rename_i g fs cs e;simp only [a8,bC]at j;obtain⟨rfl,rfl⟩:=j;refine ek.gp (s:=pure (.func (.func g) (fs.map ρ') (cs.map ρ'))) r m ⟨_,rfl,?_⟩ (by simp [execOp,e,Instr.makeFunc]);simp only [aA];exact⟨_,_,rfl,sL k fs,sL k cs⟩
 ·
   rename_i t x e;split at j
   .rename_i d L;obtain⟨dg,u,am,hu,W, -⟩:=p.fW.get L;split at j
    .cases j
    .rename_i X;simp only [a8,bC]at j;obtain⟨rfl,rfl⟩:=j;refine ek.gp (s:=Instr.makeInterface t (ρ' x)) r m ⟨.iface t (ρ' x),?_,by simp only [aA];exact⟨_,rfl,k x⟩⟩ (by simp [execOp,e]);rw [W]at X;simp only [Instr.makeInterface,Sem.run_bind,run_underlying hu,Result.andThen_ok];cases u<;>first|rfl|exact absurd rfl (X _)
   .cases j
 ·
   rename_i t l c e;exact ek.pq (MO p.fW r m H hid aw (k l) (k c) j) (by simp [execOp,e])
 ·
   rename_i t x aD ah mx e;simp only [cb,bC]at j;obtain⟨v1,Y,rfl,rfl⟩:=j;exact ek.gp r m (ME p.fW (k x) (jI.of_map k aD) (jI.of_map k ah) (jI.of_map k mx) Y w) (by simp [execOp,e])
 ·
   rename_i t x f e;simp only [cb,bC]at j;obtain⟨v1,Y,rfl,rfl⟩:=j;exact ek.gp r m (MB p.fW (k x) Y w) (by simp [execOp,e])
 ·
   rename_i t x f e;simp only [cb,bC]at j;obtain⟨v1,Y,rfl,rfl⟩:=j;exact ek.gp r m (My p.fW (k x) Y w) (by simp [execOp,e])
 ·
   rename_i t x i e;simp only [cb,bC]at j;obtain⟨v1,Y,rfl,rfl⟩:=j;exact ek.gp r m (MC p.fW (k x) (k i) Y w) (by simp [execOp,e])
 ·
   rename_i t x i e;simp only [cb,bC]at j;obtain⟨v1,Y,rfl,rfl⟩:=j;exact ek.gp r m (Mz p.fW (k x) (k i) Y w) (by simp [execOp,e])
 ·
   rename_i x i e;split at j
   .rename_i vs co;simp only [cb,bC]at j;obtain⟨v1,Y,rfl,rfl⟩:=j;exact ek.gp r m (MA (by have:=k x;rw [co]at this;exact this) Y w) (by simp [execOp,e])
   .cases j
 ·
   rename_i c e;split at j
   .rename_i f R;unfold kV at j;split at j
    .rename_i g first captured bs
     have Y:=k f;rw [bs]at Y;simp only [aA]at Y;obtain⟨Q,N,Y,bn,a9⟩:=Y
     have a2:bo φ (first++c.args.toList.map ρ++captured) (Q++c.args.map ρ'++N).toList:=by simp only [mr];exact(bn.append (sL k c.args)).append a9
     obtain⟨⟨fn,body,U,a3⟩,a5⟩:=a4 _ _ _ _ _ j φ w _ r m a2;refine .inr ⟨g,Q++c.args.map ρ'++N,w,?_,a5.mono ?_⟩
     .have bv:¬fn.name= "runtime.NumGoroutine" :=by simpa using p.names g fn U
      simp [execOp,e,resolve,R,Y,Deferred.ofValue,invoke,callFunc,U,bv,a3]
     .rintro e' d1 ⟨S,K,B,q,G,I,c5,c9⟩;exact⟨S,K,B,⟨q.le,λi ah _ ce=>q.new i ah ce,q.ro⟩,G,I,c5,c9⟩
    .cases j
   .rename_i b R;have he:∃O,(execOp ρ' o).run P w=(builtin b c.argTypes o.type O (c.args.map ρ')).run P w:=⟨_,by simp [execOp,e,resolve,R,invoke];rfl⟩
    obtain⟨O,he⟩:=he;rw [he];exact M1 p r m H hid aw o.type O (sL k c.args) j
   .cases j
 .cases j
def Et:∀(bq:List Int)(r:ByteArray),(bq.foldl (λr n=>r.push (UInt8.ofNat n.toNat)) r).data.toList=r.data.toList++bq.map (λn=>UInt8.ofNat n.toNat)
 |[],r=> au
 |n::l,r=>by simp only [hT,ei];rw [Et l];simp [ByteArray.push]
def sM(w:World)(a:Addr)(k:Nat):(w.freeze a 1).heap[k]? =if a.block=k then(w.heap[k]?).map λo=>match o with
 |.cells c elem (aD,ah)=> .cells c elem (if aD == ah then(a.off,a.off+1)else(min aD a.off,max ah (a.off+1)))
 |o=>o else w.heap[k]? :=by
 unfold World.freeze;rw [ai aC];simp only [Array.getElem?_modify];rfl
def Eu(w:World)(a x:Addr):(w.freeze a 1).cell? x=w.cell? x:=by
 unfold World.cell?;rw [sM];by_cases h:a.block=x.block
 .rw [az h];cases b:w.heap[x.block]? with
  |none=>rfl
  |some o =>
   cases o;case cells c t f=>obtain⟨aD,ah⟩:=f;rfl
   all_goals rfl
 .rw [ai h]
variable {k m n:Nat}
def iN.freeze{w:World}{a:Addr}(aw:∃t aD ah,ej w a.block=some (t,n,aD,ah)/\(aD=ah\/n<=aD))(j:a.off=n)(h:iN w k):iN (w.freeze a 1) k:=by
 by_cases e:a.block=k
 .subst e;obtain⟨l,aD,ah,Y,ag⟩:=aw;unfold iN ej;rw [sM,az rfl];unfold ej at Y;cases d:w.heap[a.block]? with
  |none=>rw [d]at Y;cases Y
  |some o =>
   rw [d]at Y;cases o
   case cells c t f =>
    obtain⟨i,g⟩:=f;simp only [a8,bC]at Y;obtain⟨rfl,rfl,rfl,rfl⟩:=Y;simp only [eE];by_cases b:i=g
    .refine⟨t,c.size,a.off,a.off+1,by simp [b],.inr A⟩
    .refine⟨t,c.size,min i a.off,max g (a.off+1),by simp [b],.inr ?_⟩;rcases ag with ag|ag
     .exact absurd ag b
     .omega
   all_goals cases Y
 .exact h.of_eq (pk (by rw [sM,ai e]))
def iN.free{w:World}{b o:Nat}(h:iN w b)(aj:(w.cell? ⟨b,o,none⟩).isSome=true):w.frozen? ⟨b,o,none⟩=false:=by
 obtain⟨j,n,aD,ah,Y,ag⟩:=h;unfold ej at Y;unfold World.cell? at aj;unfold World.frozen?;simp only at aj⊢;cases a:w.heap[b]? with
 |none=>simp [a]at Y
 |some d =>
  rw [a]at Y aj;cases d
  case cells c t f =>
   obtain⟨i,e⟩:=f;simp only [a8,bC]at Y;obtain⟨rfl,rfl,rfl,rfl⟩:=Y;simp only [nG,ey,ez]at aj
   have g:o<c.size:=by
    rcases gK o c.size with h|h
    .exact h
    .rw [o' h]at aj;cases aj
   simp;omega
  all_goals cases Y
def M3{w:World}{a:Addr}{t:TypeId}{aD ah:Nat}(h:ej w k=some (t,n,aD,ah)):∃aD ah,ej (w.freeze a 1) k=some (t,n,aD,ah):=by
 unfold ej at h⊢;rw [sM];by_cases e:a.block=k
 .rw [az e];cases b:w.heap[k]? with
  |none=>rw [b]at h;cases h
  |some o =>
   rw [b]at h;cases o
   case cells c j f =>
    obtain⟨i,d⟩:=f;simp only [a8,bC]at h;obtain⟨rfl,rfl,rfl,rfl⟩:=h;simp only [eE];by_cases g:i=d
    .exact⟨a.off,a.off+1,by simp [g]⟩
    .exact⟨min i a.off,max d (a.off+1),by simp [g]⟩
   all_goals cases h
 .rw [ai e];exact⟨aD,ah,h⟩
def cv.freeze{aR:Nat->Prop}{h:T}{w:World}(r:cv φ aR h w){a:Addr}(aw:∃t aD ah,ej w a.block=some (t,n,aD,ah)/\(aD=ah\/n<=aD))(y:a.off=n):cv φ aR h (w.freeze a 1) where
 cN i v p ae:=by
  obtain⟨Y,b,ag,k,l,m,q,s,c⟩:=r.cN i v p ae;have hm:b.ro=false->iN (w.freeze a 1) p.bQ:=λf=>(c.mark f).freeze aw y
  have g:∀o,o<p.tot*p.es->((w.freeze a 1).cell? ⟨p.bQ,p.off+o,none⟩).isSome=true:=λo d=>by rw [Eu];exact c.cells o d
  refine⟨Y,b,ag,k,l,m,q,s,⟨?_,c.base,g,λf o d=>(hm f).free (g o d),hm,λt9 u=>(by obtain⟨G,K,i9,E,B,C⟩:=c.hr t9 u;obtain⟨F,i8,D⟩:=M3 (a:=a) E;exact⟨G,F,i8,D,B,C⟩),λi e g1 g2 g3=> ?_⟩⟩
  .have:=c.bQ;unfold World.freeze;rw [ai aC];simpa using this
  .obtain⟨cw,cy,et⟩:=c.cont i e g1 g2 g3
   exact⟨cw,cy,λj bD z=>by
    obtain⟨x,H,I⟩:=et j bD z
    exact⟨x,by rw [Eu];exact H,I⟩⟩
 apart:=r.apart
 same:=r.same
def Safe.freeze{S:Nat->Prop}{a w:World}(h:Safe S a w){p:Addr}(ae:¬S p.block):Safe S a (w.freeze p 1) :=
 h.trans ⟨by unfold World.freeze;rw [ai aC],by unfold World.freeze;rw [ai aC],by unfold World.freeze;rw [ai aC],by unfold World.freeze;rw [ai aC];simp,λk b=>by
  have c:¬p.block=k:=λe=>ae (by rw [e];exact b)
  rw [sM,ai c]⟩
def M4(w:World)(s e:TypeId)(x:Addr)(n c:Nat)(hs:P.underlying s=some (.slice e))(he:P.underlying e=some (.int .u8)){g:TypeId}{aD ah:Nat}(hm:ej w x.block=some (g,m,aD,ah)) :
 (convert s s (.slice (some x) n c)).run P w=.ok (.slice (some x) n c) (w.freeze ⟨x.block,m,none⟩ 1):=by
 unfold ej at hm;cases a:w.heap[x.block]? with
 |none=>rw [a]at hm;cases hm
 |some o =>
  rw [a]at hm;cases o
  case cells b t f =>
   obtain⟨i,h⟩:=f;simp only [a8,bC]at hm;obtain⟨rfl,rfl,rfl,rfl⟩:=hm;have d:w.shape? x.block=some (t,b.size):=by unfold World.shape?;rw [a]
   simp [convert,run_underlying hs,run_underlying he,markStringish,d]
  all_goals cases hm
def M5{D:cV}(j:D.cG P){aR:Nat->Prop}{h Z:T}{aV w:World}(r:cv φ aR h w)(F:Safe aR aV w)(bv:dS aR aV.heap.size){nid:Nat}(hid:∀v,φ nid v=none)(aw:nid<h.M)
 {s d:TypeId} {x:J} {bD:Value} (g:aA φ x bD) (f:mw D s d x nid h=some (v,Z)):mB P φ aR aV h nid v Z (convert s d bD) w:=by
 unfold mw at f;split at f
 .rename_i d4 a5 bs N L;obtain⟨d5,d6,dg,y,I, -, -⟩:=j.get N;obtain⟨a9,bn,ce,H,G, -, -⟩:=j.get L;split at f
  .rename_i e W he;rw [I]at W;rw [G]at he;have:=nT W;subst this;have:=jg he;subst this;split at f
   .rename_i O C;obtain⟨Q,R,U,o,E, -, -⟩:=j.get C;split at f
    .rename_i i;rw [E]at i;have:=sE i;subst this;simp only [a8,bC]at f;obtain⟨rfl,rfl⟩:=f;simp only [aA]at g;obtain⟨t,rfl,rfl⟩:=g;have c9:=Go.run_bytes_of_string (P:=P) w s d e t y H o;have X:t.size<=grownCap w t.size 0 e:=grownCap_ge w t.size 0 e;have d0:(bytesRow t (grownCap w t.size 0 e)).size=grownCap w t.size 0 e:=by simp [bytesRow];omega
     have hlen:(t.data.toList.map λb=>J.int .u8 b.toNat).length=t.size:=by rw [iF,fy];rfl
     have a3:t.data.toList.length=t.size:=by rw [fy];rfl
     have S:dS aR w.heap.size:=bv.le F.size;refine⟨_,_,φ.add nid 0 ⟨w.heap.size,0,0,1,grownCap w t.size 0 e,false,false⟩,c9,fB.add φ _ (hid 0) _,?_,?_,F.drew.alloc (by simpa using S) _,rfl⟩
     .rw [a3];exact aA.hF (ex:=false) (Nat.le_refl _) X (Nat.le_refl _) au
     .have cs:flat (t.data.toList.map λb=>J.int .u8 b.toNat)=t.data.toList.map λb=>J.int .u8 b.toNat:=by
       generalize t.data.toList=l;induction l with
       |nil=>rfl
       |cons a r ih=>simp only [ei,flat,kP,J.cells]at ih⊢; rw [ih];rfl
      have a2:(bytesRow t (grownCap w t.size 0 e)).toList.take ((t.data.toList.map λb=>J.int .u8 b.toNat).length*1)=t.data.toList.map λb=>Value.int .u8 b.toNat:=by rw [hlen,o3];simp [bytesRow,List.take_append,a3]
      refine(r.alike (Alike.sJ w)).Mh hid aw (by simpa using S) (Nat.one_pos) ?_ ?_ (by rw [d0];simp) (by rw [hlen];exact X) ?_ ?_ nofun
      .intro e he;obtain⟨b,_,rfl⟩:=dV.1 he;rfl
      .rw [a2,cs];exact bo.map _ _ _ λb _=>by simp only [aA]
      .rw [a2];intro u hu;obtain⟨_,_,rfl⟩:=dV.1 hu;rfl
      .exact .inr (Nat.le_refl _)
    .cases f
   .cases f
  .cases f
 .rename_i d4 a5 a n c N L;obtain⟨d5,d6,dg,y,I, -, -⟩:=j.get N;obtain⟨a9,bn,ce,H,G, -, -⟩:=j.get L;split at f
  .rename_i e e' z B;rw [I]at z;rw [G]at B;have:=jg z;subst this;have:=jg B;subst this;split at f
   .rename_i O a4 C;obtain⟨Q,R,U,o,E, -, -⟩:=j.get C;split at f
    .rename_i b i k;rw [E]at i;have:=sE i;subst this;split at f
     .rename_i aj;obtain⟨rfl,c5,co,eq⟩:=aj;simp only [a8,bC]at f;obtain⟨rfl,rfl⟩:=f;have d2:=g;simp only [aA]at g;obtain⟨K,cap',rfl,d3,l2,a0⟩:=g;obtain⟨p,ae,el,c4,hex⟩:=a0.plain co;obtain⟨g1,d8,g2,g3,g4,g5,g6,g7,g8⟩:=r.cN _ _ _ ae;rw [k]at g2;simp at g2;subst g2;have am:b.ro=false:=c5;rcases c4 with aM|⟨em,rfl,es⟩
      .omega
      .obtain⟨d7,m,aD,ah,m1,m2⟩:=g8.mark am;exact⟨_,_,φ,M4 w s e (p.at a4.idx 0) n cap' y o m1,fB.refl _ _ _,d2,r.freeze (a:=⟨p.bQ,m,none⟩) ⟨d7,aD,ah,m1,m2⟩ rfl,F.freeze (g8.base (g6 am)),rfl⟩
     .cases f
    .cases f
   .cases f
  .rename_i e z B;rw [I]at z;rw [G]at B;have:=jg z;subst this;have:=nT B;subst this;split at f
   .rename_i O C;obtain⟨Q,R,U,o,E, -, -⟩:=j.get C;split at f
    .rename_i i;rw [E]at i;have:=sE i;subst this;split at f
     .rename_i l ct;cases k:bytesOf l with
      |none=>rw [k]at f;cases f
      |some q =>
       rw [k]at f;simp only [eE,a8,bC]at f;obtain⟨rfl,rfl⟩:=f;obtain⟨news,src,d1,d9⟩:=vC (P:=P) (tx:=s) r g ct (Nat.one_pos) (.inl ⟨e,y⟩);obtain⟨bq,aQ,aZ⟩:=Eo k d1;refine mB.pure r F ?_;cases a with
       |none =>
        simp only [aA]at g;obtain⟨rfl,_,_⟩:=g;have aM:=src.cells;refine⟨.string .empty,?_,?_⟩
        .rw [run_convert_bytes_string w s d e none 0 0 y o H];rfl
        .simp only [aA];refine⟨_,rfl,?_⟩
         have c0:l=[]:=by have:=src.len w;simp [Builtin.lenOf]at this;exact u'.1 this.symm
         subst c0;simp [bytesOf]at k;subst k;rfl
       |some a =>
        simp only [aA]at g;obtain⟨K,cap',rfl,d3,l2,a0⟩:=g
        have c3:l.length=n:=by have:=src.len w;simp [Builtin.lenOf]at this;exact this.symm
        have aM:=src.cells;rw [c3]at aM
        have c2:(loadCells K n).run P w=.ok (bq.map (Value.int .u8)).toArray w:=by rw [aQ]at aM;simpa [Builtin.firstCells]using aM
        refine⟨_,by rw [run_convert_bytes_string w s d e (some K) n cap' y o H];exact run_bytesToString w K n cap' bq c2,?_⟩;simp only [aA];refine⟨_,rfl,?_⟩;rw [Et,aZ];rfl
     .cases f
    .cases f
   .cases f
  .cases f
 .cases f
def M6{args:List J}{f:Array Value}(g:bo φ args f.toList)(h:y0 k args=some v){j:Array Value->Sem Value}(he:sK k=some j)(w:World) :
 ∃m,(j f).run P w=.ok m w/\aA φ v m:=by
 unfold y0 at h;split at h
 .rename_i s c;obtain⟨l⟩:=f;simp only [bo]at g;obtain⟨a,t,rfl,d,b,u,rfl,e,rfl⟩:=g;simp only [aA]at d e;obtain⟨i,rfl,rfl⟩:=d;subst e;split at h
  .simp only [a8]at h;subst h;simp only [sK,a8]at he;subst he;exact⟨_,Go.Lib.run_countString i c w,by simp only [aA]⟩
  .simp only [a8]at h;subst h;simp only [sK,a8]at he;subst he;exact⟨_,Go.Lib.run_indexByteString i c w,by simp only [aA]⟩
  .cases h
 .rename_i s s2;obtain⟨l⟩:=f;simp only [bo]at g;obtain⟨a,t,rfl,d,b,u,rfl,e,rfl⟩:=g;simp only [aA]at d e;obtain⟨i,rfl,rfl⟩:=d;obtain⟨o,rfl,rfl⟩:=e;split at h
  .rename_i n;subst n;simp only [a8]at h;subst h;simp only [sK,a8]at he;subst he;exact⟨_,Go.Lib.run_compareString i o w,by simp only [aA]⟩
  .cases h
 .cases h
def M7(b:fa P E){aR:Nat->Prop}{h Z:T}{aV w:World}{call:cR}(C:ji P aR aV call)(r:cv φ aR h w)(j:Safe aR aV w)(p:dS aR aV.heap.size){nid:Nat}(hid:∀v,φ nid v=none)
 (aw:nid<h.M)   (i:∀x,aA φ (ρ x) (ρ' x)) {o:Oper}  (a:ho E call nid ρ h o.op=some (v,Z)) :
 ek P φ aR aV h nid v Z ((execOp ρ' o).run P w):=by
 unfold ho at a;split at a
 .rename_i S aM;simp only [a8]at a;subst a;exact M2 b C r j p hid aw i aM
 .unfold du at a;split at a
  .rename_i s d x e;exact ek.pq (M5 b.fW r j p hid aw (i x) a) (by simp [execOp,e])
  .rename_i c e;split at a
   .rename_i f D;split at a
    .rename_i g G;split at a
     .rename_i k H;simp only [cb,bC]at a;obtain⟨v1,Y,rfl,rfl⟩:=a;obtain⟨fn,y,u,N,O,Q,R⟩:=b.Es g k H;have l:=i f;rw [G]at l;simp only [aA,bo]at l;obtain⟨n,m,L,q,t⟩:=l;have F:n= #[]:=by cases n;simp at q;subst q;rfl
      have B:m= #[]:=by cases m;simp at t;subst t;rfl
      subst F;subst B;have z:=sL i c.args;have I:=M6 (P:=P) z Y R w;refine ek.gp (s:=y (c.args.map ρ')) r j I ?_;have K:=run_callFunc_extern u (b.names g fn u) N O Q (c.args.map ρ') w;rw [<-K];simp [execOp,e,resolve,D,L,Deferred.ofValue,invoke]
     .cases a
    .cases a
   .cases a
  .cases a
def M8(n:fa P E){aR:Nat->Prop}{h Z:T}{aV w:World}{call:cR}(s:ji P aR aV call)(r:cv φ aR h w)(q:Safe aR aV w)(p:dS aR aV.heap.size){nid:Nat}(hid:∀v,φ nid v=none)
 (aw:nid<h.M)  {a:Act} (u:∀x,aA φ (ρ x) (a.eval x)) {o:Oper}  (t:ho E call nid ρ h o.op=some (v,Z)) {M:Act->World->Prop} {Q:Exit->Act->World->Prop}
 (m:∀l a7 c,fB φ c h.M nid->aA c v l->cv c aR Z a7->Safe aR aV a7->h.M<=Z.M->M (a.put o.dst l) a7):o.wp P a w M Q:=by
 unfold Oper.wp;rcases M7 n s r q p hid aw u t with ⟨l,a7,c,b,d,g,i,j,k⟩|⟨f,args,a7,b,aj⟩
 .rcases b with b|⟨b,rfl⟩
  .rw [b];exact m _ _ _ d g i j k
  .rw [b];exact m _ _ _ d g i j k
 .rw [b]
  exact aj.mono λe z ⟨l,c,y,d,g,i,j,k⟩=>by subst y;exact m _ _ _ d g i j k
end
end
noncomputable section
open Go.RowKit
structure eL(φ:Map)(aR:Nat->Prop)(aV:World)(s:dX)(a:Act)(w:World):Prop where
 dH:bo φ s.dH a.tmps.toList
 heap:cv φ aR s.heap w
 below:Safe aR aV w
 defers:a.defers=[]
section
variable {P:Program}{φ:Map}{E:bi}
def bo.zh{l:List J}{t:Array Value}(h:bo φ l t.toList)(i:Nat):aA φ (l.getD i .undef) (t.getD i undef):=by
 have ag:t.getD i undef=t.toList.getD i undef:=by simp [iG,hC]
 rw [ag];exact h.getD i
variable {a:Act}
def eL.eval{aR:Nat->Prop}{aV w:World}{s:dX}(r:eL φ aR aV s a w)(x:Operand):aA φ (cA s.dH x) (a.eval x):=by
 cases x with
 |tmp t=>exact r.dH.zh t
 |const v=>exact DY φ v
 |global g=>simp [cA,aA]
 |func f=>simp only [cA,aA];exact⟨#[],#[],rfl,by simp [bo],by simp [bo]⟩
def Ev{s:List J}(h:bo φ s a.tmps.toList)(dst:Option Tmp){v:J}{b:Value}(c:aA φ v b):bo φ (fT s dst v) (a.put dst b).tmps.toList:=by
 cases dst with
 |none=>exact h
 |some d =>
  simp only [fT,Act.put,Array.toList_setIfInBounds];exact h.set d c
def put_defers(a:Act)(dst:Option Tmp)(v:Value):(a.put dst v).defers=a.defers:=by cases dst<;>rfl
variable {ops:Array Oper}
def Ew{s:List J}(h:bo φ s a.tmps.toList){o:Oper}{b:Bool}(hw:hp ops s o=some b):Region.wanted o (yielded ops a.tmps)=b:=by
 unfold hp at hw;unfold Region.wanted;split at hw
 .rename_i e;simp at hw;subst hw;simp [e]
 .rename_i j want e;rw [e];simp only;split at hw
  .rename_i d k;unfold yielded;rw [k];simp only [qw];split at hw
   .rename_i c aj;simp at hw;subst hw;obtain⟨v,g,f⟩:=h.get aj;simp only [aA]at f;subst f;have i:a.tmps[d]? =some (.bool c):=by simpa using g
    rw [i];cases c<;>cases want<;>rfl
   .rename_i aj;simp at hw;subst hw;obtain⟨v,g,f⟩:=h.get aj;simp only [aA]at f;obtain⟨xs,rfl,_⟩:=f;have i:a.tmps[d]? =some (.tuple xs):=by simpa using g
    rw [i];cases want<;>rfl
   .cases hw
  .cases hw
variable {Q:Exit->Act->World->Prop}
def Ex(n:fa P E){aR:Nat->Prop}{aV w:World}(p:dS aR aV.heap.size){call:cR}(q:ji P aR aV call){b i:Nat}{s g:dX}(r:eL φ aR aV s a w)
 (hid:b+i<s.heap.M/\∀v,φ (b+i) v=none) (h:nQ E call ops b i s=some g) {K:Act->World->Prop} 
 (d:∀j a7 c,fB φ c s.heap.M (b+i)->eL c aR aV g j a7->s.heap.M<=g.heap.M->K j a7):wpOp P ops Q i K a w:=by
 unfold nQ at h;unfold wpOp;split at h
 .rename_i e;simp at h;subst h;rw [e];exact d a w φ (fB.refl _ _ _) r (Nat.le_refl _)
 .rename_i o e;rw [e];split at h
  .rename_i hw;have f:=Ew r.dH hw;split at h
   .rename_i v ae t;simp at h;subst h;simp only [f,dG];left;refine M8 n q r.heap r.below p hid.2 hid.1 r.eval t λu a7 c Y ag k l m=> ?_
    refine d _ a7 c Y ⟨?_,k,l,by rw [put_defers];exact r.defers⟩ m;exact Ev (r.dH.mono Y.le) _ ag
   .cases h
  .rename_i hw;have f:=Ew r.dH hw;simp at h;subst h;simp only [f,ey,ez];exact d _ w φ (fB.refl _ _ _) ⟨Ev r.dH _ (aA.eR φ),r.heap,r.below,by rw [put_defers];exact r.defers⟩ (Nat.le_refl _)
  .cases h
def Ey(n:fa P E){aR:Nat->Prop}{aV:World}(o:dS aR aV.heap.size){call:cR}(p:ji P aR aV call){b:Nat} :
 ∀{l:List Nat}{s c:dX}{a:Act}{w:World}{φ:Map},lE E call ops b l s=some c->eL φ aR aV s a w->l.Nodup->(∀j∈l,b+j<s.heap.M/\∀v,φ (b+j) v=none) ->
  (∀f a7 m,dM φ m b->eL m aR aV c f a7->s.heap.M<=c.heap.M->Q .normal f a7)->wpOps P ops Q l a w
 |[],s,c,a,w,φ,h,r,_,_,g=>by simp [lE]at h;subst h;simp only [wpOps];exact g a w φ (dM.refl _ _) r (Nat.le_refl _)
 |i ::rest,s,c,a,w,φ,h,r,y,hid,g=>by
  simp only [lE]at h;split at h
  .rename_i s1 Y;rw [wpOps_cons];have t:=qx.1 y;refine Ex n o p r (hid i au) Y λf a7 m d B hle=> ?_
   refine Ey n o p h B t.2 (λj q=> ?_) λD H I x C G=> ?_
   .have u : b + j ≠ b + i := by intro e;have:j=i:= A
                                 subst this;exact t.1 q
    obtain⟨g1,g2⟩:=hid j (by simp [q]);exact⟨A,d.new _ g1 u g2⟩
   .refine g _ _ _ (dM.trans ⟨d.le,λk F z=>d.new k ?_ A z,d.ro⟩ x) C A;have:=(hid i au).1;omega
  .cases h
end
end
noncomputable section
open Go.RowKit
mutual
def J.vF:∀{a b:J},J.same a b=true->a=b:=by
 intro a b h
 cases a<;>cases b<;>simp only [J.same,ey,cC,jB,eP]at h <;>
  first
   |rfl
   |(subst h;rfl)
   |(obtain⟨rfl,rfl⟩:=h;rfl)
   |(obtain⟨⟨rfl,rfl⟩,rfl⟩:=h;rfl)
   |(obtain⟨⟨rfl,Y⟩,ag⟩:=h;rw [J.mC Y,J.mC ag])
   |(obtain⟨rfl,Y⟩:=h;rw [J.vF Y])
   |(rw [J.mC h])
def J.mC:∀{a b:List J},J.jd a b=true->a=b:=by
 intro a b h;cases a<;>cases b<;>simp only [J.jd,ey,cC]at h
 .rfl
 .obtain⟨Y,ag⟩:=h;rw [J.vF Y,J.mC ag]
end
def aa.vF{a b:aa}(h:aa.same a b=true):a=b:=by cases a;cases b;simp only [aa.same,cC,jB]at h;obtain⟨⟨⟨⟨⟨⟨⟨Y,ag⟩,c⟩,d⟩,e⟩,f⟩,g⟩,i⟩:=h;rw [J.mC Y,ag,c,d,e,f,g,i]
mutual
def J.sN:∀(a:J),J.same a a=true
 |.undef=>rfl
 |.bool _=>by simp [J.same]
 |.int _ _=>by simp [J.same]
 |.str _=>by simp [J.same]
 |.ptr _=>by simp [J.same]
 |.slice _ _ _=>by simp [J.same]
 |.func _ f c=>by simp [J.same,J.qP f,J.qP c]
 |.nilFunc=>rfl
 |.iface _ v=>by simp [J.same,J.sN v]
 |.nilIface=>rfl
 |.agg l=>by simp [J.same,J.qP l]
 |.tuple l=>by simp [J.same,J.qP l]
def J.qP:∀(l:List J),J.jd l l=true
 |[]=>rfl
 |a::r=>by simp [J.jd,J.sN a,J.qP r]
end
def aa.sN(a:aa):aa.same a a=true:=by simp [aa.same,J.qP]
def Ez{b6:Nat}{h Z:T}(k:hW b6 h Z=true){i:Nat}(ah:i<b6):Z.get i=h.get i :=
 aI.yS (λ_ _=>aa.vF) b6 Z.aF h.aF 0 1 k i A
def vG{b6:Nat}{h Z:T}(k:∀i,i<b6->Z.get i=h.get i):hW b6 h Z=true :=
 aI.vn aa.sN b6 Z.aF h.aF 0 1 λi ah=>k i A
section
variable {E:bi}{call:cR}
variable {v:J}{o:Op}{ρ:Operand->J}
def kY{nid:Nat}{h Y:T}(aj:cH o=.pure)(e:bt E call nid ρ h o=some (v,Y)) :
 Y=h/\∀(p:Nat)(Z:T),bt E call p ρ Z o=some (v,Z):=by
 cases o<;>simp only [cH,reduceCtorEq]at aj<;>simp only [bt]at e⊢ <;>
  first
   |(simp only [cb,bC,a8]at e
     obtain⟨v1,k,rfl,rfl⟩:=e
     exact⟨rfl,λ_ _=>by rw [k];rfl⟩)
   |(simp only [bC,a8]at e
     obtain⟨rfl,rfl⟩:=e
     exact⟨rfl,λ_ _=>rfl⟩)
   |skip
 .split at e
  .rename_i t n;simp only [bC,a8]at e;obtain⟨rfl,rfl⟩:=e;exact⟨rfl,λ_ _=>by simp only [n]⟩
  .cases e
 .split at e
  .rename_i a j;simp only [bC,a8]at e;obtain⟨rfl,rfl⟩:=e;exact⟨rfl,λ_ _=>by simp only [j]⟩
  .rename_i g fs cs j;simp only [bC,a8]at e;obtain⟨rfl,rfl⟩:=e;exact⟨rfl,λ_ _=>by simp only [j]⟩
  .cases e
 .split at e
  .rename_i d l;split at e
   .cases e
   .rename_i q;simp only [bC,a8]at e;obtain⟨rfl,rfl⟩:=e;refine⟨rfl,λ_ _=> ?_⟩;simp only [l]
  .cases e
 .rename_i fn fs cs;cases fn<;>simp only [bt]at e⊢ <;>first|(cases e;done)|skip
  simp only [bC,a8]at e;obtain⟨rfl,rfl⟩:=e;exact⟨rfl,λ_ _=>rfl⟩
 .split at e
  .rename_i vs k;simp only [cb,bC]at e;obtain⟨v1,Y,rfl,rfl⟩:=e;exact⟨rfl,λ_ _=>by simp only [k,Y,eE]⟩
  .cases e
 .rename_i c;cases i:c.callee with
  |value f=>rw [i]at aj;simp at aj
  |invoke r m=>rw [i]at aj;simp at aj
  |builtin b =>
   rw [i]at aj e;simp only [i];cases b<;>first|(simp at aj;done)|skip
   all_goals
    simp only [eY]at e⊢;split at e
    .simp only [cb,bC]at e;obtain⟨v1,Y,rfl,rfl⟩:=e;exact⟨rfl,λ_ _=>by simp only [Y,eE]⟩
    .cases e
def pr{nid:Nat}{h Y:T}(aj:cH o=.load)(d:bt E call nid ρ h o=some (v,Y)) :
 Y=h/\∃b,ii ρ o=some b/\∀(j:Nat)(Z:T),Z.get b=h.get b->bt E call j ρ Z o=some (v,Z):=by
 cases o<;>simp only [cH,reduceCtorEq]at aj
 .rename_i t x;simp only [bt]at d⊢;split at d
  .rename_i a g;simp only [cb,bC]at d;obtain⟨v1,i,rfl,rfl⟩:=d;refine⟨rfl,a.id,by simp [ii,g],λj Z ab=> ?_⟩;simp only [g,a6,ab]at i⊢;rw [i];rfl
  .cases d
 .rename_i c;cases e:c.callee with
  |value f=>rw [e]at aj;simp at aj
  |invoke r m=>rw [e]at aj;simp at aj
  |builtin b=>rw [e]at aj;cases b<;>simp at aj
def EA{nid:Nat}{h Y:T}(aj:cH o=.store)(e:bt E call nid ρ h o=some (v,Y)) :
 ∃s b,kW ρ o=some s/\Y=h.set s b/\True:=by
 cases o<;>simp only [cH,reduceCtorEq]at aj
 .rename_i t x y;simp only [bt]at e;split at e
  .rename_i a i;simp only [cb,bC]at e;obtain⟨ag,d,rfl,rfl⟩:=e;unfold gz at d;split at d
   .split at d
    .split at d
     .split at d
      .simp only [a8]at d;exact⟨a.id,_,by simp [kW,i],d.symm,trivial⟩
      .cases d
     .cases d
    .cases d
   .cases d
  .cases e
 .rename_i c;cases g:c.callee with
  |value f=>rw [g]at aj;simp at aj
  |invoke r m=>rw [g]at aj;simp at aj
  |builtin b=>rw [g]at aj;cases b<;>simp at aj
def pt{nid:Nat}{h Y:T}(aj:cH o=.alloc)(a:bt E call nid ρ h o=some (v,Y)) :
 ∃b,Y=h.set nid b/\∀(Z:T),bt E call nid ρ Z o=some (v,Z.set nid b):=by
 cases o<;>simp only [cH,reduceCtorEq]at aj
 .rename_i t;simp only [bt]at a⊢;split at a
  .rename_i d k;split at a
   .rename_i z i;split at a
    .rename_i g;simp only [bC,a8]at a;obtain⟨rfl,rfl⟩:=a;exact⟨_,rfl,λZ=>by simp only [g,dG]⟩
    .cases a
   .cases a
  .cases a
 .rename_i t x;simp only [bt]at a⊢;split at a
  .rename_i d k;split at a
   .rename_i g;simp only [bC,a8]at a;obtain⟨rfl,rfl⟩:=a;exact⟨_,rfl,λZ=>by simp only [g,dG]⟩
   .cases a
  .cases a
 .rename_i t n parts;simp only [bt,jE]at a⊢;split at a
  .rename_i d k;split at a
   .rename_i e he;split at a
    .rename_i x p;split at a
     .rename_i z i;split at a
      .rename_i g;split at a
       .rename_i l q;simp only [bC,a8]at a;obtain⟨rfl,rfl⟩:=a;refine⟨_,rfl,λZ=> ?_⟩;simp only [he,p,i,g,q,and_self,dG]
       .cases a
      .cases a
     .cases a
    .cases a
   .cases a
  .cases a
 .rename_i t l c;simp only [bt,sw]at a⊢;split at a
  .rename_i d s n u m k q hm;split at a
   .rename_i e he;split at a
    .rename_i x p;split at a
     .rename_i z i;split at a
      .rename_i g;simp only [bC,a8]at a;obtain⟨rfl,rfl⟩:=a;refine⟨_,rfl,λZ=> ?_⟩;simp only [he,p,i,g,and_self,dG]
      .cases a
     .cases a
    .cases a
   .cases a
  .cases a
 .rename_i c;cases j:c.callee with
  |value f=>rw [j]at aj;simp at aj
  |invoke r m=>rw [j]at aj;simp at aj
  |builtin b=>rw [j]at aj;cases b<;>simp at aj
def qQ{ρ':Operand->J}{xs:Array Operand}(h:∀x∈xs.toList,ρ x=ρ' x):xs.toList.map ρ=xs.toList.map ρ':=i' h
def zi{ρ':Operand->J}{o:Option Operand}(h:∀x∈o.toList,ρ x=ρ' x):o.map ρ=o.map ρ':=by
 cases o with
 |none=>rfl
 |some x=>simp [h x au]
def zj{nid:Nat}{ρ':Operand->J}{h:T}(a:∀x∈o.operands.toList,ρ x=ρ' x):bt E call nid ρ h o=bt E call nid ρ' h o:=by
 cases o
 case call c =>
  simp only [Op.operands,Call.operands,mr,hi]at a;simp only [bt];have e:=qQ (xs:=c.args) (λx d=>a x (.inr d));cases i:c.callee with
  |value f =>
   rw [i]at a;simp only [e,a f (.inl au)]
  |invoke r m=>rfl
  |builtin b=>simp only [e]
 case makeFunc fn fs cs =>
  simp only [Op.operands,mr,hi]at a;cases fn<;>simp only [bt];rw [qQ (xs:=fs) (λx d=>a x (.inl d)),qQ (xs:=cs) (λx d=>a x (.inr d))]
 case slice t x aD ah mx =>
  simp only [Op.operands,mr,hi]at a;simp only [bt];rw [a x au,zi (o:=aD) (λy g=>a y (by simp_all)),zi (o:=ah) (λy g=>a y (by simp_all)),zi (o:=mx) (λy g=>a y (by simp_all))]
 case build t parts =>
  have ae:(parts.toList.map λp=>(p.1,ρ p.2))=parts.toList.map λp=>(p.1,ρ' p.2):=by
   refine i' λp ae=> ?_
   rw [a p.2 (by simp only [Op.operands];exact dV.2 ⟨p,ae,rfl⟩)]
  simp only [bt,ae]
 case buildSlice t n parts =>
  have ae:(parts.toList.map λp=>(p.1,ρ p.2))=parts.toList.map λp=>(p.1,ρ' p.2):=by
   refine i' λp ae=> ?_
   rw [a p.2 (by simp only [Op.operands];exact dV.2 ⟨p,ae,rfl⟩)]
  simp only [bt,ae]
 all_goals first
  |rfl
  |(simp only [bt,Op.operands]at a⊢; simp_all)
def jJ(acc:Array Nat)(o:Oper):Nat:=o.after.toList.foldl (λs e=>if gM e then s ||| 2^e.on ||| acc.getD e.on 0 else s) 0
def zk:∀(l:List Oper)(acc:Array Nat)(k:Nat),k<acc.size->(l.foldl (λacc o=>acc.push (jJ acc o)) acc).getD k 0=acc.getD k 0
 |[],acc,k,h=>rfl
 |o::r,acc,k,h=>by simp only [hT];rw [zk r _ k (by simp;omega)];simp [iG,si,Nat.ne_of_lt h]
def M9{a b:Array Nat}{o:Oper}(h:∀e∈o.after.toList,gM e=true->a.getD e.on 0=b.getD e.on 0):jJ a o=jJ b o:=by
 unfold jJ
 have key:∀(l:List Edge)(s:Nat),(∀e∈l,gM e=true->a.getD e.on 0=b.getD e.on 0) ->
  l.foldl (λs e=>if gM e then s ||| 2^e.on ||| a.getD e.on 0 else s) s=l.foldl (λs e=>if gM e then s ||| 2^e.on ||| b.getD e.on 0 else s) s:=by
  intro l;induction l with
  |nil=>intro s _;rfl
  |cons e r ih =>
   intro s c;simp only [hT]
   have:(if gM e then s ||| 2^e.on ||| a.getD e.on 0 else s)=(if gM e then s ||| 2^e.on ||| b.getD e.on 0 else s):=by
    cases d:gM e
    .rfl
    .simp only [dG];rw [c e au d]
   rw [this,ih _ (λe he=>c e (by simp [he]))]
 exact key _ 0 h
def fold_at:∀(l:List Oper)(acc:Array Nat)(m:Nat)(o:Oper),l[m]? =some o->(∀e∈o.after.toList,gM e=true->e.on<acc.size+m) ->
 (l.foldl (λacc o=>acc.push (jJ acc o)) acc).getD (acc.size+m) 0=jJ (l.foldl (λacc o=>acc.push (jJ acc o)) acc) o
 |[],acc,m,o,h,_=>by simp at h
 |a::r,acc,0,o,h,he=>by
  simp at h;subst h;simp only [hT,qq];rw [zk r _ acc.size au];have:(acc.push (jJ acc a)).getD acc.size 0=jJ acc a:=by simp [iG]
  rw [this];refine M9 λe hm b=> ?_
  have c:=he e hm b;rw [zk r _ e.on (by simp;omega)];simp [iG,si];rw [ai A]
 |a::r,acc,m+1,o,h,he=>by simp at h;simp only [hT];have:=fold_at r (acc.push (jJ acc a)) m o h (λe hm b=>by have:=he e hm b;simp;omega);simp only [Array.size_push]at this;rw [show acc.size+(m+1)=acc.size+1+m by omega];exact this
variable {i j:Nat}
def EB{acc:Array Nat} :∀(l:List Edge)(s:Nat),(l.foldl (λs e=>if gM e then s ||| 2^e.on ||| acc.getD e.on 0 else s) s).testBit i=true ->
 s.testBit i=true\/ ∃e∈l,gM e=true/\(e.on=i\/(acc.getD e.on 0).testBit i=true)
 |[],s,h=> .inl h
 |e ::r,s,h=>by
  simp only [hT]at h;rcases EB r _ h with Y|⟨e',Y,ag⟩
  .cases a:gM e
   .rw [a]at Y;exact .inl (by simpa using Y)
   .rw [a]at Y;simp only [dG,Nat.testBit_or,eC]at Y;rcases Y with (Y|Y)|Y
    .exact .inl Y
    .right;rw [Nat.testBit_two_pow]at Y;exact⟨e,au,a,.inl (by simpa using Y)⟩
    .exact .inr ⟨e,au,a,.inr Y⟩
  .exact .inr ⟨e',by simp [Y],ag⟩
def jK(ops:Array Oper):Prop:= ∀(j:Nat)(o:Oper),ops[j]? =some o-> ∀e∈o.after.toList,gM e=true->e.on<j
variable {ops:Array Oper}
def EC(c:jK ops){o:Oper}(a:ops[j]? =some o)(h:ordered (cW ops) i j=true) :
 ∃e∈o.after.toList,gM e=true/\(e.on=i\/ordered (cW ops) i e.on=true):=by
 unfold ordered at h;have:=fold_at ops.toList #[] j o (by simpa using a) (λe he b=>by have:=c j o a e he b;simp;omega);simp only [List.size_toArray,cq,gw]at this;have aQ:cW ops=ops.toList.foldl (λacc o=>acc.push (jJ acc o)) #[]:=rfl;rw [aQ,this]at h;rcases EB _ _ h with Y|Y
 .simp at Y
 .exact Y
def ED(c:ops[j]? =none):ordered (cW ops) i j=false:=by
 have d:∀(l:List Oper)(acc:Array Nat),(l.foldl (λacc o=>acc.push (jJ acc o)) acc).size=acc.size+l.length:=by
  intro l;induction l with
  |nil=>intro acc;rfl
  |cons a r ih=>intro acc;simp only [hT,ih,Array.size_push,bK];omega
 have aQ:cW ops=ops.toList.foldl (λacc o=>acc.push (jJ acc o)) #[]:=rfl;have b:ops.size<=j:=by simpa using c
 unfold ordered;rw [aQ,iG,o' (by rw [d];simpa using b)];simp
def M'(b:jK ops):∀(j:Nat){i:Nat},ordered (cW ops) i j=true->i<j:=by
 intro j;induction j using Nat.strongRecOn with
 |_ j ih =>
  intro i h;cases a:ops[j]? with
  |none=>rw [ED a]at h;cases h
  |some o =>
   obtain⟨e,he,c,aj⟩:=EC b a h;have:=b j o a e he c;rcases aj with rfl|aj
   .exact this
   .have:=ih e.on this aj;omega
def EE(ops:Array Oper)(listed:Array Bool):Prop:= ∀(j:Nat)(o:Oper),listed.getD j false=true->ops[j]? =some o-> ∀e∈o.after.toList,gM e=true->listed.getD e.on false=true
def Na(d:jK ops){listed:Array Bool}(aj:EE ops listed):∀(j:Nat)(o:Oper),ops[j]? =some o->(∀e∈o.after.toList,gM e=true->listed.getD e.on false=true) ->
 ∀{i:Nat},ordered (cW ops) i j=true->listed.getD i false=true:=by
 intro j;induction j using Nat.strongRecOn with
 |_ j ih =>
  intro o f ae i h;obtain⟨e,he,c,a⟩:=EC d f h;have k:=d j o f e he c;have hle:=ae e he c;rcases a with rfl|a
  .exact hle
  .cases b:ops[e.on]? with
   |none=>rw [ED b]at a;cases a
   |some g=>exact ih e.on k g b (aj e.on g hle b) a
def kl(E:bi)(call:cR)(ops:Array Oper)(b j:Nat)(o:Oper)(a:List J)(h:T):Option (J×T) :=
 match hp ops a o with
 |some true=>ee E call ops b j (cA a) h o.op
 |some false=>some (eR,h)
 |none=>none
def vH{a:Nat}{o:Oper}(c:ops[j]? =some o)(s:dX) :
 jG E call ops a j s=(kl E call ops a j o s.dH s.heap).map λp=>⟨fT s.dH o.dst p.1,p.2⟩:=by
 unfold jG kl;rw [c];simp only;cases hp ops s.dH o with
 |none=>rfl
 |some b =>
  cases b with
  |false=>rfl
  |true =>
   simp only;cases ee E call ops a j (cA s.dH) s.heap o.op with
   |none=>rfl
   |some p=>rfl
def sO{b:Nat}{h:T}{Z:T}(a:ee E call ops b j ρ h o=some (v,Z)) :
 bt E call (b+j) ρ h o=some (v,Z)\/(cH o=.pure/\fV o=true/\(je ops j=true\/gB ops b j ρ o=true)/\bt E call (b+j) ρ h o=none):=by
 unfold ee at a;split at a
 .split at a
  .split at a
   .exact .inl a
   .cases a
  .cases a
 .split at a
  .split at a
   .cases a
   .exact .inl a
  .cases a
 .split at a
  .rename_i v1 Y he;split at a
   .split at a
    .rw [he];exact .inl a
    .cases a
   .rw [he];exact .inl a
  .cases a
 .split at a
  .exact .inl a
  .cases a
 .rename_i aj;split at a
  .rename_i r he;rw [he];exact .inl a
  .rename_i he;split at a
   .rename_i c;exact .inr ⟨aj,c.1,c.2,he⟩
   .cases a
 .exact .inl a
def vI{c:Nat}{h:T}{Z:T}(a:ee E call ops c j ρ h o=some (v,Z)):ho E call (c+j) ρ h o=some (v,Z):=by
 rcases sO a with Y|⟨Y,ag,d,b⟩
 .unfold ho;rw [Y]
 .unfold ee at a;rw [Y]at a;simp only [b]at a;rw [az ⟨ag,d⟩]at a;unfold ho;rw [b];exact a
def zl(hs:je ops j=true)(ah:i<ops.size)(a:i≠j)(Y:ordered (cW ops) i j=false)(ag:ordered (cW ops) j i=false){o:Oper}(b:ops[i]? =some o):cH o.op=.pure/\fV o.op=false:=by
 unfold je at hs;have:=ea.1 hs i (er.2 ah);simp only [Y,ag,b,Bool.or_false]at this;simp only [eC,jB,cC,eP,gV]at this;rcases this with h|h
 .exact absurd h a
 .exact h
def zm{es:Nat}{x:J}{h Z:T}(b:∀k∈fU x,Z.get k=h.get k):ed es x Z=ed es x h:=by
 unfold ed;split
 .rfl
 .rename_i a len c;have e:Z.get a.id=h.get a.id:=b a.id (by simp [fU]);rw [e]
 .rfl
 .rfl
def qR{D:cV}{t:TypeId}{s x:J}{nid:Nat}{h Y:T}(c:fA D t s x nid h=some (v,Y)) :
 (Y=h/\∀Z,(∀k∈fU s++fU x,Z.get k=h.get k)->fA D t s x nid Z=some (v,Z)) \/
 ∃id b,(id=nid\/id∈fU s++fU x)/\Y=h.set id b/\∀Z,(∀k∈fU s++fU x,Z.get k=h.get k)->fA D t s x nid Z=some (v,Z.set id b):=by
 have i:∀{Z},(∀k∈fU s++fU x,Z.get k=h.get k)->(∀es,ed es s Z=ed es s h)/\(∀es,ed es x Z=ed es x h):=λ{Z} f =>
  ⟨λes=>zm λk g=>f k (List.mem_append_left _ g),λes=>zm λk g=>f k (List.mem_append_right _ g)⟩
 unfold fA at c;split at c
 .rename_i d base len cap j;split at c
  .rename_i e g;split at c
   .rename_i cg m;split at c
    .rename_i new l;simp only at c;split at c
     .rename_i aj;split at c
      .split at c
       .rename_i aM;simp only [a8,bC]at c;obtain⟨rfl,rfl⟩:=c;refine .inl ⟨rfl,λZ f=> ?_⟩;have:=(i f).2 cg.size;unfold fA;simp only [j,g,m,this,l];rw [az aj,az aM]
       .rename_i aM;split at c
        .rename_i ag;simp only [a8,bC]at c;obtain⟨rfl,rfl⟩:=c;refine .inr ⟨nid,_,.inl rfl,rfl,λZ f=> ?_⟩;have:=(i f).2 cg.size;unfold fA;simp only [j,g,m,this,l];rw [az aj,ai aM,az ag]
        .cases c
      .rename_i a;split at c
       .rename_i o;split at c
        .rename_i b q;have ab:∀{Z:T},(∀k∈fU (.slice (some a) len cap)++fU x,Z.get k=h.get k)->Z.get a.id=some b:=λ{Z} f=>by rw [f a.id (by simp [fU]),q]
         split at c
         .rename_i n;split at c
          .rename_i aM;simp only [a8,bC]at c;obtain⟨rfl,rfl⟩:=c;refine .inl ⟨rfl,λZ f=> ?_⟩;have:=(i f).2 cg.size;unfold fA;simp only [j,g,m,this,l,ab f];rw [az aj,az o,az n,az aM]
          .rename_i aM;split at c
           .rename_i p;simp only [a8,bC]at c;obtain⟨rfl,rfl⟩:=c;refine .inr ⟨a.id,_,.inr (by simp [fU]),rfl,λZ f=> ?_⟩;have:=(i f).2 cg.size;unfold fA;simp only [j,g,m,this,l,ab f];rw [az aj,az o,az n,ai aM,az p]
           .cases c
         .rename_i n;split at c
          .rename_i hex;split at c
           .rename_i old ay;simp only [a8,bC]at c;obtain⟨rfl,rfl⟩:=c;refine .inr ⟨nid,_,.inl rfl,rfl,λZ f=> ?_⟩;have aQ:=(i f).2 cg.size;have aZ:=(i f).1 cg.size;unfold fA;simp only [j,g,m,aQ,l,ab f];rw [az aj,az o,ai n,az hex];simp only [aZ,ay]
           .cases c
          .rename_i hex;split at c
           .rename_i p;simp only [a8,bC]at c;obtain⟨rfl,rfl⟩:=c;refine .inr ⟨a.id,_,.inr (by simp [fU]),rfl,λZ f=> ?_⟩;have:=(i f).2 cg.size;unfold fA;simp only [j,g,m,this,l,ab f];rw [az aj,az o,ai n,ai hex,az p]
           .cases c
        .cases c
       .cases c
     .cases c
    .cases c
   .cases c
  .cases c
 .cases c
def EF{nid:Nat}{h Y:T}(aj:cH o=.e9)(a:bt E call nid ρ h o=some (v,Y)) :
 (Y=h/\∀Z,(∀k∈gn ρ o,Z.get k=h.get k)->bt E call nid ρ Z o=some (v,Z)) \/
 ∃id b,(id=nid\/id∈gn ρ o)/\Y=h.set id b/\∀Z,(∀k∈gn ρ o,Z.get k=h.get k)->bt E call nid ρ Z o=some (v,Z.set id b):=by
 cases o<;>simp only [cH,reduceCtorEq]at aj;rename_i c;obtain⟨callee,args,ts⟩:=c;cases callee<;>simp only [reduceCtorEq]at aj;rename_i b;cases b<;>simp only [reduceCtorEq]at aj;simp only [bt,eY]at a⊢;split at a
 .rename_i s x t u d g hu;have f:gn ρ (.call ⟨.builtin .append,args,ts⟩)=fU s++fU x:=by simp [gn,d]
  rw [f];split at a
  .rename_i j i;split at a
   .rename_i e he;first|exact qR a|(rw [he];exact qR a)|(have:=qR a;simpa [he]using this)
   .rename_i he;first|exact qR a|(rw [he];exact qR a)|(have:=qR a;simpa [he]using this)
   .cases a
  .cases a
 .cases a
def Nb{a:List J}{d:Tmp}{x:Operand}(h:∀t,x=.tmp t->t≠d):cA (a.set d v) x=cA a x:=by
 cases x with
 |tmp t =>
  have:d≠t:=λe=>h t rfl e.symm
  simp [cA,hC,qo this]
 |const v=>rfl
 |global g=>rfl
 |func f=>rfl
def Nc{xs:List Operand}{t:Tmp}(h:Operand.tmp t∈xs):t∈tmpsOf xs:=by unfold tmpsOf;exact List.mem_filterMap.2 ⟨_,h,rfl⟩
def Nd{l:Nat}{o:Oper}{f:List J}{d:Tmp}{h:T}(n:d ∉ pi ops o) :
 kl E call ops l j o (f.set d v) h=kl E call ops l j o f h:=by
 unfold pi at n;simp only [hi,not_or]at n;obtain⟨s,p⟩:=n
 have i:∀x∈o.op.operands.toList,cA (f.set d v) x=cA f x:=λx q=>Nb λt F e=>by subst F e;exact s (Nc q)
 have hw:hp ops (f.set d v) o=hp ops f o:=by
  unfold hp;split
  .rfl
  .rename_i g want ab;rw [ab]at p;split
   .rename_i H u;simp only [u,Option.toList_some,cF]at p;rw [qo (λe=>p e)]
   .rfl
 unfold kl;rw [hw];have B:∀nid,bt E call nid (cA (f.set d v)) h o.op=bt E call nid (cA f) h o.op:=λnid=>zj i
 have z:ii (cA (f.set d v)) o.op=ii (cA f) o.op:=by cases k:o.op<;>simp only [ii];rename_i t x;rw [k]at i;rw [i x (by simp [Op.operands])]
 have D:kW (cA (f.set d v)) o.op=kW (cA f) o.op:=by cases k:o.op<;>simp only [kW];rename_i t x y;rw [k]at i;rw [i x (by simp [Op.operands])]
 have w:ee E call ops l j (cA (f.set d v)) h o.op=ee E call ops l j (cA f) h o.op:=by
  have r:gn (cA (f.set d v)) o.op=gn (cA f) o.op:=by cases k:o.op<;>simp only [gn];rename_i c;rw [k]at i;rw [qQ (ρ:=cA (f.set d v)) (ρ':=cA f) λx q=>i x (by simp only [Op.operands,Call.operands];cases c.callee<;>simp [q])]
  have G:fV o.op=true->du E (l+j) (cA (f.set d v)) h o.op=du E (l+j) (cA f) h o.op:=by intro m;cases k:o.op<;>rw [k]at m<;>simp only [fV,reduceCtorEq]at m;simp only [du];rename_i a b x;rw [k]at i;rw [i x (by simp [Op.operands])]
  have C:gB ops l j (cA (f.set d v)) o.op=gB ops l j (cA f) o.op:=by
   have:kX (cA (f.set d v)) o.op=kX (cA f) o.op:=by cases k:o.op<;>simp only [kX];rename_i a b x;rw [k]at i;rw [i x (by simp [Op.operands])]
   unfold gB;rw [this]
  unfold ee;rw [B,z,D,r,C];by_cases m:fV o.op=true
  .rw [G m]
  .simp only [m,ey,false_and,ez]
 rw [w]
def EG{a:Nat}{o x:Oper}{b:List J}{h:T}(c:∀d,x.dst=some d->d ∉ pi ops o) :
 kl E call ops a j o (fT b x.dst v) h=kl E call ops a j o b h:=by
 cases e:x.dst with
 |none=>rfl
 |some d=>exact Nd (c d e)
def Nf{a:List J}{x y:Oper}{u:J}(h:∀d,x.dst=some d->y.dst≠some d):fT (fT a x.dst v) y.dst u=fT (fT a y.dst u) x.dst v:=by
 cases c:x.dst with
 |none=>rfl
 |some d =>
  cases f:y.dst with
  |none=>rfl
  |some e =>
   have b:d≠e:=λhe=>h d c (by rw [f,he])
   simp only [fT];exact List.set_comm _ _ b
def set_comm{a b:Nat}(c:a≠b)(h:T)(x y:aa):(h.set a x).set b y=(h.set b y).set a x:=by unfold T.set;simp only [aI.set_comm x y h.aF a b c]
def sP(call:cR):Prop:= ∀f args h v Z,call f args h=some (v,Z)->Z=h/\∀ag,call f args ag=some (v,ag)
def zn:sy->sy->Bool
 |.call,.alloc|.alloc,.call=>true
 |_,_=>false
def EH{nid:Nat}{h Y:T}(d:sP call)(aj:cH o=.call)(a:bt E call nid ρ h o=some (v,Y)):Y=h/\∀ag,bt E call nid ρ ag o=some (v,ag):=by
 cases o<;>simp only [cH,reduceCtorEq]at aj;rename_i c;obtain⟨callee,args,ts⟩:=c;cases callee with
 |value f =>
  simp only [bt,kV]at a⊢;split at a
  .exact d _ _ _ _ _ a
  .cases a
 |builtin b=>cases b<;>simp only [reduceCtorEq]at aj
 |_=>simp only [reduceCtorEq]at aj
structure nW(call:cR)(ops:Array Oper)(x i:Nat):Prop where
 lt:x<i
 ah:i<ops.size
 no:ordered (cW ops) x i=false
 pair:∀fb en,ops[x]? =some fb->ops[i]? =some en->(y1 (cH fb.op) (cH en.op)=true\/sP call/\zn (cH fb.op) (cH en.op)=true)/\sA ops fb en=true
def apart_spec{x y:Oper}(h:sA ops x y=true):(∀d,x.dst=some d->d ∉ pi ops y)/\(∀d,y.dst=some d->d ∉ pi ops x)/\(∀d,x.dst=some d->y.dst≠some d):=by
 unfold sA at h;simp only [cC]at h;obtain⟨Y,ag⟩:=h;refine⟨λd a=> ?_,λd a=> ?_,λd a=> ?_⟩
 .rw [a]at Y;simp at Y;exact Y.1
 .rw [a]at ag;simp at ag;exact ag
 .rw [a]at Y;simp at Y;exact Y.2
def sQ{x:Nat}{en:Oper}(h:nR ops x=true)(a:ops[i]? =some en)(ah:i<ops.size)(ne:i≠x)(b:ordered (cW ops) x i=false)(c:ordered (cW ops) i x=false)(cL:cH en.op≠ .pure)(c2:cH en.op≠ .load):False:=by
 have:=ea.1 h i (er.2 ah);simp only [b,c,a,Bool.or_false,eC,jB,eP]at this;rcases this with h|h|h
 .exact ne h
 .exact cL h
 .exact c2 h
def EI{a x:Nat}{fb en:Oper}(m:ops[x]? =some fb)(f:ops[i]? =some en)(l:cH fb.op=.load)(c:cH en.op=.store)(j:ordered (cW ops) x i=false)(k:ordered (cW ops) i x=false)(r:x<ops.size)(ah:i<ops.size)
  {h ag:T} {t:J} {b jL:Nat} (p:∃b,ii ρ fb.op=some b/\(nR ops x=true\/b<a\/(b<a+ops.size/\ordered (cW ops) (b-a) x=true/\mz ops (cW ops) x=false))) (n:ii ρ fb.op=some b)
 (d:ee E call ops a i ρ h en.op=some (t,ag)) (hs:kW ρ en.op=some jL):b<a/\a<=jL:=by
 have s:mz ops (cW ops) x=true:=by unfold mz;rw [va];refine⟨i,er.2 ah,?_⟩;rw [f];simp [c,j,k]
 have l2:jF ops (cW ops) i=true:=by unfold jF;rw [va];refine⟨x,er.2 r,?_⟩;rw [m];simp [l,j,k]
 refine⟨?_,?_⟩
 .obtain⟨u,g,aj⟩:=p;rw [n]at g;simp only [a8]at g;subst g;rcases aj with aj|aj|⟨_,_,aj⟩
  .exact(sQ aj f ah (λe=>by subst e;rw [m]at f;cases f;rw [l]at c;cases c) j k (by rw [c];decide) (by rw [c];decide)).elim
  .exact aj
  .rw [s]at aj;cases aj
 .unfold ee at d;rw [c]at d;simp only [hs]at d;split at d
  .cases d
  .rename_i aj;rcases gK jL a with q|o
   .exact absurd ⟨l2,q⟩ aj
   .exact o
def zo{a:Nat}(h:gB ops a j ρ o=true):∃x,kX ρ o=some x/\(∀b∈fU x,∀k,ordered (cW ops) k j=false->b≠a+k) /\
 ∀i y,i<ops.size->i≠j->ordered (cW ops) i j=false->ordered (cW ops) j i=false->ops[i]? =some y->cH y.op=.pure\/cH y.op=.load\/cH y.op=.alloc:=by
 unfold gB at h;split at h
 .rename_i x g;simp only [cC]at h;refine⟨x,g,λb c k d e=> ?_,λi y ah f Y ag l=> ?_⟩
  .have:=ea.1 h.1 b c;simp only [eC,cC,eP]at this;subst e;rcases this with h|⟨_,h⟩
   .omega
   .rw [show a+k-a=k by omega,d]at h;cases h
  .have:=ea.1 h.2 i (er.2 ah);simp only [Y,ag,l,Bool.or_false,eC,jB,eP]at this;rcases this with h|(h|h)|h
   .exact absurd h f
   .exact .inl h
   .exact .inr (.inl h)
   .exact .inr (.inr h)
 .cases h
def zp{nid:Nat}{h Y:T}{x:J}(g:kX ρ o=some x)(f:du E nid ρ h o=some (v,Y)) :
 Y=h/\∀(m:Nat)(Z:T),(∀k∈fU x,Z.get k=h.get k)->du E m ρ Z o=some (v,Z):=by
 cases o<;>simp only [kX,reduceCtorEq]at g;rename_i s d y;split at g
 .rename_i a n c C;simp only [a8]at g;subst g;simp only [du,C,mw]at f⊢;cases hs:E.D s with
  |none=>rw [hs]at f;simp at f
  |some G =>
   cases q:E.D d with
   |none=>rw [hs,q]at f;simp at f
   |some t =>
    simp only [hs,q]at f⊢;cases w:G.kind<;>cases z:t.kind<;>simp only [w,z,reduceCtorEq]at f⊢
    ·
      rename_i e;cases he:E.D e with
      |none=>rw [he]at f;simp at f
      |some p =>
       simp only [he]at f⊢;cases i:p.kind<;>simp only [i,reduceCtorEq]at f⊢;rename_i F;cases F<;>simp only [reduceCtorEq]at f⊢;split at f
       .rename_i l B;simp only [cb,bC]at f;obtain⟨u,hu,rfl,rfl⟩:=f;refine⟨rfl,λm Z j=> ?_⟩;rw [zm j,B];simp only [hu,eE]
       .cases f
    ·
      rename_i e aZ;cases he:E.D e with
      |none=>rw [he]at f;simp at f
      |some p =>
       cases a with
       |none=>rw [he]at f;simp at f
       |some r =>
        simp only [he]at f⊢;split at f
        .rename_i b i ab;split at f
         .rename_i aj;simp only [a8,bC]at f;obtain⟨rfl,rfl⟩:=f;refine⟨rfl,λm Z j=> ?_⟩;rw [j r.id (by simp [fU]),i,ab];simp only;rw [az aj]
         .cases f
        .cases f
 .cases g
def Ng{nid:Nat}{h:T}(aj:fV o=true)(a:bt E call nid ρ h o=none)(b:Nat)(Z:T):bt E call b ρ Z o=none:=by cases o<;>simp only [fV,reduceCtorEq]at aj;simp only [bt,Option.map_eq_none_iff]at a⊢;exact a
def Nh(eq:jK ops){g x:Nat}(m:nW call ops x i){fb en:Oper}(F:ops[x]? =some fb)(H:ops[i]? =some en){p:List J}{h I ag:T}{a4 a3:J}
 (Y:kl E call ops g x fb p h=some (a4,I)) (ah:kl E call ops g i en p I=some (a3,ag)) :
 ∃d2,kl E call ops g i en p h=some (a3,d2)/\kl E call ops g x fb p d2=some (a4,ag):=by
 obtain⟨f,f1⟩:=m.pair fb en F H
 have s:ordered (cW ops) i x=false:=by
  cases w:ordered (cW ops) i x with
  |false=>rfl
  |true=>have:=M' eq x w;have:=m.lt;omega
 unfold kl at Y ah⊢;cases d6:hp ops p fb with
 |none=>rw [d6]at Y;cases Y
 |some d9 =>
  cases d5:hp ops p en with
  |none=>rw [d5]at ah;cases ah
  |some d7 =>
   rw [d6]at Y;rw [d5]at ah;cases d9 with
   |false =>
    simp only [a8,bC]at Y;obtain⟨rfl,rfl⟩:=Y;exact⟨ag,ah,rfl⟩
   |true =>
    cases d7 with
    |false =>
     simp only [a8,bC]at ah;obtain⟨rfl,rfl⟩:=ah;exact⟨h,rfl,Y⟩
    |true =>
     simp only at Y ah⊢;have ct:x<ops.size:=by have:=m.lt;have:=m.ah;omega
     have G:∀{j:Nat}{o:Oper}{h:T}{r:J×T},cH o.op=.pure->bt E call (g+j) (cA p) h o.op=some r->ee E call ops g j (cA p) h o.op=some r:=by intro j o h r aj K;unfold ee;rw [aj];simp only [K]
     have c9:∀{j:Nat}{o:Oper}{h aM:T}{r:J×T},cH o.op=.pure->fV o.op=true->(je ops j=true\/gB ops g j (cA p) o.op=true)->bt E call (g+j) (cA p) aM o.op=none->du E (g+j) (cA p) h o.op=some r->ee E call ops g j (cA p) h o.op=some r:=by intro j o h aM r aj ah hs K I;unfold ee;rw [aj];simp only [Ng ah K (g+j) h];rw [az ⟨ah,hs⟩];exact I
     rcases sO Y with B|⟨el,bn,Q,d1⟩
     rotate_left
     ·
       have f0:du E (g+x) (cA p) h fb.op=some (a4,I):=by have:=vI Y;unfold ho at this;rw [d1]at this;exact this
       rcases Q with Q|Q
       .obtain⟨X,a2⟩:=zl Q m.ah (by have:=m.lt;omega) s m.no H;rcases sO ah with q|⟨_,cy,_,_⟩
        .obtain⟨rfl,n⟩:=kY X q;refine⟨h,G X (n _ _),Y⟩
        .rw [a2]at cy;cases cy
       .obtain⟨y,c0,bs,co⟩:=zo Q;obtain⟨rfl,n⟩:=zp c0 f0;have em:=co i en m.ah (by have:=m.lt;omega) s m.no H;have back:∀ag:T,(∀k∈fU y,ag.get k=I.get k)->ee E call ops g x (cA p) ag fb.op=some (a4,ag):=λag ab=>c9 el bn (.inr Q) d1 (n _ ag ab)
        rcases sO ah with q|⟨dg,d0,C,a0⟩
        .rcases em with c|c|c
         .obtain⟨rfl,_⟩:=kY c q;exact⟨_,ah,back _ λ_ _=>rfl⟩
         .obtain⟨rfl,_⟩:=pr c q;exact⟨_,ah,back _ λ_ _=>rfl⟩
         .obtain⟨b,rfl,_⟩:=pt c q;exact⟨_,ah,back _ λk u=>T.dN _ _ λe=>bs k u i s e.symm⟩
        .have c2:du E (g+i) (cA p) I en.op=some (a3,ag):=by have:=vI ah;unfold ho at this;rw [a0]at this;exact this
         rcases C with C|C
         .obtain⟨_,a2⟩:=zl C ct (by have:=m.lt;omega) m.no s F;rw [a2]at bn;cases bn
         .obtain⟨z,fd,_,_⟩:=zo C;obtain⟨rfl,_⟩:=zp fd c2;exact⟨_,ah,back _ λ_ _=>rfl⟩
     rcases sO ah with q|⟨dg,d0,C,a0⟩
     rotate_left
     .rcases C with C|C
      .obtain⟨X,a2⟩:=zl C ct (by have:=m.lt;omega) m.no s F;obtain⟨rfl,ae⟩:=kY X B;exact⟨ag,ah,G X (ae _ _)⟩
      .have c2:du E (g+i) (cA p) I en.op=some (a3,ag):=by have:=vI ah;unfold ho at this;rw [a0]at this;exact this
       obtain⟨y,c0,bs,co⟩:=zo C;obtain⟨rfl,n⟩:=zp c0 c2;rcases co x fb ct (by have:=m.lt;omega) m.no s F with c|c|c
       .obtain⟨rfl,_⟩:=kY c B;exact⟨_,ah,Y⟩
       .obtain⟨rfl,_⟩:=pr c B;exact⟨_,ah,Y⟩
       .obtain⟨b,rfl,_⟩:=pt c B;exact⟨h,c9 dg d0 (.inr C) a0 (n _ h λk u=>(T.dN _ _ λe=>bs k u x m.no e.symm).symm),Y⟩
     have U:cH fb.op=.load-> ∃b,ii (cA p) fb.op=some b/\(nR ops x=true\/b<g\/(b<g+ops.size/\ordered (cW ops) (b-g) x=true/\mz ops (cW ops) x=false)):=by
      intro aj;unfold ee at Y;rw [aj]at Y;simp only at Y;split at Y
      .rename_i b w;split at Y
       .rename_i l;exact⟨b,w,l⟩
       .cases Y
      .cases Y
     have S:cH en.op=.load-> ∃b,ii (cA p) en.op=some b/\(nR ops i=true\/b<g\/(b<g+ops.size/\ordered (cW ops) (b-g) i=true/\mz ops (cW ops) i=false)):=by
      intro aj;unfold ee at ah;rw [aj]at ah;simp only at ah;split at ah
      .rename_i b w;split at ah
       .rename_i l;exact⟨b,w,l⟩
       .cases ah
      .cases ah
     have P:∀{j:Nat}{o:Oper}{h Z:T}{v:J},cH o.op=.load->(∃b,ii (cA p) o.op=some b/\(nR ops j=true\/b<g\/(b<g+ops.size/\ordered (cW ops) (b-g) j=true/\mz ops (cW ops) j=false))) ->
      bt E call (g+j) (cA p) h o.op=some (v,Z)->ee E call ops g j (cA p) h o.op=some (v,Z):=by
      intro j o h Z v aj ⟨b,w,l⟩ K;unfold ee;rw [aj];simp only [w];rw [az l];exact K
     have am:∀{j:Nat}{o:Oper}{h:T},cH o.op=.alloc->ee E call ops g j (cA p) h o.op=bt E call (g+j) (cA p) h o.op:=by intro j o h aj;unfold ee;rw [aj]
     have fs:cH fb.op=.e9->mA ops g x (gn (cA p) fb.op)=true:=by
      intro aj;unfold ee at Y;rw [aj]at Y;simp only at Y;split at Y
      .assumption
      .cases Y
     have fn:cH en.op=.e9->mA ops g i (gn (cA p) en.op)=true:=by
      intro aj;unfold ee at ah;rw [aj]at ah;simp only at ah;split at ah
      .assumption
      .cases ah
     have a9:∀{j:Nat}{o:Oper}{h:T},cH o.op=.e9->mA ops g j (gn (cA p) o.op)=true->ee E call ops g j (cA p) h o.op=bt E call (g+j) (cA p) h o.op:=by intro j o h aj u;unfold ee;rw [aj];simp only;rw [az u]
     have c4:∀{j k b:Nat}{ids:List Nat},k<ops.size->mA ops g j ids=true->b∈ids->ordered (cW ops) k j=false->b≠g+k:=by
      intro j k b ids f2 u w ex e;subst e;have:=ea.1 u _ w;simp only [eC,cC,eP]at this;rcases this with (h|⟨_,h⟩)|h
      .omega
      .rw [show g+k-g=k by omega,ex]at h;cases h
      .omega
     rcases f with f|⟨d3,d4⟩
     rotate_left
     .have c5:∀{j:Nat}{o:Oper}{h:T}{v:J},cH o.op=.call->bt E call (g+j) (cA p) h o.op=some (v,h)->ee E call ops g j (cA p) h o.op=some (v,h):=by
       intro j o h v aj K;unfold ee;rw [aj];simp only [K];have e0:hW (g+ops.size) h h=true:=vG λ_ _=>rfl
       cases jF ops (cW ops) j<;>simp [e0]
      cases d:cH fb.op<;>cases a:cH en.op<;>rw [d,a]at d4<;>simp only [zn,ey]at d4
      .obtain⟨bQ,rfl,ae⟩:=pt d B;obtain⟨rfl,n⟩:=EH d3 a q;exact⟨h,c5 a (n _),Y⟩
      .obtain⟨rfl,n⟩:=EH d3 d B;exact⟨ag,ah,c5 d (n _)⟩
     cases d:cH fb.op with
     |pure =>
      obtain⟨rfl,ae⟩:=kY d B;exact⟨ag,ah,G d (ae _ _)⟩
     |load =>
      obtain⟨rfl,b,w,ae⟩:=pr d B;cases a:cH en.op with
      |pure =>
       obtain⟨rfl,n⟩:=kY a q;exact⟨_,ah,Y⟩
      |load =>
       obtain⟨rfl,O,R,n⟩:=pr a q;exact⟨_,ah,Y⟩
      |alloc =>
       obtain⟨bQ,rfl,n⟩:=pt a q;refine⟨_,ah,P d (U d) (ae _ _ ?_)⟩;refine T.dN _ _ ?_;rintro rfl;obtain⟨a5,t,l⟩:=U d;rw [w]at t;simp at t;subst t;rcases l with l|l|⟨_,l,_⟩
       .exact(sQ l H m.ah (by have:=m.lt;omega) m.no s (by rw [a];decide) (by rw [a];decide)).elim
       .omega
       .rw [show g+i-g=i by omega,s]at l;cases l
      |call =>
       refine⟨_,ah,P d (U d) (ae _ _ ?_)⟩;unfold ee at ah;rw [a]at ah;simp only [q]at ah
       have bv:jF ops (cW ops) i=true:=by unfold jF;rw [va];refine⟨x,er.2 (by have:=m.lt;have:=m.ah;omega),?_⟩;rw [F];simp [d,m.no,s]
       rw [az bv]at ah;split at ah
       .rename_i hs;obtain⟨a5,t,l⟩:=U d;rw [w]at t;simp at t;subst t;rcases l with l|l
        .exact(sQ l H m.ah (by have:=m.lt;omega) m.no s (by rw [a];decide) (by rw [a];decide)).elim
        exact Ez hs (by rcases l with l|⟨l,_,_⟩<;>omega)
       .cases ah
      |store =>
       obtain⟨jL,bQ,cs,rfl,n⟩:=EA a q;refine⟨_,ah,P d (U d) (ae _ _ ?_)⟩;refine T.dN _ _ ?_;rintro rfl;have es:=EI F H d a m.no s (by have:=m.lt;have:=m.ah;omega) m.ah (U d) w ah cs;omega
      |e9=>rw [d,a]at f;cases f
      |other=>rw [d,a]at f;cases f
     |store =>
      obtain⟨jL,bQ,cs,rfl,n⟩:=EA d B;cases a:cH en.op with
      |pure =>
       obtain⟨rfl,n⟩:=kY a q;exact⟨h,G a (n _ _),Y⟩
      |load =>
       obtain⟨rfl,O,R,n⟩:=pr a q;refine⟨h,P a (S a) (n _ _ ?_),Y⟩;refine(T.dN _ _ ?_).symm;rintro rfl;have es:=EI H F a d s m.no m.ah (by have:=m.lt;have:=m.ah;omega) (S a) R Y cs;omega
      |alloc=>rw [d,a]at f;cases f
      |store=>rw [d,a]at f;cases f
      |call=>rw [d,a]at f;cases f
      |e9=>rw [d,a]at f;cases f
      |other=>rw [d,a]at f;cases f
     |alloc =>
      obtain⟨bQ,rfl,ae⟩:=pt d B;cases a:cH en.op with
      |pure =>
       obtain⟨rfl,n⟩:=kY a q;exact⟨h,G a (n _ _),Y⟩
      |load =>
       obtain⟨rfl,O,R,n⟩:=pr a q;refine⟨h,P a (S a) (n _ _ ?_),Y⟩;refine(T.dN _ _ ?_).symm;rintro rfl;obtain⟨a5,t,l⟩:=S a;rw [R]at t;simp at t;subst t;rcases l with l|l|⟨_,l,_⟩
       .exact(sQ l F (by have:=m.lt;have:=m.ah;omega) (by have:=m.lt;omega) s m.no (by rw [d];decide) (by rw [d];decide)).elim
       .omega
       .rw [show g+x-g=x by omega,m.no]at l;cases l
      |alloc =>
       obtain⟨d8,rfl,n⟩:=pt a q;refine⟨h.set (g+i) d8,by rw [am a];exact n _,?_⟩;rw [am d,ae,set_comm (by have:=m.lt;omega)]
      |store=>rw [d,a]at f;cases f
      |call=>rw [d,a]at f;cases f
      |e9 =>
       have u:=fn a;have W:∀k∈gn (cA p) en.op,k≠g+x:=λk L=>c4 (by have:=m.lt;have:=m.ah;omega) u L m.no
       have agree:∀k∈gn (cA p) en.op,h.get k=(h.set (g+x) bQ).get k:=λk L=>(T.dN _ _ (λe=>W k L e.symm)).symm
       rcases EF a q with ⟨D,N⟩|⟨id,O,D,N,c3⟩
       .subst D;exact⟨h,by rw [a9 a u];exact N h agree,Y⟩
       .subst N;refine⟨h.set id O,by rw [a9 a u];exact c3 h agree,?_⟩
        have ce:g+x≠id:=by
         rcases D with rfl|D
         .have:=m.lt;omega
         .exact λe=>W id D e.symm
        rw [am d,ae,set_comm ce]
      |other=>rw [d,a]at f;cases f
     |call =>
      cases a:cH en.op with
      |pure =>
       obtain⟨rfl,n⟩:=kY a q;exact⟨h,G a (n _ _),Y⟩
      |load =>
       obtain⟨rfl,O,R,n⟩:=pr a q;refine⟨h,P a (S a) (n _ _ ?_),Y⟩;unfold ee at Y;rw [d]at Y;simp only [B]at Y
       have bv:jF ops (cW ops) x=true:=by unfold jF;rw [va];refine⟨i,er.2 m.ah,?_⟩;rw [H];simp [a,m.no,s]
       rw [az bv]at Y;split at Y
       .rename_i hs;obtain⟨a5,t,l⟩:=S a;rw [R]at t;simp at t;subst t;rcases l with l|l
        .exact(sQ l F (by have:=m.lt;have:=m.ah;omega) (by have:=m.lt;omega) s m.no (by rw [d];decide) (by rw [d];decide)).elim
        exact(Ez hs (by rcases l with l|⟨l,_,_⟩<;>omega)).symm
       .cases Y
      |alloc=>rw [d,a]at f;cases f
      |store=>rw [d,a]at f;cases f
      |call=>rw [d,a]at f;cases f
      |e9=>rw [d,a]at f;cases f
      |other=>rw [d,a]at f;cases f
     |e9 =>
      cases a:cH en.op with
      |pure =>
       obtain⟨rfl,n⟩:=kY a q;exact⟨h,G a (n _ _),Y⟩
      |alloc =>
       obtain⟨bQ,rfl,n⟩:=pt a q;have u:=fs d;have W:∀k∈gn (cA p) fb.op,k≠g+i:=λk L=>c4 m.ah u L s
       have agree:∀k∈gn (cA p) fb.op,(h.set (g+i) bQ).get k=h.get k:=λk L=>T.dN _ _ (λe=>W k L e.symm)
       refine⟨h.set (g+i) bQ,by rw [am a];exact n _,?_⟩;rw [a9 d u];rcases EF d B with ⟨D,N⟩|⟨id,O,D,N,c3⟩
       .subst D;exact N _ agree
       .subst N
        have ce:g+i≠id:=by
         rcases D with rfl|D
         .have:=m.lt;omega
         .exact λe=>W id D e.symm
        rw [c3 _ agree,set_comm ce]
      |load=>rw [d,a]at f;cases f
      |store=>rw [d,a]at f;cases f
      |call=>rw [d,a]at f;cases f
      |e9=>rw [d,a]at f;cases f
      |other=>rw [d,a]at f;cases f
     |other =>
      cases a:cH en.op with
      |pure =>
       obtain⟨rfl,n⟩:=kY a q;exact⟨h,G a (n _ _),Y⟩
      |load=>rw [d,a]at f;cases f
      |alloc=>rw [d,a]at f;cases f
      |store=>rw [d,a]at f;cases f
      |call=>rw [d,a]at f;cases f
      |e9=>rw [d,a]at f;cases f
      |other=>rw [d,a]at f;cases f
def Ni(g:jK ops){c x:Nat}(m:nW call ops x i){s s1 s2:dX}(Y:jG E call ops c x s=some s1)(ag:jG E call ops c i s1=some s2) :
 ∃t,jG E call ops c i s=some t/\jG E call ops c x t=some s2:=by
 have h:x<ops.size:=by have:=m.lt;have:=m.ah;omega
 have b:ops[x]? =some ops[x]:=kg h;have a:ops[i]? =some (ops[i]'m.ah):=kg m.ah;obtain⟨n,f⟩:=m.pair _ _ b a;obtain⟨aq,a2,a3⟩:=apart_spec f;rw [vH b,cb]at Y;obtain⟨⟨p,o⟩,j,rfl⟩:=Y;rw [vH a,cb]at ag;obtain⟨⟨k,l⟩,d,rfl⟩:=ag;simp only at d;rw [EG aq]at d;obtain⟨e,g1,g2⟩:=Nh g m b a j d;refine⟨⟨fT s.dH (ops[i]'m.ah).dst k,e⟩,?_,?_⟩
 .rw [vH a,g1];rfl
 .rw [vH b];simp only;rw [EG a2,g2];simp only [eE];rw [Nf a3]
def front(c:jK ops){b:Nat}{q:List Nat} :∀{p:List Nat}{s a:dX},(∀x∈p,nW call ops x i)->hG E call ops b (p++i::q) s=some a ->
 ∃t,jG E call ops b i s=some t/\hG E call ops b (p++q) t=some a
 |[],s,a,_,h=>by
  simp only [eQ,hG]at h⊢;split at h
  .rename_i t e;exact⟨t,e,h⟩
  .cases h
 |x ::p,s,a,hm,h=>by
  simp only [hB,hG]at h;split at h
  .rename_i s1 d;obtain⟨t,Y,ag⟩:=front c (λy f=>hm y (by simp [f])) h;obtain⟨u,g1,g2⟩:=Ni c (hm x au) d Y;refine⟨u,g1,?_⟩;simp only [hB,hG,g2];exact ag
  .cases h
def Nj{a:Nat}{s b:dX}(h:jG E call ops a j s=some b):nQ E call ops a j s=some b:=by
 unfold jG at h;unfold nQ;split at h
 .rename_i e;simp [e];simpa using h
 .rename_i o e;split at h
  .rename_i hw;split at h
   .rename_i v ae c;rw [show ho E call (a+j) (cA s.dH) s.heap o.op=some (v,ae)from vI c];exact h
   .cases h
  .exact h
  .cases h
end
section
variable {P:Program}{φ:Map}{E:bi}
variable {ops:Array Oper}
def Nk(call:cR)(h:my ops=true):jK ops/\∀x i,x<i->i<ops.size->ordered (cW ops) x i=false->nW call ops x i:=by
 unfold my at h;simp only [ea,er]at h
 have g:jK ops:=by
  intro j o a e he d
  have f:j<ops.size:=by
   rcases gK j ops.size with Z|Z
   .exact Z
   .rw [o' Z]at a;cases a
  have:=h j f;rw [a]at this;simp only [cC,ea]at this;have:=this.1 e he;simpa [d]using this
 refine⟨g,λx i c ah b=>⟨c,ah,b,λfb en l k=> ?_⟩⟩;have:=h i ah;rw [k]at this;simp only [cC,ea,er]at this;have:=this.2 x c;rw [b,l]at this;simp only [sp,cC]at this;exact⟨.inl this.1,this.2⟩
def sR(ops:Array Oper):Bool :=
 let a:=cW ops
 (List.range ops.size).all λj =>
  match ops[j]? with
  |none=>true
  |some y =>
   (y.after.toList.all λe=> !gM e || decide (e.on<j)) &&
   (List.range j).all λi =>
    ordered a i j ||
    match ops[i]? with
    |none=>true
    |some x=>(y1 (cH x.op) (cH y.op) || zn (cH x.op) (cH y.op))&&sA ops x y
def Nl(call:cR)(f:sP call)(h:sR ops=true):jK ops/\∀x i,x<i->i<ops.size->ordered (cW ops) x i=false->nW call ops x i:=by
 unfold sR at h;simp only [ea,er]at h
 have k:jK ops:=by
  intro j o a e he d
  have g:j<ops.size:=by
   rcases gK j ops.size with Z|Z
   .exact Z
   .rw [o' Z]at a;cases a
  have:=h j g;rw [a]at this;simp only [cC,ea]at this;have:=this.1 e he;simpa [d]using this
 refine⟨k,λx i c ah b=>⟨c,ah,b,λfb en m l=> ?_⟩⟩;have:=h i ah;rw [l]at this;simp only [cC,ea,er]at this;have:=this.2 x c;rw [b,m]at this;simp only [sp,cC,eC]at this;exact⟨this.1.imp id λq=>⟨f,q⟩,this.2⟩
def eT(ops:Array Oper)(listed:Array Bool):List Nat:=(List.range ops.size).filter λi=> !listed.getD i true
variable {i n:Nat}
def EJ{listed:Array Bool}(h:i∈Region.ready .any ops listed) :
 i<ops.size/\listed.getD i true=false/\∃o,ops[i]? =some o/\∀e∈o.after.toList,gM e=true->listed.getD e.on false=true:=by
 unfold Region.ready at h;simp only [ms,er,cC,gV]at h;obtain⟨Y,ag,a⟩:=h;refine⟨Y,ag,ops[i],kg Y,λe he b=> ?_⟩;rw [kg Y]at a;simp only [eE,pa,Array.all_eq_true_iff_forall_mem]at a;have:=a e (by simpa using he);unfold gM at b;simpa [b]using this
def Nn(f:jK ops){listed:Array Bool}(l:listed.size=ops.size){r:List Nat}(h:eT ops listed=i::r):i∈Region.ready .any ops listed:=by
 have ah:i∈eT ops listed:=by rw [h];simp
 have j:=ah;unfold eT at ah;simp only [ms,er,gV]at ah;unfold Region.ready;simp only [ms,er,cC,gV];refine⟨ah.1,ah.2,?_⟩;rw [kg ah.1];simp only [eE,pa,Array.all_eq_true_iff_forall_mem];intro e he;cases d:Region.binds .any e with
 |false=>rfl
 |true =>
  simp only [Bool.not_true,sp];have k:=f i _ (kg ah.1) e (by simpa using he) d;cases hle:listed.getD e.on false with
  |true=>rfl
  |false =>
   exfalso
   have b:e.on∈eT ops listed:=by unfold eT;simp only [ms,er,gV];refine⟨A,?_⟩;have g:e.on<listed.size:= A;rw [iG,kg g]at hle⊢;simpa using hle
   have c:(eT ops listed).Pairwise (· < ·):=vb _ List.pairwise_lt_range;rw [h]at c b;rcases dR.1 b with a|a
   .omega
   .have:=(List.pairwise_cons.1 c).1 _ a;omega
def No{listed:Array Bool}(k:listed.size=ops.size){p q:List Nat}(h:eT ops listed=p++i::q):eT ops (listed.setIfInBounds i true)=p++q:=by
 have c:(eT ops listed).Nodup:=vb _ vc;have ah:i∈eT ops listed:=by rw [h];simp
 have f:i<ops.size:=by unfold eT at ah;simp only [ms,er]at ah;exact ah.1
 have aQ:eT ops (listed.setIfInBounds i true)=(eT ops listed).filter λj=>decide (j≠i):=by
  unfold eT;rw [List.filter_filter];refine List.filter_congr λj a=> ?_
  have l:=er.1 a;by_cases b:j=i
  .subst b;simp [iG,k,f]
  .have d:¬i=j:=λe=>b e.symm
   simp [iG,yN,b,d]
 rw [aQ,h];rw [h]at c
 have ae:∀j∈p,j≠i:=λj a e=>by subst e;exact(qy.1 c).2.2 j a j au rfl
 have g:∀j∈q,j≠i:=λj a e=>by subst e;have:=(qy.1 c).2.1;exact(qx.1 this).1 a
 rw [List.filter_append,List.filter_cons];simp only [ne_eq,not_true_eq_false,decide_false,ey,ez];rw [List.filter_eq_self.2 (λj a=>by simpa using ae j a),List.filter_eq_self.2 (λj a=>by simpa using g j a)]
variable {Q:Exit->Act->World->Prop}
def Np(a2:fa P E){aR:Nat->Prop}{aV:World}(a3:dS aR aV.heap.size){call:cR}(a4:ji P aR aV call)(cs:jK ops/\∀x i,x<i->i<ops.size->ordered (cW ops) x i=false->nW call ops x i) :
 ∀{y:Nat}{listed:Array Bool}{s c:dX}{a:Act}{w:World}{φ:Map},listed.size=ops.size->EE ops listed->(eT ops listed).length<=y->hG E call ops n (eT ops listed) s=some c ->
  eL φ aR aV s a w->(∀j∈eT ops listed,n+j<s.heap.M/\∀v,φ (n+j) v=none) ->
  (∀l a7 u,dM φ u n->eL u aR aV c l a7->s.heap.M<=c.heap.M->Q .normal l a7)->wpAny P .any ops Q y listed a w:=by
 intro y;obtain⟨G,ce⟩:=cs
 have S:∀{listed:Array Bool}{s c:dX}{a:Act}{w:World}{φ:Map},listed.size=ops.size->hG E call ops n (eT ops listed) s=some c->eL φ aR aV s a w ->
  (∀l a7 u,dM φ u n->eL u aR aV c l a7->s.heap.M<=c.heap.M->Q .normal l a7)->Region.ready .any ops listed=[]->Q .normal a w:=by
  intro listed s c a w φ d h r m K;cases hu:eT ops listed with
  |nil =>
   rw [hu]at h;simp [hG]at h;subst h;exact m a w φ (dM.refl _ _) r (Nat.le_refl _)
  |cons i q =>
   exfalso;have:=Nn G d hu;rw [K]at this;cases this
 induction y with
 |zero =>
  intro listed s c a w φ d D hlen h r hid m;have hu:eT ops listed=[]:=u'.1 A;simp only [wpAny]
  have am:Region.ready .any ops listed=[]:=by
   cases K:Region.ready .any ops listed with
   |nil=>rfl
   |cons i q =>
    exfalso;obtain⟨Y,ag,_⟩:=EJ (by rw [K];exact kQ);have:i∈eT ops listed:=by unfold eT;simp only [ms,er,gV];exact⟨Y,ag⟩
    rw [hu]at this;cases this
  exact⟨am,S d h r m am⟩
 |succ y ih =>
  intro listed s c a w φ d D hlen h r hid m;simp only [wpAny];refine⟨S d h r m,λi ah=> ?_⟩;obtain⟨Y,ag,o,W,X⟩:=EJ ah;have H:i∈eT ops listed:=by unfold eT;simp only [ms,er,gV];exact⟨Y,ag⟩
  obtain⟨p,q,f⟩:=List.append_of_mem H;have a0:(eT ops listed).Pairwise (· < ·):=vb _ List.pairwise_lt_range
  have hm:∀x∈p,nW call ops x i:=by
   intro x g;rw [f]at a0;have bv:x<i:=(List.pairwise_append.1 a0).2.2 x g i au;refine ce x i bv Y ?_;cases B:ordered (cW ops) x i with
   |false=>rfl
   |true =>
    exfalso;have N:=Na G D i o W X B;have O:x∈eT ops listed:=by rw [f];simp [g]
    unfold eT at O;simp only [ms,er,gV]at O;have U:x<listed.size:= A;rw [iG,kg U]at N;have z:=O.2;rw [iG,kg U]at z;simp at N z;rw [N]at z;cases z
  rw [f]at h;obtain⟨t,g1,g2⟩:=front G hm h;refine Ex a2 a3 a4 r (hid i H) (Nj g1) λl a7 u g c3 hle=> ?_
  have L:=No d f;refine ih (listed:=listed.setIfInBounds i true) (by simpa using d) ?_ ?_ (by rw [L];exact g2) c3 (λj b=> ?_) λc5 d0 d1 bs c4 dg=> ?_
  .intro j c2 b C e he B;by_cases R:e.on=i
   .rw [R];simp [iG,d,Y]
   .have ay:listed.getD e.on false=true:=by
     by_cases F:j=i
     .subst F;rw [W]at C;simp at C;subst C;exact X e he B
     .refine D j c2 ?_ C e he B;have a9:¬i=j:=λe=>F e.symm
      simpa [iG,yN,a9]using b
    have a5:¬i=e.on:=λe'=>R e'.symm
    simpa [iG,yN,a5]using ay
  .rw [L];rw [f]at hlen;simp at hlen⊢; omega
  .rw [L]at b;have bn:j∈eT ops listed:=by rw [f];rcases hi.1 b with b|b<;>simp [b]
   have I:(eT ops listed).Nodup:=vb _ vc
   have F:j≠i:=by
    rintro rfl;rw [f]at I;rcases hi.1 b with b|b
    .exact(qy.1 I).2.2 j b j au rfl
    .exact(qx.1 (qy.1 I).2.1).1 b
   obtain⟨ct,c0⟩:=hid j bn;exact⟨A,g.new _ ct A c0⟩
  .refine m _ _ _ (dM.trans ⟨g.le,λk c9 co=>g.new k ?_ A co,g.ro⟩ bs) c4 A;have:=(hid i H).1;omega
def EK(g:fa P E){aR:Nat->Prop}{aV:World}(k:dS aR aV.heap.size){call:cR}(l:ji P aR aV call)(n:jK ops/\∀x i,x<i->i<ops.size->ordered (cW ops) x i=false->nW call ops x i){c:Nat}{s d:dX}{a:Act}{w:World}{φ:Map}
  (h:hG E call ops c (List.range ops.size) s=some d) (r:eL φ aR aV s a w) (hid:∀j,j<ops.size->c+j<s.heap.M/\∀v,φ (c+j) v=none)
 (m:∀e a7 f,dM φ f c->eL f aR aV d e a7->s.heap.M<=d.heap.M->Q .normal e a7):wpAny P .any ops Q ops.size (Array.replicate ops.size false) a w:=by
 have hu:eT ops (Array.replicate ops.size false)=List.range ops.size:=by
  unfold eT;refine List.filter_eq_self.2 λi ah=> ?_
  have:=er.1 ah;simp [iG,Array.getElem?_replicate,this]
 refine Np g k l n au ?_ (by rw [hu];simp) (by rw [hu];exact h) r (λj b=>by rw [hu]at b;exact hid j (er.1 b)) m;intro j o b;simp [iG,Array.getElem?_replicate]at b;split at b<;>simp at b
def Nq(f:fa P E){aR:Nat->Prop}{aV:World}(g:dS aR aV.heap.size){call:cR}(i:ji P aR aV call)(l:my ops=true){b:Nat}{s c:dX}{a:Act}{w:World}{φ:Map}
  (h:hG E call ops b (List.range ops.size) s=some c) (r:eL φ aR aV s a w) (hid:∀j,j<ops.size->b+j<s.heap.M/\∀v,φ (b+j) v=none)
 (k:∀d a7 e,dM φ e b->eL e aR aV c d a7->s.heap.M<=c.heap.M->Q .normal d a7):wpAny P .any ops Q ops.size (Array.replicate ops.size false) a w :=
 EK f g i (Nk call l) h r hid k
end
end
noncomputable section
open Go.RowKit
section
variable {P:Program}{φ:Map}{E:bi}
def sS:b8->Exit
 |.normal=> .normal
 |.exit id=> .exit id
 |.goto l=> .goto l
 |.ret=> .ret
variable {a:Act}
def eL.bump{aR:Nat->Prop}{aV w:World}{s:dX}(r:eL φ aR aV s a w)(n:Nat):eL φ aR aV ⟨s.dH,{s.heap with M:=s.heap.M+n}⟩ a w :=
 ⟨r.dH,r.heap.M A,r.below,r.defers⟩
def eL.drew{aR:Nat->Prop}{aV w:World}{s:dX}(r:eL φ aR aV s a w):eL φ aR aV s a w.drew :=
 ⟨r.dH,r.heap.alike (Alike.sJ w),r.below.drew,r.defers⟩
def EL{aR:Nat->Prop}{w:World}{h:T}(r:cv φ aR h w){i:Nat}(ah:h.M<=i):∀v,φ i v=none:=by
 intro v;cases a:φ i v with
 |none=>rfl
 |some p=>have:=(r.cN i v p a).1;omega
variable {Q:Exit->Act->World->Prop}{ops:Array Oper}
def EM(f:fa P E){aR:Nat->Prop}{aV w:World}(g:dS aR aV.heap.size){call:cR}(i:ji P aR aV call)(n:P.follows .mixedOrders=true){id:Nat}{draw:Bool}{s e:dX}(r:eL φ aR aV s a w)(h:pj E call ops draw s=some e)
  (m:∀b a7 c,dM φ c s.heap.M->eL c aR aV e b a7->s.heap.M<=e.heap.M->Q .normal b a7):(Code.region id ops draw).wp P Q a w:=by
 have k:∀j,j<ops.size->s.heap.M+j<s.heap.M+ops.size/\∀v,φ (s.heap.M+j) v=none:=λj l=>⟨A,EL r.heap A⟩
 unfold pj at h;cases draw with
 |false =>
  simp only [ey,ez]at h;refine wp_region ?_;refine Ey f g i h (r.bump _) vc (λj l=>k j (er.1 l)) λb a7 c Y ag d=>m b a7 c Y ag ?_
  simp only at d;omega
 |true =>
  simp only [dG]at h;split at h
  .rename_i o;refine wp_region_any n ?_;refine Nq f g i o h (r.bump _).drew k λb a7 c Y ag d=>m b a7 c Y ag ?_
   simp only at d;omega
  .cases h
def Nr(f:fa P E){aR:Nat->Prop}{aV w:World}(g:dS aR aV.heap.size){call:cR}(i:ji P aR aV call)(k:sP call)(n:P.follows .mixedOrders=true){id:Nat}{s d:dX}(r:eL φ aR aV s a w)
 (o:sR ops=true) (h:hG E call ops s.heap.M (List.range ops.size) ⟨s.dH,{s.heap with M:=s.heap.M+ops.size}⟩=some d)
  (m:∀b a7 c,dM φ c s.heap.M->eL c aR aV d b a7->s.heap.M<=d.heap.M->Q .normal b a7):(Code.region id ops true).wp P Q a w:=by
 have l:∀j,j<ops.size->s.heap.M+j<s.heap.M+ops.size/\∀v,φ (s.heap.M+j) v=none:=λj p=>⟨A,EL r.heap A⟩
 refine wp_region_any n ?_;refine EK f g i (Nl call k o) h (r.bump _).drew l λb a7 c Y ag e=>m b a7 c Y ag ?_
 simp only at e;omega
def pu(P:Program)(c:Code)(Q:Exit->Act->World->Prop)(a:Act)(w:World):Prop :=
 ∀(b:Frame)(k:List Item)(cs:List Frame),∃e d a7,Q e d a7/\Arrives P (lone (b.at a (.code c:: .inLoop c::k)) cs w) b k cs e d a7
def EN{c:Code}{w:World}(h:pu P c Q a w):(Code.loop c).wp P Q a w:=λb k cs =>
 let ⟨e,d,a7,q,r⟩:=h b k cs;⟨e,d,a7,q,.of_steps (.one step_loop) r⟩
def zq{c:Code}{w:World}(h:c.wp P (Exit.then (pu P c Q) Q) a w):pu P c Q a w:=by
 intro b k cs;obtain⟨e,g,i,f,d⟩:=h b (.inLoop c::k) cs;cases e with
 |normal =>
  obtain⟨m,j,p,o,n⟩:=f b k cs;exact⟨m,j,p,o,.of_steps (Steps.trans d (.one step_inLoop)) n⟩
 |exit id=>exact⟨_,g,i,f,.pass (x:= .inLoop c) rfl (λ_ _=> .inl au) d⟩
 |goto l=>exact⟨_,g,i,f,.pass (x:= .inLoop c) rfl (λ_ _=> .inl au) d⟩
 |ret=>exact⟨_,g,i,f,.pass (x:= .inLoop c) rfl (λ_ _=> .inl au) d⟩
 |panic q=>exact⟨_,g,i,f,.pass (x:= .inLoop c) rfl (λ_ _=> .inl au) d⟩
 |outgrown=>exact⟨_,g,i,f,.pass (x:= .inLoop c) rfl (λ_ _=> .inl au) d⟩
def qS(P:Program)(body c:Code)(Q:Exit->Act->World->Prop)(a:Act)(w:World):Prop :=
 ∀(b:Frame)(k:List Item)(cs:List Frame),∃e d a7,Q e d a7/\Arrives P (lone (b.at a (.code c:: .inScope body::k)) cs w) b k cs e d a7
def EO{c:Code}{w:World}(h:qS P c c Q a w):(Code.scope c).wp P Q a w:=λb k cs =>
 let ⟨e,d,a7,q,r⟩:=h b k cs;⟨e,d,a7,q,.of_steps (.one step_scope) r⟩
def nX(P:Program)(body:Code)(Q:Exit->Act->World->Prop):Exit->Act->World->Prop
 |.goto l,a,w =>
  match findLabel body l with
  |some rest=>qS P body rest Q a w
  |none=>Q (.goto l) a w
 |e,a,w=>Q e a w
def vJ{body c:Code}{w:World}(h:c.wp P (nX P body Q) a w):qS P body c Q a w:=by
 intro b k cs;obtain⟨e,g,i,d,f⟩:=h b (.inScope body::k) cs;cases e with
 |normal=>exact⟨.normal,g,i,d,Steps.trans f (.one step_inScope)⟩
 |exit id=>exact⟨.exit id,g,i,d,λk' m=>f k' (by simp [exitTo,m])⟩
 |goto l =>
  simp only [nX]at d;cases j:findLabel body l with
  |some rest =>
   rw [j]at d;obtain⟨p,n,s,r,q⟩:=d b k cs;exact⟨p,n,s,r,.of_steps (f _ (by simp [gotoIn,j])) q⟩
  |none =>
   rw [j]at d;exact⟨.goto l,g,i,d,λk' m=>f k' (by simp [gotoIn,j,m])⟩
 |ret=>exact⟨.ret,g,i,d,f⟩
 |panic o=>exact⟨.panic o,g,i,d,f⟩
 |outgrown=>exact⟨.outgrown,g,i,d,f⟩
def sT(P:Program)(E:bi)(aR:Nat->Prop)(aV:World)(s c:dX)(e:b8)(a:Act)(w:World)(f:(Exit->Act->World->Prop)->Prop):Prop :=
 ∀{φ:Map}{Q:Exit->Act->World->Prop},eL φ aR aV s a w->(∀b a7 d,dM φ d s.heap.M->eL d aR aV c b a7->s.heap.M<=c.heap.M->Q (sS e) b a7)->f Q
def Ns(K:fa P E){aR:Nat->Prop}{aV:World}(L:dS aR aV.heap.size){call:cR}(N:ji P aR aV call)(O:P.follows .mixedOrders=true):∀(n:Nat),
 (∀{c:Code}{s k:dX}{e:b8}{a:Act}{w:World},dL E call n none c s=some (e,k)->sT P E aR aV s k e a w λQ=>c.wp P Q a w) /\
 (∀{c:Code}{s k:dX}{e:b8}{a:Act}{w:World},dL E call n none (.loop c) s=some (e,k)->sT P E aR aV s k e a w λQ=>pu P c Q a w) /\
 (∀{b c:Code}{s k:dX}{e:b8}{a:Act}{w:World},dL E call n (some b) c s=some (e,k)->sT P E aR aV s k e a w λQ=>qS P b c Q a w):=by
 intro n;induction n with
 |zero=>refine⟨?_,?_,?_⟩<;>(intros;simp_all [dL])
 |succ n ih =>
  obtain⟨m,S,H⟩:=ih
  have G:∀{c:Code}{s k:dX}{e:b8}{a:Act}{w:World},dL E call (n+1) none (.loop c) s=some (e,k)->sT P E aR aV s k e a w λQ=>pu P c Q a w:=by
   intro c s k e a w h φ Q r d;simp only [dL]at h;refine zq ?_;cases Y:dL E call n none c s with
   |none=>simp [Y]at h
   |some p =>
    obtain⟨aQ,s1⟩:=p;rw [Y]at h;refine m Y r λg a7 i g1 g2 g3=> ?_
    cases aQ with
    |normal =>
     simp only at h;show pu P c Q g a7;exact S h g2 λq v B t u I=>d q v B (g1.trans (t.mono g3)) u A
    |exit id=>simp at h;obtain⟨rfl,rfl⟩:=h;exact d g a7 i g1 g2 g3
    |goto id=>simp at h;obtain⟨rfl,rfl⟩:=h;exact d g a7 i g1 g2 g3
    |ret=>simp at h;obtain⟨rfl,rfl⟩:=h;exact d g a7 i g1 g2 g3
  have R:∀{b c:Code}{s k:dX}{e:b8}{a:Act}{w:World},dL E call (n+1) (some b) c s=some (e,k)->sT P E aR aV s k e a w λQ=>qS P b c Q a w:=by
   intro b c s k e a w h φ Q r d;simp only [dL]at h;refine vJ ?_;cases Y:dL E call n none c s with
   |none=>simp [Y]at h
   |some p =>
    obtain⟨aQ,s1⟩:=p;rw [Y]at h;refine m Y r λg a7 i g1 g2 g3=> ?_
    cases aQ with
    |normal=>simp at h;obtain⟨rfl,rfl⟩:=h;exact d g a7 i g1 g2 g3
    |exit id=>simp at h;obtain⟨rfl,rfl⟩:=h;exact d g a7 i g1 g2 g3
    |goto l =>
     simp only at h;show nX P b Q (.goto l) g a7;simp only [nX];cases D:findLabel b l with
     |some rest =>
      rw [D]at h;exact H h g2 λq v B t u I=>d q v B (g1.trans (t.mono g3)) u A
     |none =>
      rw [D]at h;simp at h;obtain⟨rfl,rfl⟩:=h;exact d g a7 i g1 g2 g3
    |ret=>simp at h;obtain⟨rfl,rfl⟩:=h;exact d g a7 i g1 g2 g3
  refine⟨?_,G,R⟩;intro c s k e a w h φ Q r d;cases c with
  |skip=>simp [dL]at h;obtain⟨rfl,rfl⟩:=h;exact wp_skip (d a w φ (dM.refl _ _) r (Nat.le_refl _))
  |label l=>simp [dL]at h;obtain⟨rfl,rfl⟩:=h;exact wp_label (d a w φ (dM.refl _ _) r (Nat.le_refl _))
  |region id ops draw =>
   simp only [dL,cb,bC]at h;obtain⟨s1,Y,rfl,rfl⟩:=h;exact EM K L N O r Y d
  |seq x y =>
   simp only [dL]at h;refine wp_seq ?_;cases Y:dL E call n none x s with
   |none=>simp [Y]at h
   |some p =>
    obtain⟨aQ,s1⟩:=p;rw [Y]at h;refine m Y r λg a7 i g1 g2 g3=> ?_
    cases aQ with
    |normal =>
     simp only at h;show y.wp P Q g a7;exact m h g2 λq v B t u I=>d q v B (g1.trans (t.mono g3)) u A
    |exit id=>simp at h;obtain⟨rfl,rfl⟩:=h;exact d g a7 i g1 g2 g3
    |goto id=>simp at h;obtain⟨rfl,rfl⟩:=h;exact d g a7 i g1 g2 g3
    |ret=>simp at h;obtain⟨rfl,rfl⟩:=h;exact d g a7 i g1 g2 g3
  |cond x y z =>
   simp only [dL]at h;have o:=r.eval x;split at h
   .rename_i C;rw [C]at o;simp only [aA]at o;exact wp_cond_true o (m h r d)
   .rename_i C;rw [C]at o;simp only [aA]at o;exact wp_cond_false o (m h r d)
   .cases h
  |block id c =>
   simp only [dL]at h;refine wp_block ?_;cases Y:dL E call n none c s with
   |none=>simp [Y]at h
   |some p =>
    obtain⟨aQ,s1⟩:=p;rw [Y]at h;refine m Y r λg a7 i g1 g2 g3=> ?_
    cases aQ with
    |normal=>simp at h;obtain⟨rfl,rfl⟩:=h;exact d g a7 i g1 g2 g3
    |exit j =>
     simp at h;obtain⟨rfl,rfl⟩:=h;simp only [sS,Exit.inBlock];by_cases F:j=id
     .rw [az F]at d⊢; exact d g a7 i g1 g2 g3
     .rw [ai F]at d⊢; exact d g a7 i g1 g2 g3
    |goto l=>simp at h;obtain⟨rfl,rfl⟩:=h;exact d g a7 i g1 g2 g3
    |ret=>simp at h;obtain⟨rfl,rfl⟩:=h;exact d g a7 i g1 g2 g3
  |loop c=>exact EN (G h r d)
  |scope c =>
   simp only [dL]at h;exact EO (H h r d)
  |goto l=>simp [dL]at h;obtain⟨rfl,rfl⟩:=h;exact wp_goto (d a w φ (dM.refl _ _) r (Nat.le_refl _))
  |exit id=>simp [dL]at h;obtain⟨rfl,rfl⟩:=h;exact wp_exit (d a w φ (dM.refl _ _) r (Nat.le_refl _))
  |ret=>simp [dL]at h;obtain⟨rfl,rfl⟩:=h;exact wp_ret (d a w φ (dM.refl _ _) r (Nat.le_refl _))
  |rangeFunc f ps x y=>simp [dL]at h
  |refuse w=>simp [dL]at h
def zr(d:E.D.cG P){aR:Nat->Prop}{aV w:World}{s:dX}(r:eL φ aR aV s a w):∀{c8:List ResultVar}{l:List J},hq E.D c8 s=some l ->
 ∃vs,(c8.mapM (fun(x:ResultVar)=>(match x with|.tmp t=>pure (a.tmps.getD t undef)|.cell b t=>do loadVar t (<-asAddr (a.tmps.getD b undef)):Sem Value))).run P w=.ok vs w/\bo φ l vs
 |[],l,h=>by simp [hq]at h;subst h;exact⟨[],rfl,by simp [bo]⟩
 |.tmp t::c8,l,h=>by
  simp only [hq,cb]at h;obtain⟨m,Y,rfl⟩:=h;obtain⟨vs,e,f⟩:=zr d r Y;refine⟨a.tmps.getD t undef::vs,?_,?_⟩
  .simp only [List.mapM_cons,Sem.run_bind,Sem.run_pure,Result.andThen_ok,e]
  .simp only [bo];exact⟨_,_,rfl,r.dH.zh t,f⟩
 |.cell b t::c8,l,h=>by
  simp only [hq]at h;split at h
  .rename_i p ae;split at h
   .rename_i v m Y ag;simp at h;subst h;obtain⟨vs,e,f⟩:=zr d r ag;have c:=r.dH.zh b;rw [ae]at c;obtain⟨j,g1,g2⟩:=Ed d r.heap c Y;simp only [aA]at c;obtain⟨k,g,n⟩:=c;rw [g]at g1;simp only [Instr.loadAt,Instr.sureAddr,Sem.run_bind,Sem.run_pure,Result.andThen_ok]at g1;refine⟨j::vs,?_,?_⟩
    .have i:(asAddr (a.tmps.getD b undef)).run P w=.ok k w:=by rw [g];rfl
     simp only [List.mapM_cons,Sem.run_bind,i,Sem.run_pure,Result.andThen_ok,g1,e]
    .simp only [bo];exact⟨_,_,rfl,g2,f⟩
   .cases h
  .cases h
def EP(g:E.D.cG P){aR:Nat->Prop}{aV w:World}{s:dX}(r:eL φ aR aV s a w){fn:Func}{l:List J}(h:hq E.D fn.results.toList s=some l) :
 ∃d,(results fn a.tmps).run P w=.ok d w/\aA φ (kk l) d:=by
 obtain⟨vs,Y,ag⟩:=zr g r h
 have hm:(fn.results.mapM (fun(x:ResultVar)=>(match x with|.tmp t=>pure (a.tmps.getD t undef)|.cell b t=>do loadVar t (<-asAddr (a.tmps.getD b undef)):Sem Value))).run P w=.ok vs.toArray w:=by rw [<-Array.toArray_toList (xs:=fn.results)];simp only [List.mapM_toArray,Sem.run_map,Y,Result.andThen_ok]
 have hlen:=ag.length;by_cases c:l.length=1
 .obtain⟨x,rfl⟩:=List.length_eq_one_iff.1 c;obtain⟨y,rfl⟩:=List.length_eq_one_iff.1 (by rw [hlen,c]);refine⟨y,?_,?_⟩
  .unfold results;rw [Sem.run_bind]
   erw [hm]
   rfl
  .simp only [bo]at ag;obtain⟨v,t,e,f,i⟩:=ag;simp at e;obtain⟨rfl,rfl⟩:=e;exact f
 .refine⟨.tuple vs.toArray,?_,?_⟩
  .unfold results;rw [Sem.run_bind]
   erw [hm]
   simp only [Result.andThen_ok,Sem.run_pure];rw [dif_neg (by simp;omega)]
  .have:kk l=.tuple l:=by
    unfold kk;split
    .simp at c
    .rfl
   rw [this];simp only [aA];exact⟨_,rfl,by simpa using ag⟩
def Nt(m:fa P E){aR:Nat->Prop}{aV:World}(u:dS aR aV.heap.size)(eh:E.cond aR aV)(C:P.follows .mixedOrders=true):∀n,ji P aR aV (jH P E n):=by
 intro n;induction n with
 |zero=>intro f args h v Z aj;simp [jH]at aj
 |succ n ih =>
  intro f args h v Z aj φ w j t q k;simp only [jH]at aj;split at aj
  .rename_i g ab;exact m.Er f g ab aR aV u eh args h v Z aj φ w j t q k
  .rename_i I;split at aj
   .rename_i fn y;split at aj
    .rename_i c x;refine⟨⟨fn,c,y,x⟩,?_⟩;refine calls_of_wp y x ?_;have hlen:j.size=args.length:=by have:=k.length;rwa [fy]at this
     have r:eL φ aR aV ⟨args++List.replicate (fn.ntmps-args.length) eR,h⟩ {tmps:=j++Array.replicate (fn.ntmps-j.size) undef,defers:=[]} w:=by refine⟨?_,t,q,rfl⟩;simp only [mr,Array.toList_replicate,hlen];exact k.append (bo.replicate (aA.eR φ) _)
     cases o:dL E (jH P E n) n none c ⟨args++List.replicate (fn.ntmps-args.length) eR,h⟩with
     |none=>simp [o]at aj
     |some p =>
      obtain⟨e,s⟩:=p;rw [o]at aj
      have fin:∀b a7 a,dM φ a h.M->eL a aR aV s b a7->h.M<=s.heap.M-> ∀{l},hq E.D fn.results.toList s=some l->v=kk l->Z=s.heap ->
       b.defers=[]/\∃z,(results fn b.tmps).run P a7=.ok z a7/\∃i a,Ending.returned z=.returned i/\dM φ a h.M/\aA a v i/\cv a aR Z a7/\Safe aR aV a7/\h.M<=Z.M:=by
       intro b a7 a g1 g2 g3 l d F B;subst F B;obtain⟨i,G,H⟩:=EP m.fW g2 d;exact⟨g2.defers,i,G,i,a,rfl,g1,H,g2.heap,g2.below,g3⟩
      refine(Ns m u ih C n).1 o r λb a7 a g1 g2 g3=> ?_
      cases e with
      |normal =>
       simp only [cb,bC]at aj;obtain⟨l,d,Y,ag⟩:=aj;exact fin b a7 a g1 g2 g3 d Y.symm ag.symm
      |ret =>
       simp only [cb,bC]at aj;obtain⟨l,d,Y,ag⟩:=aj;exact fin b a7 a g1 g2 g3 d Y.symm ag.symm
      |exit id=>simp at aj
      |goto id=>simp at aj
    .cases aj
   .cases aj
end
end
noncomputable section
open Go.RowKit
section
variable {P:Program}{E:bi}
def vK:Option (J×T)->Bool
 |some (.bool true,_)=>true
 |_=>false
def Nu{r:Option (J×T)}(h:vK r=true):∃Z,r=some (.bool true,Z):=by
 unfold vK at h;split at h
 .exact⟨_,rfl⟩
 .cases h
def Nv:Map:=λ_ _=>none
def cv.empty(aR:Nat->Prop)(w:World)(n:Nat):cv Nv aR ⟨n,.nil⟩ w where
 cN i v p h:=by cases h
 apart i v p j u q h:=by cases h
 same i v p u q h:=by cases h
def cV.Nw(P:Program):cV.cG (vo P) P:=λ_ _ h=>h
def Nx{P:Program}(h:(P.funcs.toList.all λfn=> !(fn.name == "runtime.NumGoroutine"))=true):∀(f:Nat) fn,P.funcs[f]? =some fn->(fn.name == "runtime.NumGoroutine")=false:=by
 intro f fn a
 have hm:fn∈P.funcs.toList:=by rw [<-Array.getElem?_toList]at a;exact gx a
 have:=ea.1 h fn hm;simpa using this
def Ny{P:Program}{E:bi}(h:(E.eqs.all λt=>y7 P t)=true):∀t,E.eS t=true->nU P t:=by intro t a;exact ea.1 h t (by simpa [bi.eS]using a)
end
end
noncomputable section
open Go.RowKit
def bB.aO(r:Nat->Nat)(a:bB):bB:= {a with id:=r a.id}
mutual
def J.aO(r:Nat->Nat):J->J
 |.ptr (some a)=> .ptr (some (a.aO r))
 |.slice (some a) n c=> .slice (some (a.aO r)) n c
 |.func fn f c=> .func fn (J.fc r f) (J.fc r c)
 |.iface t v=> .iface t (J.aO r v)
 |.agg cs=> .agg (J.fc r cs)
 |.tuple vs=> .tuple (J.fc r vs)
 |.undef=> .undef
 |.bool b=> .bool b
 |.int k n=> .int k n
 |.str s=> .str s
 |.ptr none=> .ptr none
 |.slice none n c=> .slice none n c
 |.nilFunc=> .nilFunc
 |.nilIface=> .nilIface
def J.fc(r:Nat->Nat):List J->List J
 |[]=> []
 |a::l=>J.aO r a::J.fc r l
end
def J.zt(r:Nat->Nat):∀(l:List J),J.fc r l=l.map (J.aO r)
 |[]=>rfl
 |a::l=>by simp [J.fc,J.zt r l]
mutual
def bR(D:Nat->Prop):J->Prop
 |.ptr (some a)=>D a.id
 |.slice (some a) _ _=>D a.id
 |.func _ f c=>dO D f/\dO D c
 |.iface _ v=>bR D v
 |.agg cs=>dO D cs
 |.tuple vs=>dO D vs
 |.undef=>True
 |.bool _=>True
 |.int _ _=>True
 |.str _=>True
 |.ptr none=>True
 |.slice none _ _=>True
 |.nilFunc=>True
 |.nilIface=>True
def dO(D:Nat->Prop):List J->Prop
 |[]=>True
 |a::l=>bR D a/\dO D l
end
def pw{D:Nat->Prop} :∀{l:List J},dO D l↔ ∀a∈l,bR D a
 |[]=>by simp [dO]
 |a::l=>by simp [dO,pw (l:=l)]
mutual
def aA.aO{φ cn:Map}{r:Nat->Nat}(h:∀i v p,φ i v=some p->cn (r i) v=some p):∀{a:J}{v:Value},aA φ a v->aA cn (a.aO r) v
 |.undef,_,_=>by simp [aA,J.aO]
 |.bool b,v,k=>by simpa [aA,J.aO]using k
 |.int _ n,v,k=>by simpa [aA,J.aO]using k
 |.str s,v,k=>by simpa [aA,J.aO]using k
 |.ptr none,v,k=>by simpa [aA,J.aO]using k
 |.ptr (some a),v,k=>by simp only [aA,J.aO]at k⊢;obtain⟨x,e,p,ae,q⟩:=k;exact⟨x,e,p,h _ _ _ ae,q⟩
 |.slice none len cap,v,k=>by simpa [aA,J.aO]using k
 |.slice (some a) len cap,v,k=>by
  simp only [aA,J.aO]at k⊢;obtain⟨x,c,e,l,l2,q⟩:=k;refine⟨x,c,e,l,l2,?_⟩;rcases q with ⟨d,p,ae,q⟩|⟨f,d,p,ae,q⟩
  .exact .inl ⟨d,p,h _ _ _ ae,q⟩
  .exact .inr ⟨f,d,p,h _ _ _ ae,q⟩
 |.func fn f c,v,k=>by simp only [aA,J.aO]at k⊢;obtain⟨j,g,e,m,o⟩:=k;exact⟨j,g,e,bo.aO h m,bo.aO h o⟩
 |.nilFunc,v,k=>by simpa [aA,J.aO]using k
 |.iface t a,v,k=>by simp only [aA,J.aO]at k⊢;obtain⟨x,e,q⟩:=k;exact⟨x,e,aA.aO h q⟩
 |.nilIface,v,k=>by simpa [aA,J.aO]using k
 |.agg cs,v,k=>by simp only [aA,J.aO]at k⊢;obtain⟨x,e,q⟩:=k;exact⟨x,e,bo.aO h q⟩
 |.tuple cs,v,k=>by simp only [aA,J.aO]at k⊢;obtain⟨x,e,q⟩:=k;exact⟨x,e,bo.aO h q⟩
def bo.aO{φ cn:Map}{r:Nat->Nat}(h:∀i v p,φ i v=some p->cn (r i) v=some p):∀{l:List J}{t:List Value},bo φ l t->bo cn (J.fc r l) t
 |[],t,k=>by simpa [bo,J.fc]using k
 |a::l,t,k=>by simp only [bo,J.fc]at k⊢;obtain⟨v,d,e,b,c⟩:=k;exact⟨v,d,e,aA.aO h b,bo.aO h c⟩
end
mutual
def aA.jj{φ cn:Map}{r:Nat->Nat}{D:Nat->Prop}(h:∀i,D i-> ∀v p,cn (r i) v=some p->φ i v=some p):∀{a:J}{v:Value},bR D a->aA cn (a.aO r) v->aA φ a v
 |.undef,_,_,_=>by simp [aA]
 |.bool b,v,_,k=>by simpa [aA,J.aO]using k
 |.int _ n,v,_,k=>by simpa [aA,J.aO]using k
 |.str s,v,_,k=>by simpa [aA,J.aO]using k
 |.ptr none,v,_,k=>by simpa [aA,J.aO]using k
 |.ptr (some a),v,c,k=>by simp only [aA,J.aO,bR]at k c⊢;obtain⟨x,e,p,ae,q⟩:=k;exact⟨x,e,p,h _ c _ _ ae,q⟩
 |.slice none len cap,v,_,k=>by simpa [aA,J.aO]using k
 |.slice (some a) len cap,v,d,k=>by
  simp only [aA,J.aO,bR]at k d⊢;obtain⟨x,c,e,m,l2,q⟩:=k;refine⟨x,c,e,m,l2,?_⟩;rcases q with ⟨g,p,ae,q⟩|⟨f,g,p,ae,q⟩
  .exact .inl ⟨g,p,h _ d _ _ ae,q⟩
  .exact .inr ⟨f,g,p,h _ d _ _ ae,q⟩
 |.func fn f c,v,d,k=>by simp only [aA,J.aO,bR]at k d⊢;obtain⟨l,j,e,o,u⟩:=k;exact⟨l,j,e,bo.jj h d.1 o,bo.jj h d.2 u⟩
 |.nilFunc,v,_,k=>by simpa [aA,J.aO]using k
 |.iface t a,v,d,k=>by simp only [aA,J.aO,bR]at k d⊢;obtain⟨x,e,q⟩:=k;exact⟨x,e,aA.jj h d q⟩
 |.nilIface,v,_,k=>by simpa [aA,J.aO]using k
 |.agg cs,v,d,k=>by simp only [aA,J.aO,bR]at k d⊢;obtain⟨x,e,q⟩:=k;exact⟨x,e,bo.jj h d q⟩
 |.tuple cs,v,d,k=>by simp only [aA,J.aO,bR]at k d⊢;obtain⟨x,e,q⟩:=k;exact⟨x,e,bo.jj h d q⟩
def bo.jj{φ cn:Map}{r:Nat->Nat}{D:Nat->Prop}(h:∀i,D i-> ∀v p,cn (r i) v=some p->φ i v=some p):∀{l:List J}{t:List Value},dO D l->bo cn (J.fc r l) t->bo φ l t
 |[],t,_,k=>by simpa [bo,J.fc]using k
 |a::l,t,c,k=>by simp only [bo,J.fc,dO]at k c⊢;obtain⟨v,f,e,b,d⟩:=k;exact⟨v,f,e,aA.jj h c.1 b,bo.jj h c.2 d⟩
end
def aa.aO(r:Nat->Nat)(b:aa):aa:= {b with bg:=b.bg.map (J.aO r)}
def aa.EQ(r:Nat->Nat)(b:aa)(v:Nat):(b.aO r).b6 v=b.b6 v:=by show(if v=b.ad then(b.bg.map (J.aO r)).length else if b.eH<=v/\v<b.ad then b.fo else 0)=b.b6 v;rw [iF];rfl
def J.vL(r:Nat->Nat)(e:J):(e.aO r).cells=e.cells.map (J.aO r):=by
 cases e with
 |ptr o=>cases o<;>simp [J.aO,J.cells]
 |slice o n c=>cases o<;>simp [J.aO,J.cells]
 |agg l=>simp [J.aO,J.cells,J.zt]
 |_=>simp [J.aO,J.cells]
def Row.aO{φ cn:Map}{r:Nat->Nat}(h:∀i v p,φ i v=some p->cn (r i) v=some p){S d:Nat->Prop}{b:aa}{v:Nat}{p:Place}{w:World}(k:Row φ S b v p w)(f:p.ro=false-> ¬d p.bQ):Row cn d (b.aO r) v p w where
 bQ:=k.bQ
 base:=f
 cells:=k.cells
 free:=k.free
 mark:=k.mark
 hr:=k.hr
 cont i e Y ag a:=by rw [aa.EQ]at ag;simp only [aa.aO,hD,cb]at a;obtain⟨e0,a,rfl⟩:=a;obtain⟨g,l,m⟩:=k.cont i e0 Y ag a;refine⟨by rw [J.vL,iF];exact g,l,λj bD c=> ?_⟩;rw [J.vL,hD,cb]at c;obtain⟨ij,c,rfl⟩:=c;obtain⟨x,g1,g2,g3⟩:=m j ij c;exact⟨x,g1,aA.aO h g2,g3⟩
def bR.cells{D:Nat->Prop}{e:J}(h:bR D e):∀x∈e.cells,bR D x:=by
 intro x a;cases e with
 |agg l=>simp only [bR]at h;exact pw.1 h x (by simpa [J.cells]using a)
 |ptr o=>cases o<;>(simp only [J.cells,cF]at a;subst a;exact h)
 |slice o n c=>cases o<;>(simp only [J.cells,cF]at a;subst a;exact h)
 |_=>simp only [J.cells,cF]at a;subst a;exact h
def Row.jj{φ cn:Map}{r:Nat->Nat}{D:Nat->Prop}(h:∀i,D i-> ∀v p,cn (r i) v=some p->φ i v=some p){S a:Nat->Prop}{b:aa}{v:Nat}{p:Place}{w:World}(aj:∀e∈b.bg,bR D e)(k:Row cn S (b.aO r) v p w)
 (l:p.ro=false-> ¬a p.bQ):Row φ a b v p w where
 bQ:=k.bQ
 base:=l
 cells:=k.cells
 free:=k.free
 mark:=k.mark
 hr:=k.hr
 cont i e Y ag c:=by
  have g:(b.aO r).bg[i]? =some (e.aO r):=by simp [aa.aO,c]
  obtain⟨f,m,n⟩:=k.cont i (e.aO r) Y (by rw [aa.EQ];exact ag) g;rw [J.vL,iF]at f;refine⟨f,m,λj bD d=> ?_⟩;obtain⟨x,g1,g2,g3⟩:=n j (bD.aO r) (by rw [J.vL,hD,d];rfl);exact⟨x,g1,aA.jj h ((aj e (gx c)).cells bD (gx d)) g2,g3⟩
def Row.at{φ cn:Map}(h:φ.le cn){S:Nat->Prop}{b:aa}{v:Nat}{p:Place}{w a7:World}(k:Row φ S b v p w)(hs:w.heap.size<=a7.heap.size)(a:a7.heap[p.bQ]? =w.heap[p.bQ]?):Row cn S b v p a7 where
 bQ:=kf k.bQ hs
 base:=k.base
 cells o c:=by have:=k.cells o c;simp only [World.cell?,a]at this⊢; exact this
 free d o c:=by have:=k.free d o c;simp only [World.frozen?,a]at this⊢; exact this
 mark d:=(k.mark d).of_eq (pk a)
 hr t g:=by rw [pk a];exact k.hr t g
 cont i e Y ag f:=by obtain⟨m,n,q⟩:=k.cont i e Y ag f;refine⟨m,n,λj bD l=> ?_⟩;obtain⟨x,g1,g2,g3⟩:=q j bD l;refine⟨x,?_,aA.mono h g2,g3⟩;simp only [World.cell?,Place.at,a]at g1⊢; exact g1
def In(h:T)(i:Nat):Prop:=(h.get i).isSome=true
structure vM(r:Nat->Nat)(h H:T):Prop where
 get:∀i b,h.get i=some b->i<h.M/\H.get (r i)=some (b.aO r)
 inj:∀i j,In h i->In h j->r i=r j->i=j
 dj:∀i b,h.get i=some b-> ∀e∈b.bg,bR (In h) e
open Classical in
def gN(cn:Map)(r:Nat->Nat)(h:T):Map:=λi v=>if In h i then cn (r i) v else none
def jk{cn:Map}{r:Nat->Nat}{h:T}{i v:Nat}{p:Place}(k:gN cn r h i v=some p):In h i/\cn (r i) v=some p:=by
 unfold gN at k;split at k
 .rename_i ah;exact⟨ah,k⟩
 .cases k
def mD{cn:Map}{r:Nat->Nat}{h:T}{i v:Nat}(ah:In h i):gN cn r h i v=cn (r i) v:=by unfold gN;rw [az ah]
def cv.gN{cn:Map}{S l:Nat->Prop}{H h:T}{w:World}{r:Nat->Nat}(k:cv cn S H w)(hw:vM r h H)(m:∀i v p,gN cn r h i v=some p->p.ro=false-> ¬l p.bQ):cv (gN cn r h) l h w where
 cN i v p ae:=by obtain⟨ah,c⟩:=jk ae;obtain⟨b,a⟩:=nF.1 ah;obtain⟨Y,ag⟩:=hw.get i b a;obtain⟨D,B,g,s,t,x,y,z,C⟩:=k.cN _ _ _ c;rw [ag]at g;simp only [a8]at g;subst g;exact⟨Y,b,a,s,t,x,y,z,C.jj (λi ah v p ae=>by rw [mD ah];exact ae) (hw.dj i b a) (m i v p ae)⟩
 apart i v p j u q ae c a o:=by obtain⟨ah,d⟩:=jk ae;obtain⟨n,f⟩:=jk c;exact k.apart _ _ _ _ _ _ d f a λe=>o (hw.inj i j ah n e)
 same i v p u q ae c a:=by obtain⟨ah,d⟩:=jk ae;obtain⟨_,f⟩:=jk c;exact k.same _ _ _ _ _ d f a
class ik (C:(Nat->Prop)->World->Prop):Prop where
 mono:∀{aR sU:Nat->Prop}{aV w:World},dS aR aV.heap.size->C aR aV->Safe aR aV w->(∀x,aR x->sU x)->C sU w
def bj(P:Program)(C:(Nat->Prop)->World->Prop)(f:FuncId)(args:List J)(h:T)(v:J)(Z:T):Prop :=
 ∀(aR:Nat->Prop)(aV:World),dS aR aV.heap.size->C aR aV-> ∀(φ:Map)(w:World)(b:Array Value),cv φ aR h w->Safe aR aV w->bo φ args b.toList ->
  (∃fn c,P.funcs[f]? =some fn/\fn.body=some c) /\
  Calls P f b w λe a7=> ∃d a,e=.returned d/\dM φ a h.M/\aA a v d/\cv a aR Z a7/\Safe aR aV a7/\h.M<=Z.M
variable {C:(Nat->Prop)->World->Prop}
def bj.Nz{P:Program}{f:FuncId}{g:vt}(k:zg P C f g){args:List J}{h Z:T}{v:J}(ab:g args h=some (v,Z)):bj P C f args h v Z :=
 λaR aV e eh φ w a d c b=>k aR aV e eh args h v Z ab φ w a d c b
def bj.lG{P:Program}{E:bi}(d:fa P E)(i:P.follows .mixedOrders=true){n:Nat}{f:FuncId}{args:List J}{h Z:T}{v:J}(aj:jH P E n f args h=some (v,Z)):bj P E.cond f args h v Z :=
 λaR aV g eh φ w a e c b=>Nt d g eh i n f args h v Z aj φ w a e c b
open Classical in
def push(cn a:Map)(r:Nat->Nat):Map:=λj u=>if k:∃i p,r i=j/\a i u=some p then a k.choose u else cn j u
def bj.frame{P:Program}[bs:ik C]{f:FuncId}{args:List J}{h Z:T}{v:J}(k:bj P C f args h v Z){r:Nat->Nat}{H H':T}(hw:vM r h H)(ce:dO (In h) args)
 (E:∀i,h.M<=i->r i=H.M+(i-h.M)) (cs:∀i b,Z.get i=some b->(In h i\/h.M<=i)->H'.get (r i)=some (b.aO r)) (c3:H'.M=H.M+(Z.M-h.M))
 (c4:∀j,j<H.M->(∀i,In h i->r i≠j)->H'.get j=H.get j):bj P C f (args.map (J.aO r)) H (v.aO r) H':=by
 intro S aV a0 bv cn w W s Q am
 let φ:=gN cn r h
 let L:Nat->Prop:=λx=>S x\/(x<w.heap.size/\∀i v p,φ i v=some p->p.ro=false->p.bQ≠x)
 have c2:dS L w.heap.size:=by
  rintro x (n|n)
  .exact kf (a0 x n) Q.size
  .exact n.1
 have co:∀i v p,φ i v=some p->p.ro=false-> ¬L p.bQ:=by
  rintro i v p ae z (n|n)
  .obtain⟨_,a⟩:=jk ae;obtain⟨_,B,_,_,_,_,_,_,O⟩:=s.cN _ _ _ a;exact O.base z n
  .exact n.2 i v p ae z rfl
 have c9:cv φ L h w:=s.gN hw co
 have bn:bo φ args W.toList:=by rw [<-J.zt]at am;exact bo.jj (λi ah v p ae=>by show gN cn r h i v=some p;rw [mD ah];exact ae) ce am
 obtain⟨l,aj⟩:=k L w c2 (bs.mono a0 bv Q λx n=> .inl n) φ w W c9 (Safe.refl _ _) bn;refine⟨l,aj.mono λe a7 ⟨dg,d,he,G,c5,N,hs,aw⟩=> ?_⟩
 have F:∀i u p,d i u=some p->(In h i/\r i<H.M)\/h.M<=i:=by
  intro i u p ae;by_cases ah:i<h.M
  .by_cases a2:In h i
   .left;refine⟨a2,?_⟩;by_cases hex:∃a9 a4,φ i a9=some a4
    .obtain⟨a9,a4,aM⟩:=hex;exact(s.cN _ _ _ (jk aM).2).1
    .have:=G.new i ah (λu=>by
      cases a:φ i u with
      |none=>rfl
      |some q=>exact absurd ⟨u,q,a⟩ hex) u
     rw [this]at ae;cases ae
   .have:=G.new i ah (λu=>by show gN cn r h i u=none;unfold br.gN;rw [ai a2]) u;rw [this]at ae;cases ae
  .exact .inr A
 have nY:∀i j u t p q,d i u=some p->d j t=some q->r i=r j->i=j:=by
  intro i j u t p q ae a e;rcases F i u p ae with ⟨ah,R⟩|ah<;>rcases F j t q a with ⟨I,d0⟩|I
  .exact hw.inj i j ah I e
  .rw [E j I]at e;omega
  .rw [E i ah]at e;omega
  .rw [E i ah,E j I]at e;omega
 have cw:∀i u p,d i u=some p->push cn d r (r i) u=some p:=by
  intro i u p ae;have hex:∃c m,r c=r i/\d c u=some m:=⟨i,p,rfl,ae⟩
  unfold push;rw [dif_pos hex];obtain⟨m,aQ,aZ⟩:=hex.choose_spec;rw [nY _ _ _ _ _ _ aZ ae aQ];exact ae
 have cy:∀j u,(¬∃i p,r i=j/\d i u=some p)->push cn d r j u=cn j u:=by intro j u hex;unfold push;rw [dif_neg hex]
 have et:∀j u p,cn j u=some p->(¬∃i p,r i=j/\d i u=some p)-> ∀i,In h i->r i≠j:=by
  intro j u p ae hex i ah e;subst e;have Y:φ i u=some p:=by show gN cn r h i u=some p;rw [mD ah];exact ae
  exact hex ⟨i,p,rfl,G.le _ _ _ Y⟩
 have il:(cn:Map).le (push cn d r):=by
  intro j u p ae;by_cases hex:∃i p,r i=j/\d i u=some p
  .obtain⟨i,q,rfl,a⟩:=hex;rw [cw i u q a];rcases F i u q a with ⟨ah,R⟩|ah
   .have Y:φ i u=some p:=by show gN cn r h i u=some p;rw [mD ah];exact ae
    rw [G.le _ _ _ Y]at a;exact a.symm
   .have:=(s.cN _ _ _ ae).1;rw [E i ah]at this;omega
  .rw [cy j u hex];exact ae
 have X:∀j u p,cn j u=some p->(∀i,In h i->r i≠j)->L p.bQ:=by intro j u p ae D;obtain⟨_,B,_,_,_,_,_,_,O⟩:=s.cN _ _ _ ae;refine .inr ⟨O.bQ,λi v q a z e=> ?_⟩;obtain⟨ah,y⟩:=jk a;have:=(s.apart _ _ _ _ _ _ y ae e (D i ah)).1;rw [z]at this;cases this
 refine⟨dg,push cn d r,he,⟨il,?_,?_⟩,aA.aO cw c5,⟨?_,?_,?_⟩,Q.trans (hs.less λi ah=> .inl ah),A⟩
 .intro j I a3 u;by_cases hex:∃i p,r i=j/\d i u=some p
  .obtain⟨i,q,rfl,a⟩:=hex;rcases F i u q a with ⟨ah,R⟩|ah
   .have ct:i<h.M:=by obtain⟨b,l⟩:=nF.1 ah;exact(hw.get i b l).1
    have:=G.new i ct (λu=>by show gN cn r h i u=none;rw [mD ah];exact a3 u) u;rw [this]at a;cases a
   .rw [E i ah]at I;omega
  .rw [cy j u hex];exact a3 u
 .intro j u p ae z;by_cases hex:∃i p,r i=j/\d i u=some p
  .obtain⟨i,q,rfl,a⟩:=hex;rw [cw i u q a]at ae;simp only [a8]at ae;subst ae;exact(jk (G.ro i u q a z)).2
  .rw [cy j u hex]at ae;exact ae
 .intro j u p ae;by_cases hex:∃i p,r i=j/\d i u=some p
  .obtain⟨i,q,rfl,a⟩:=hex;rw [cw i u q a]at ae;simp only [a8]at ae;subst ae;obtain⟨d1,b,d2,d3,d4,d5,d6,d7,d8⟩:=N.cN _ _ _ a
   have c0:In h i\/h.M<=i:=by
    rcases F i u q a with ⟨ah,_⟩|ah
    .exact .inl ah
    .exact .inr ah
   refine⟨?_,b.aO r,cs i b d2 c0,d3,d4,d5,d6,d7,d8.aO cw λz n=>d8.base z (.inl n)⟩;rcases F i u q a with ⟨_,R⟩|ah
   .omega
   .rw [E i ah,c3];omega
  .rw [cy j u hex]at ae;obtain⟨d1,B,d2,d3,d4,d5,d6,d7,d8⟩:=s.cN _ _ _ ae;have D:=et j u p ae hex;exact⟨A,B,by rw [c4 j d1 D];exact d2,d3,d4,d5,d6,d7,d8.at il hs.size (hs.block _ (X j u p ae D))⟩
 .have mixed:∀i u p j t q,d i u=some p->cn j t=some q->(∀i,In h i->r i≠j)->p.bQ=q.bQ->p.ro=true/\q.ro=true:=by
   intro i u p j t q ae a D l;have n:=X j t q a D;by_cases z:p.ro=true
   .obtain⟨ah,g⟩:=jk (G.ro i u p ae z);exact s.apart _ _ _ _ _ _ g a l (D i ah)
   .obtain⟨_,b,_,_,_,_,_,_,d8⟩:=N.cN _ _ _ ae;exact absurd (l▸n) (d8.base (by simpa using z))
  intro i u p j t q ae a l D;by_cases hex:∃c p,r c=i/\d c u=some p<;>by_cases o:∃c p,r c=j/\d c t=some p
  .obtain⟨c,m,rfl,g⟩:=hex;obtain⟨K,a5,rfl,y⟩:=o;rw [cw _ _ _ g]at ae;rw [cw _ _ _ y]at a;simp only [a8]at ae a;subst ae;subst a;exact N.apart _ _ _ _ _ _ g y l λe=>D (by rw [e])
  .obtain⟨c,m,rfl,g⟩:=hex;rw [cw _ _ _ g]at ae;rw [cy _ _ o]at a;simp only [a8]at ae;subst ae;exact mixed _ _ _ _ _ _ g a (et j t q a o) l
  .obtain⟨K,a5,rfl,y⟩:=o;rw [cy _ _ hex]at ae;rw [cw _ _ _ y]at a;simp only [a8]at a;subst a;exact(mixed _ _ _ _ _ _ y ae (et i u p ae hex) l.symm).symm
  .rw [cy _ _ hex]at ae;rw [cy _ _ o]at a;exact s.apart _ _ _ _ _ _ ae a l D
 .intro i u p t q ae a l
  have both:∀c m,r c=i-> ∀U,d c U=some m-> ∀t q,push cn d r i t=some q->d c t=some q:=by
   intro c m e U g t q a;by_cases o:∃K p,r K=i/\d K t=some p
   .obtain⟨K,a5,aZ,y⟩:=o;have:=nY c K _ _ _ _ g y (by rw [e,aZ]);subst this;rw [<-aZ,cw _ _ _ y]at a;rw [y];exact a
   .rw [cy _ _ o]at a;rcases F c U m g with ⟨ah,_⟩|ah
    .exact absurd e (et i t q a o c ah)
    .have:=(s.cN _ _ _ a).1;rw [<-e,E c ah]at this;omega
  by_cases hex:∃c p,r c=i/\d c u=some p
  .obtain⟨c,m,e,g⟩:=hex;exact N.same c _ _ _ _ (both c m e u g u p ae) (both c m e u g t q a) l
  .by_cases o:∃c p,r c=i/\d c t=some p
   .obtain⟨c,m,e,g⟩:=o;exact N.same c _ _ _ _ (both c m e t g u p ae) (both c m e t g t q a) l
   .rw [cy _ _ hex]at ae;rw [cy _ _ o]at a;exact s.same _ _ _ _ _ ae a l
end
noncomputable section
section
variable {β:Type}
def fe(n:Nat)(k:Nat->β):β:=Nat.rec (motive:=λ_=>β) (k 0) (λm _=>k (Nat.succ m)) n
def km(n:Nat)(k:Nat->β):fe n k=k n:=by cases n<;>rfl
def zu(n:Int)(k:Int->β):β :=
 match n with
 |.ofNat m=>fe m λm=>k (.ofNat m)
 |.negSucc m=>fe m λm=>k (.negSucc m)
def NA(n:Int)(k:Int->β):zu n k=k n:=by cases n<;>simp [zu,km]
def ER(d:IntKind)(k:IntKind->β):β :=
 match d with
 |.i8=>k .i8|.i16=>k .i16|.i32=>k .i32|.i64=>k .i64|.u8=>k .u8|.u16=>k .u16|.u32=>k .u32|.u64=>k .u64
def NB(d:IntKind)(k:IntKind->β):ER d k=k d:=by cases d<;>rfl
def qT(b:Bool)(k:Bool->β):β :=
 match b with
 |true=>k true
 |false=>k false
def ES(b:Bool)(k:Bool->β):qT b k=k b:=by cases b<;>rfl
def vN(a:bB)(k:bB->β):β :=
 match a with
 |⟨a,b,c,d,e⟩=>fe a λa=>fe b λb=>fe c λc=>fe d λd=>fe e λe=>k ⟨a,b,c,d,e⟩
def ET(a:bB)(k:bB->β):vN a k=k a:=by cases a;simp [vN,km]
def zv(b:UInt8)(k:UInt8->β):β :=
 match b with
 |⟨⟨⟨n,h⟩⟩⟩=>fe n λm=>k (UInt8.ofNat m)
def NC(b:UInt8)(k:UInt8->β):zv b k=k b:=by
 obtain⟨⟨⟨n,h⟩⟩⟩:=b;simp only [zv,km]
 congr 1
 apply fz.1;simp [UInt8.toNat,UInt8.ofNat];omega
def vO:List UInt8->(List UInt8->β)->β
 |[],k=>k []
 |b::r,k=>zv b λb=>vO r λr=>k (b::r)
def EU:∀(l:List UInt8)(k:List UInt8->β),vO l k=k l
 |[],k=>rfl
 |b::r,k=>by simp only [vO,NC,EU r]
def px(v:J)(k:J->β):β :=
 match v with
 |.undef=>k .undef
 |.bool b=>qT b λb=>k (.bool b)
 |.int d n=>ER d λd=>zu n λn=>k (.int d n)
 |.str s=>vO s λs=>k (.str s)
 |.ptr none=>k (.ptr none)
 |.ptr (some a)=>vN a λa=>k (.ptr (some a))
 |.slice none n c=>fe n λn=>fe c λc=>k (.slice none n c)
 |.slice (some a) n c=>vN a λa=>fe n λn=>fe c λc=>k (.slice (some a) n c)
 |.nilFunc=>k .nilFunc
 |.nilIface=>k .nilIface
 |.func a b c=>k (.func a b c)
 |.iface t v=>k (.iface t v)
 |.agg l=>k (.agg l)
 |.tuple l=>k (.tuple l)
def EV(v:J)(k:J->β):px v k=k v:=by
 cases v with
 |ptr o=>cases o<;>simp [px,ET]
 |slice o n c=>cases o<;>simp [px,ET,km]
 |_=>simp [px,ES,NB,NA,EU]
def py:List J->(List J->β)->β
 |[],k=>k []
 |a::r,k=>px a λa=>py r λr=>k (a::r)
def EW:∀(l:List J)(k:List J->β),py l k=k l
 |[],k=>rfl
 |a::r,k=>by simp only [py,EV,EW r]
def sV(v:J)(k:J->β):β :=
 match v with
 |.agg l=>py l λl=>k (.agg l)
 |.iface t v=>fe t λt=>px v λv=>k (.iface t v)
 |.func a b c=>py b λb=>py c λc=>k (.func a b c)
 |.tuple l=>py l λl=>k (.tuple l)
 |v=>px v k
def EX(v:J)(k:J->β):sV v k=k v:=by unfold sV;split<;>simp [EV,EW,km]
def qU:List J->(List J->β)->β
 |[],k=>k []
 |a::r,k=>sV a λa=>qU r λr=>k (a::r)
def zw:∀(l:List J)(k:List J->β),qU l k=k l
 |[],k=>rfl
 |a::r,k=>by simp only [qU,EX,zw r]
def sW(v:J)(k:J->β):β :=
 match v with
 |.tuple l=>qU l λl=>k (.tuple l)
 |.iface t v=>fe t λt=>sV v λv=>k (.iface t v)
 |v=>sV v k
def zx(v:J)(k:J->β):sW v k=k v:=by unfold sW;split<;>simp [EX,zw,km]
def zy(b:aa)(k:aa->β):β :=
 match b with
 |⟨l,es,ex,ro,v,m,f,none⟩=>qU l λl=>fe es λes=>qT ex λex=>qT ro λro=>fe v λv=>fe m λm=>fe f λf=>k ⟨l,es,ex,ro,v,m,f,none⟩
 |⟨l,es,ex,ro,v,m,f,some (t,n)⟩=>qU l λl=>fe es λes=>qT ex λex=>qT ro λro=>fe v λv=>fe m λm=>fe f λf=>k ⟨l,es,ex,ro,v,m,f,some (t,n)⟩
def ND(b:aa)(k:aa->β):zy b k=k b:=by obtain⟨l,es,ex,ro,v,m,f,ty⟩:=b;cases ty<;>simp [zy,zw,km,ES]
def eJ(n:Nat)(t:aI J):List J:=(List.range n).map λi=>(t.get i).getD eR
def vP(n:Nat)(t:aI J)(i:Nat):(eJ n t)[i]? =if i<n then some ((t.get i).getD eR)else none:=by
 simp only [eJ,hD];by_cases h:i<n
 .rw [u9 h,az h];rfl
 .rw [ib (by simpa using h),ai h];rfl
def vQ(n:Nat)(t:aI J)(i:Nat):Option J:=cond (Nat.blt i n) (some (Option.rec (motive:=λ_=>J) eR (λv=>v) (t.get i))) none
def EY(n:Nat)(t:aI J)(i:Nat):vQ n t i=(eJ n t)[i]? :=by
 rw [vP];unfold vQ;by_cases h:i<n
 .rw [show Nat.blt i n=true by simpa [eG]using h,az h];cases t.get i<;>rfl
 .rw [show Nat.blt i n=false by cases a:Nat.blt i n with|false=>rfl|true=>exact absurd (eG.mp a) h,ai h];rfl
def jM(n:Nat)(t:aI J)(o:Operand):J :=
 match o with
 |.tmp i=>cond (Nat.blt i n) (Option.rec (motive:=λ_=>J) eR (λv=>v) (t.get i)) .undef
 |.const v=>nL v
 |.global _=> .undef
 |.func f=> .func (.func f) [] []
def sX(n:Nat)(t:aI J):jM n t=cA (eJ n t):=by
 funext o
 cases o with
 |tmp i =>
  have:=EY n t i;simp only [cA,hC,<-this];unfold vQ;show cond (Nat.blt i n) (Option.rec (motive:=λ_=>J) eR (λv=>v) (t.get i)) .undef=_;cases Nat.blt i n<;>rfl
 |const v=>rfl
 |global g=>rfl
 |func f=>rfl
def NE(n:Nat)(t:aI J)(d:Nat)(v:J):eJ n (t.set d v)=(eJ n t).set d v:=by
 apply o9;intro i;rw [vP,List.getElem?_set,vP];by_cases h:i<n
 .simp only [h,dG,aI.iK];by_cases a:d=i
  .subst a;simp [eJ,h]
  .simp [a]
 .simp only [h,ez];by_cases a:d=i
  .subst a;simp [eJ,h]
  .simp [a]
section
variable {α:Type}
def vR(f:Nat):Nat->α->(aI α->β)->β :=
 Nat.rec (motive:=λ_=>Nat->α->(aI α->β)->β) (λ_ v c=>c (.node (some v) .nil .nil))
  (λ_ ih k v c=>cond (Nat.beq k 0) (c (.node (some v) .nil .nil)) (cond (Nat.beq (Nat.mod k 2) 1) (ih (Nat.div k 2) v λu=>c (.node none u .nil)) (ih (Nat.sub (Nat.div k 2) 1) v λu=>c (.node none .nil u)))) f
def zz:∀(f k:Nat)(v:α)(c:aI α->β),vR f k v c=c (aI.gm f k v)
 |0,k,v,c=>rfl
 |f +1,k,v,c=>by
  show cond (Nat.beq k 0) (c (.node (some v) .nil .nil)) (cond (Nat.beq (k%2) 1) (vR f (k/2) v λu=>c (.node none u .nil)) (vR f (k/2-1) v λu=>c (.node none .nil u))) =
   c (cond (Nat.beq k 0) (.node (some v) .nil .nil) (cond (Nat.beq (k%2) 1) (.node none (aI.gm f (k/2) v) .nil) (.node none .nil (aI.gm f (k/2-1) v))))
  rw [zz f,zz f];cases Nat.beq k 0<;>cases Nat.beq (k%2) 1<;>rfl
def sY(t:aI α):Nat->α->(aI α->β)->β :=
 aI.rec (motive:=λ_=>Nat->α->(aI α->β)->β) (λk v c=>vR k k v c)
  (λo l r aB a k v c=>cond (Nat.beq k 0) (c (.node (some v) l r)) (cond (Nat.beq (Nat.mod k 2) 1) (aB (Nat.div k 2) v λu=>c (.node o u r)) (a (Nat.sub (Nat.div k 2) 1) v λu=>c (.node o l u)))) t
def vS:∀(t:aI α)(k:Nat)(v:α)(c:aI α->β),sY t k v c=c (t.set k v)
 |.nil,k,v,c=>zz k k v c
 |.node o l r,k,v,c=>by
  show cond (Nat.beq k 0) (c (.node (some v) l r)) (cond (Nat.beq (k%2) 1) (sY l (k/2) v λu=>c (.node o u r)) (sY r (k/2-1) v λu=>c (.node o l u))) =
   c (cond (Nat.beq k 0) (.node (some v) l r) (cond (Nat.beq (k%2) 1) (.node o (l.set (k/2) v) r) (.node o l (r.set (k/2-1) v))))
  rw [vS l,vS r];cases Nat.beq k 0<;>cases Nat.beq (k%2) 1<;>rfl
def vT(f:α->(α->β)->β)(t:aI α):Nat->(aI α->β)->β :=
 aI.rec (motive:=λ_=>Nat->(aI α->β)->β) (λ_ c=>c .nil)
  (λo l r a cd k c=>cond (Nat.beq k 0) (Option.rec (motive:=λ_=>β) (c (.node none l r)) (λb=>f b λb=>c (.node (some b) l r)) o) (cond (Nat.beq (Nat.mod k 2) 1) (a (Nat.div k 2) λu=>c (.node o u r)) (cd (Nat.sub (Nat.div k 2) 1) λu=>c (.node o l u)))) t
def zA{f:α->(α->β)->β}(d:∀a k,f a k=k a):∀(t:aI α)(k:Nat)(c:aI α->β),vT f t k c=c t
 |.nil,k,c=>rfl
 |.node o l r,k,c=>by show cond (Nat.beq k 0) (Option.rec (motive:=λ_=>β) (c (.node none l r)) (λb=>f b λb=>c (.node (some b) l r)) o) (cond (Nat.beq (k%2) 1) (vT f l (k/2) λu=>c (.node o u r)) (vT f r (k/2-1) λu=>c (.node o l u)))=_;rw [zA d l,zA d r];cases o<;>cases Nat.beq k 0<;>cases Nat.beq (k%2) 1<;>simp [d]
end
def qV(s:aI J)(d:Option Tmp)(v:J)(k:aI J->β):β:=Option.rec (motive:=λ_=>β) (k s) (λd=>sY s d v k) d
def NF(n:Nat)(s:aI J)(d:Option Tmp)(v:J)(k:aI J->β):qV s d v k=k (Option.rec (motive:=λ_=>aI J) s (λd=>s.set d v) d):=by cases d<;>simp [qV,vS]
def vU(n:Nat)(s:aI J)(d:Option Tmp)(v:J):eJ n (Option.rec (motive:=λ_=>aI J) s (λd=>s.set d v) d)=fT (eJ n s) d v:=by cases d<;>simp [fT,NE]
def zB(id:Nat)(h:T)(k:T->β):β :=
 match h with
 |⟨n,l⟩=>vT zy l id λl=>k ⟨n,l⟩
def NG(id:Nat)(h:T)(k:T->β):zB id h k=k h:=by cases h;simp [zB,zA ND]
def zC(h:T)(k:T->β):β :=
 match h with
 |⟨n,l⟩=>fe n λn=>k ⟨n,l⟩
def NH(h:T)(k:T->β):zC h k=k h:=by cases h;simp [zC,km]
inductive zD where
 |no|at (id:Nat)|all
def vV(t:zD)(h:T)(k:T->β):β :=
 match t with
 |.no=>k h
 |.at id=>zB id h k
 |.all=>zC h k
def NI(t:zD)(h:T)(k:T->β):vV t h k=k h:=by cases t<;>simp [vV,NG,NH]
def EZ(v:J)(k:J->β):β :=
 match v with
 |.undef=>k .undef
 |.bool b=>k (.bool b)
 |.int d n=>k (.int d n)
 |.str s=>k (.str s)
 |.ptr a=>k (.ptr a)
 |.slice a n c=>k (.slice a n c)
 |.nilFunc=>k .nilFunc
 |.nilIface=>k .nilIface
 |.func a b c=>k (.func a b c)
 |.iface t v=>k (.iface t v)
 |.agg l=>k (.agg l)
 |.tuple l=>k (.tuple l)
def NJ(v:J)(k:J->β):EZ v k=k v:=by cases v<;>rfl
def shallow(o:Op):Bool :=
 match o with
 |.move (.tmp _)|.assign (.tmp _)|.pick _ (.tmp _) (.tmp _)|.extract _ _|.load _ _=>true
 |.call c=>match c.callee with|.value _=>true|_=>false
 |_=>false
def vW(o:Op)(v:J)(k:J->β):β:=cond (shallow o) (EZ v k) (sW v k)
def NK(o:Op)(v:J)(k:J->β):vW o v k=k v:=by unfold vW;cases shallow o<;>simp [NJ,zx]
end
def E0(nid:Nat)(ρ:Operand->J)(o:Op)(v:J):zD :=
 match o with
 |.alloc _|.box _ _|.buildSlice _ _ _|.makeSlice _ _ _=> .at nid
 |.store _ a _=>match ρ a with|.ptr (some a)=> .at a.id|_=> .no
 |.call c =>
  match c.callee with
  |.value _=> .all
  |.builtin .append=>match v with|.slice (some a) _ _=> .at a.id|_=> .no
  |_=> .no
 |.convert _ _ _=>match v with|.slice (some a) _ _=> .at a.id|_=> .no
 |_=> .no
section
variable {E:bi}
def sZ(ops:Array Oper)(n:Nat)(s:aI J)(o:Oper):Option Bool :=
 match o.guard with
 |none=>some true
 |some (j,want) =>
  match (ops[j]?).bind (·.dst)with
  |some d =>
   match vQ n s d with
   |some (.bool b)=>some (b == want)
   |some (.tuple [])=>some false
   |_=>none
  |none=>none
def E1(ops:Array Oper)(n:Nat)(s:aI J)(o:Oper):sZ ops n s o=hp ops (eJ n s) o:=by unfold sZ hp;simp only [EY];rfl
structure gC where
 dH:aI J
 heap:T
def gC.to(n:Nat)(s:gC):dX:=⟨eJ n s.dH,s.heap⟩
def nZ(E:bi)(call:cR)(ops:Array Oper)(draw:Bool)(n a:Nat)(l:List Oper):Nat->aI J->T->Option gC :=
 List.rec (motive:=λ_=>Nat->aI J->T->Option gC) (λ_ s h=>some ⟨s,h⟩)
  (λo _ ih i s h =>
   match sZ ops n s o with
   |some true =>
    match (cond draw (ee E call ops a i (jM n s) h o.op) (ho E call (Nat.add a i) (jM n s) h o.op))with
    |some (v,Z)=>vW o.op v λv=>vV (E0 (Nat.add a i) (jM n s) o.op v) Z λZ=>qV s o.dst v λb=>ih (Nat.succ i) b Z
    |none=>none
   |some false=>qV s o.dst eR λb=>ih (Nat.succ i) b h
   |none=>none) l
def E2(call:cR)(ops:Array Oper)(draw:Bool)(n a i:Nat)(s:aI J)(h:T)(o:Oper)(r:List Oper):nZ E call ops draw n a (o::r) i s h =
 match sZ ops n s o with
 |some true =>
  match (cond draw (ee E call ops a i (jM n s) h o.op) (ho E call (a+i) (jM n s) h o.op))with
  |some (v,Z)=>nZ E call ops draw n a r (i+1) (Option.rec (motive:=λ_=>aI J) s (λd=>s.set d v) o.dst) Z
  |none=>none
 |some false=>nZ E call ops draw n a r (i+1) (Option.rec (motive:=λ_=>aI J) s (λd=>s.set d eR) o.dst) h
 |none=>none:=by
 show (match sZ ops n s o with
  |some true =>
   match (cond draw (ee E call ops a i (jM n s) h o.op) (ho E call (a+i) (jM n s) h o.op))with
   |some (v,Z)=>vW o.op v λv=>vV (E0 (a+i) (jM n s) o.op v) Z λZ=>qV s o.dst v λb=>nZ E call ops draw n a r (i+1) b Z
   |none=>none
  |some false=>qV s o.dst eR λb=>nZ E call ops draw n a r (i+1) b h
  |none=>none)=_
 simp only [NK,NI,NF n]
variable {ops:Array Oper}
def zE{call:cR}{n a:Nat} :∀(l:List Oper)(i:Nat)(s:aI J)(h:T),(∀j,l[j]? =ops[i+j]?) ->
 (nZ E call ops false n a l i s h).map (gC.to n)=lE E call ops a (List.range' i l.length) ⟨eJ n s,h⟩
 |[],i,s,h,_=>rfl
 |o ::r,i,s,h,c=>by
  have e:ops[i]? =some o:=by have:=c 0;simpa using this.symm
  have d:∀j,r[j]? =ops[i+1+j]? :=λj=>by have:=c (j+1);simp at this;rw [this];congr 1;omega
  rw [E2];simp only [bK,sj,lE,nQ,e,E1,sX,cond_false];cases hw:hp ops (eJ n s) o with
  |none=>rfl
  |some b =>
   cases b with
   |true =>
    simp only;cases f:ho E call (a+i) (cA (eJ n s)) h o.op with
    |none=>rfl
    |some p =>
     obtain⟨v,Z⟩:=p;simp only;rw [zE r (i+1) _ _ d,vU]
   |false =>
    simp only;rw [zE r (i+1) _ _ d,vU]
def zF{call:cR}{n a:Nat} :∀(l:List Oper)(i:Nat)(s:aI J)(h:T),(∀j,l[j]? =ops[i+j]?) ->
 (nZ E call ops true n a l i s h).map (gC.to n)=hG E call ops a (List.range' i l.length) ⟨eJ n s,h⟩
 |[],i,s,h,_=>rfl
 |o ::r,i,s,h,c=>by
  have e:ops[i]? =some o:=by have:=c 0;simpa using this.symm
  have d:∀j,r[j]? =ops[i+1+j]? :=λj=>by have:=c (j+1);simp at this;rw [this];congr 1;omega
  rw [E2];simp only [bK,sj,hG,jG,e,E1,sX,cond_true];cases hw:hp ops (eJ n s) o with
  |none=>rfl
  |some b =>
   cases b with
   |true =>
    simp only;cases f:ee E call ops a i (cA (eJ n s)) h o.op with
    |none=>rfl
    |some p =>
     obtain⟨v,Z⟩:=p;simp only;rw [zF r (i+1) _ _ d,vU]
   |false =>
    simp only;rw [zF r (i+1) _ _ d,vU]
def s0(E:bi)(call:cR)(ops:Array Oper)(draw:Bool)(n:Nat)(s:gC):Option gC :=
 match s with
 |⟨s,⟨a,l⟩⟩=>cond (!draw || my ops) (fe (Nat.add a ops.size) λm=>nZ E call ops draw n a ops.toList 0 s ⟨m,l⟩) none
def NL(call:cR)(ops:Array Oper)(draw:Bool)(n:Nat)(s:gC):(s0 E call ops draw n s).map (gC.to n)=pj E call ops draw (s.to n):=by
 obtain⟨s,d,l⟩:=s;have a:∀j:Nat,ops.toList[j]? =ops[0+j]? :=λj=> au
 have b:List.range ops.size=List.range' 0 ops.toList.length:=by rw [sk,fy]
 unfold s0 pj;cases draw with
 |false=>simp only [Bool.not_false,Bool.true_or,cond_true,km,ey,ez,zE _ _ _ _ a,b,gC.to,Nat.add_eq]
 |true =>
  cases c:my ops with
  |false=>simp
  |true=>simp only [Bool.not_true,sp,c,cond_true,dG,km,zF _ _ _ _ a,b,gC.to,Nat.add_eq]
def hH(E:bi)(call:cR)(n e:Nat):Option Code->Code->gC->Option (b8×gC) :=
 Nat.rec (motive:=λ_=>Option Code->Code->gC->Option (b8×gC)) (λ_ _ _=>none)
 (λm ih b c s =>
 match b with
 |some body =>
  match ih none c s with
  |some (.goto l,d) =>
   match findLabel body l with
   |some rest=>ih (some body) rest d
   |none=>some (.goto l,d)
  |r=>r
 |none =>
  match c with
  |.skip=>some (.normal,s)
  |.label _=>some (.normal,s)
  |.region _ ops draw =>
   match s0 E call ops draw n s with
   |some d=>some (.normal,d)
   |none=>none
  |.seq a b =>
   match ih none a s with
   |some (.normal,d)=>ih none b d
   |r=>r
  |.cond x a b =>
   match jM n s.dH x with
   |.bool true=>ih none a s
   |.bool false=>ih none b s
   |_=>none
  |.block id c =>
   match ih none c s with
   |some (.exit j,d)=>some (if j=id then .normal else .exit j,d)
   |r=>r
  |.loop c =>
   match ih none c s with
   |some (.normal,d)=>ih none (.loop c) d
   |r=>r
  |.scope c=>ih (some c) c s
  |.goto l=>some (.goto l,s)
  |.exit id=>some (.exit id,s)
  |.ret=>some (.ret,s)
  |_=>none) e
def mE(n:Nat)(p:b8×gC):b8×dX:=(p.1,p.2.to n)
def NM(call:cR)(k:Nat):∀(n:Nat)(b:Option Code)(c:Code)(s:gC),(hH E call k n b c s).map (mE k)=dL E call n b c (s.to k):=by
 intro n;induction n with
 |zero=>intro b c s;rfl
 |succ n ih =>
  intro b c s;cases b with
  |some body =>
   show Option.map (mE k) (match hH E call k n none c s with
    |some (.goto l,d) =>
     match findLabel body l with
     |some rest=>hH E call k n (some body) rest d
     |none=>some (.goto l,d)
    |r=>r)=_
   simp only [dL,<-ih];cases f:hH E call k n none c s with
   |none=>rfl
   |some p =>
    obtain⟨e,d⟩:=p;cases e with
    |goto l =>
     simp only [eE,mE];cases g:findLabel body l with
     |none=>rfl
     |some rest=>simp only [g];exact ih (some body) rest d
    |_=>rfl
  |none =>
   cases c
   case region id ops draw =>
    show Option.map (mE k) (match s0 E call ops draw k s with
     |some d=>some (.normal,d)
     |none=>none)=_
    simp only [dL,<-NL];cases s0 E call ops draw k s<;>rfl
   case seq a b =>
    show Option.map (mE k) (match hH E call k n none a s with
     |some (.normal,d)=>hH E call k n none b d
     |r=>r)=_
    simp only [dL,<-ih];cases f:hH E call k n none a s with
    |none=>rfl
    |some p=>obtain⟨e,d⟩:=p;cases e<;>first|exact ih none b d|rfl
   case cond x a b =>
    show Option.map (mE k) (match jM k s.dH x with
     |.bool true=>hH E call k n none a s
     |.bool false=>hH E call k n none b s
     |_=>none)=_
    simp only [dL,<-ih,sX];have he:cA (s.to k).dH x=cA (eJ k s.dH) x:=rfl;rw [he];cases cA (eJ k s.dH) x with
    |bool t=>cases t<;>rfl
    |_=>rfl
   case block id c =>
    show Option.map (mE k) (match hH E call k n none c s with
     |some (.exit j,d)=>some (if j=id then .normal else .exit j,d)
     |r=>r)=_
    simp only [dL,<-ih];cases f:hH E call k n none c s with
    |none=>rfl
    |some p=>obtain⟨e,d⟩:=p;cases e<;>rfl
   case loop c =>
    show Option.map (mE k) (match hH E call k n none c s with
     |some (.normal,d)=>hH E call k n none (.loop c) d
     |r=>r)=_
    simp only [dL,<-ih];cases f:hH E call k n none c s with
    |none=>rfl
    |some p=>obtain⟨e,d⟩:=p;cases e<;>first|exact ih none (.loop c) d|rfl
   case scope c=>exact ih (some c) c s
   all_goals rfl
def s3:List J->Nat->aI J->(aI J->Option (J×T))->Option (J×T)
 |[],_,t,k=>k t
 |v::r,i,t,k=>sW v λv=>sY t i v λt=>s3 r (Nat.succ i) t k
def E3:∀(l:List J)(i:Nat)(t:aI J) (k:aI J->Option (J×T)),
 ∃a,s3 l i t k=k a/\∀j,a.get j=if j<i then t.get j else if h:j-i<l.length then some l[j-i]else t.get j
 |[],i,t,k=>⟨t,rfl,λj=> au⟩
 |v ::r,i,t,k=>by
  obtain⟨a,Y,ag⟩:=E3 r (i+1) (t.set i v) k;refine⟨a,by simp only [s3,zx,vS];exact Y,λj=> ?_⟩;rw [ag j,aI.iK];by_cases b:j<i
  .rw [az A,ai A,az b]
  .rw [ai b];by_cases he:i=j
   .subst he;rw [az A,az rfl];simp
   .rw [ai A,ai he];by_cases c:j- (i+1)<r.length
    .rw [dif_pos c,dif_pos (by simp;omega)];obtain⟨m,hm⟩:∃m,j-i=m+1:=⟨j-i-1,A⟩
     have d:j- (i+1)=m:= A;simp only [hm,d,List.getElem_cons_succ]
    .rw [dif_neg c,dif_neg (by simp;omega)]
def NN{l:List J}{m:Nat}{t:aI J}(h:∀j,t.get j=if j<0 then(aI.nil:aI J).get j else if h:j-0<l.length then some l[j-0]else(aI.nil:aI J).get j) :
 eJ (l.length+(m-l.length)) t=l++List.replicate (m-l.length) eR:=by
 apply o9;intro i;rw [vP,h i,ai (Nat.not_lt_zero i)];simp only [o6,aI.lD];by_cases ah:i<l.length
 .rw [az A,dif_pos ah,mq ah,ds ah];rfl
 .rw [dif_neg ah,o5 A,List.getElem?_replicate];by_cases aw:i<l.length+(m-l.length)
  .rw [az aw,az A];rfl
  .rw [ai aw,ai A]
def n0(D:cV)(n:Nat)(c8:List ResultVar)(s:gC):Option (List J) :=
 match c8 with
 |[]=>some []
 |.tmp t::r=>(n0 D n r s).map λl=>jM n s.dH (.tmp t)::l
 |.cell a t::r =>
  match jM n s.dH (.tmp a)with
  |.ptr (some p) =>
   match a6 D t p s.heap,n0 D n r s with
   |some v,some l=>some (v::l)
   |_,_=>none
  |_=>none
def vX(D:cV)(n:Nat)(s:gC):∀(c8:List ResultVar),n0 D n c8 s=hq D c8 (s.to n)
 |[]=>rfl
 |.tmp t::r=>by simp only [n0,hq,vX D n s r,sX];rfl
 |.cell a t::r=>by simp only [n0,hq,vX D n s r,sX];rfl
def vY(r:Option (J×T)):Option (J×T) :=
 match r with
 |some (v,⟨n,l⟩)=>fe n λn=>sW v λv=>some (v,⟨n,l⟩)
 |none=>none
def NO(r:Option (J×T)):vY r=r:=by
 cases r with
 |none=>rfl
 |some p=>obtain⟨v,n,l⟩:=p;simp [vY,km,zx]
def hY(P:Program)(E:bi)(a:Nat):cR :=
 Nat.rec (motive:=λ_=>cR) (λ_ _ _=>none)
 (λn ih f args h =>
  match E.qH f with
  |some g=>g args h
  |none =>
  match P.funcs[f]? with
  |some fn =>
   match fn.body with
   |some c =>
    fe (args.length+(fn.ntmps-args.length)) λk=>s3 args 0 .nil λaB =>
    match hH E ih k n none c ⟨aB,h⟩with
    |some (.exit _,_)=>none
    |some (.goto _,_)=>none
    |some (_,s) =>
     match n0 E.D k fn.results.toList s with
     |some l=>vY (some (kk l,s.heap))
     |none=>none
    |none=>none
   |none=>none
  |none=>none) a
def mF(P:Program)(E:bi):∀(n:Nat),hY P E n=jH P E n:=by
 intro n;induction n with
 |zero=>rfl
 |succ n ih =>
  funext f args h
  show(match E.qH f with
  |some g=>g args h
  |none =>
  match P.funcs[f]? with
  |some fn =>
   match fn.body with
   |some c =>
    fe (args.length+(fn.ntmps-args.length)) λk=>s3 args 0 .nil λaB =>
    match hH E (hY P E n) k n none c ⟨aB,h⟩with
    |some (.exit _,_)=>none
    |some (.goto _,_)=>none
    |some (_,s) =>
     match n0 E.D k fn.results.toList s with
     |some l=>vY (some (kk l,s.heap))
     |none=>none
    |none=>none
   |none=>none
  |none=>none)=_
  simp only [jH,ih,km,NO];cases E.qH f with
  |some g=>rfl
  |none =>
  simp only;cases b:P.funcs[f]? with
  |none=>rfl
  |some fn =>
   simp only;cases fn.body with
   |none=>rfl
   |some c =>
    simp only
    obtain⟨t,Y,ag⟩:=E3 args 0 .nil λaB =>
     match hH E (jH P E n) (args.length+(fn.ntmps-args.length)) n none c ⟨aB,h⟩with
     |some (.exit _,_)=>none
     |some (.goto _,_)=>none
     |some (_,s) =>
      match n0 E.D (args.length+(fn.ntmps-args.length)) fn.results.toList s with
      |some l=>some (kk l,s.heap)
      |none=>none
     |none=>none
    rw [Y]
    have hs:(gC.mk t h).to (args.length+(fn.ntmps-args.length))=⟨args++List.replicate (fn.ntmps-args.length) eR,h⟩:=by simp only [gC.to,NN ag]
    have a:=NM (E:=E) (jH P E n) (args.length+(fn.ntmps-args.length)) n none c ⟨t,h⟩;rw [hs]at a;rw [<-a];cases d:hH E (jH P E n) (args.length+(fn.ntmps-args.length)) n none c ⟨t,h⟩with
    |none=>rfl
    |some p =>
     obtain⟨e,s⟩:=p;simp only [eE,mE];cases e with
     |exit id=>rfl
     |goto l=>rfl
     |normal=>simp only [vX];cases hq E.D fn.results.toList (s.to (args.length+(fn.ntmps-args.length)))<;>rfl
     |ret=>simp only [vX];cases hq E.D fn.results.toList (s.to (args.length+(fn.ntmps-args.length)))<;>rfl
def NP{P:Program}{E:bi}{n:Nat}{f:FuncId}{args:List J}{h:T}(k:vK (hY P E n f args h)=true):∃Z,jH P E n f args h=some (.bool true,Z):=by rw [mF]at k;exact Nu k
end
end
noncomputable section
abbrev bc:=List (Nat×J)
def fp:bc->Nat->Option J
 |[],_=>none
 |(k,v)::r,t=>cond (Nat.beq k t) (some v) (fp r t)
def s4(t:Nat):bc->bc
 |[]=> []
 |(k,v)::r=>cond (Nat.beq k t) (s4 t r) ((k,v)::s4 t r)
def vZ(F:bc)(d:Option Tmp)(v:J):bc :=
 match d with
 |some d=>(d,v)::s4 d F
 |none=>F
def n1(F:bc):List Nat->bc
 |[]=> []
 |t::r=>match fp F t with|some v=>(t,v)::n1 F r|none=>n1 F r
def Has(F:bc)(s:List J):Prop:= ∀t v,fp F t=some v->s[t]? =some v
def kZ(a b:Nat):(a=b/\Nat.beq a b=true)\/(a≠b/\Nat.beq a b=false):=by
 by_cases h:a=b
 .exact .inl ⟨h,beq_true h⟩
 .exact .inr ⟨h,beq_false h⟩
def gX(k:Nat)(v:J)(r:bc)(t:Nat):fp ((k,v)::r) t=if k=t then some v else fp r t:=by simp only [fp];rcases kZ k t with ⟨h,e⟩|⟨h,e⟩<;>simp [h,e]
def zG(d t:Nat)(h:d≠t):∀(F:bc),fp (s4 d F) t=fp F t
 |[]=>rfl
 |(k,v)::r=>by
  simp only [s4];rcases kZ k d with ⟨a,e⟩|⟨a,e⟩
  .rw [e,cond_true,gX,ai A,zG d t h r]
  .rw [e,cond_false,gX,gX,zG d t h r]
variable {F:bc}
def Has.set{s:List J}(hs:Has F s){d:Option Tmp}(a:∀t,d=some t->t<s.length)(v:J):Has (vZ F d v) (fT s d v):=by
 cases d with
 |none=>exact hs
 |some d =>
  intro t u hu;have b:=a d rfl;simp only [vZ,gX]at hu;simp only [fT,List.getElem?_set];by_cases h:d=t
  .subst h;rw [az rfl]at hu;rw [az rfl,az b];exact hu
  .rw [ai h,zG d t h]at hu;rw [ai h];exact hs t u hu
def v7{t:Nat}{v:J} :∀{l:List Nat},fp (n1 F l) t=some v->fp F t=some v
 |[],h=>by cases h
 |k ::r,h=>by
  simp only [n1]at h;split at h
  .rename_i u hu;rw [gX]at h;split at h
   .rename_i e;subst e;rw [hu];exact h
   .exact v7 h
  .exact v7 h
def ba(F:bc):Operand->J
 |.tmp t=>match fp F t with|some v=>v|none=> .undef
 |.const v=>nL v
 |.global _=> .undef
 |.func f=> .func (.func f) [] []
def qW(F:bc):Operand->Bool
 |.tmp t=>match fp F t with|some _=>true|none=>false
 |_=>true
def Has.get{s:List J}(hs:Has F s){o:Operand}(a:qW F o=true):ba F o=cA s o:=by
 cases o with
 |tmp t =>
  simp only [qW]at a;split at a
  .rename_i v b;simp only [ba,cA,b,hC,hs t v b,pa]
  .cases a
 |const v=>rfl
 |global g=>rfl
 |func f=>rfl
def zH(ops:Array Oper)(F:bc)(o:Oper):Option Bool :=
 match o.guard with
 |none=>some true
 |some (j,want) =>
  match (ops[j]?).bind (·.dst)with
  |some d =>
   match fp F d with
   |some (.bool b)=>some (b == want)
   |some (.tuple [])=>some false
   |_=>none
  |none=>none
def E4{ops:Array Oper}{s:List J}(hs:Has F s){o:Oper}{b:Bool}(h:zH ops F o=some b):hp ops s o=some b:=by
 unfold zH at h;unfold hp;split at h
 .rename_i ab;simp only [ab];exact h
 .rename_i j want ab;simp only [ab];split at h
  .rename_i d c;simp only [c];split at h
   .rename_i e a;simp only [hs _ _ a];exact h
   .rename_i a;simp only [hs _ _ a];exact h
   .cases h
  .cases h
inductive Hint where
 |val (i:Nat) (v:J)
 |act (i:Nat) (v:J) (g:T->T)
 |zI (i:Nat) (v:J) (g:T->T)
 |gO (i:Nat) (v:J)
 |go (i:Nat)
 |eo (i:Nat) (e:J)
 |ff (i:Nat) (e:J)
 |guard (i:Nat) (b:Bool)
 |test (t:Nat) (b:Bool)
 |keep (l:List Nat)
 |loop (F:bc) (h:T) (e:b8)
 |cut (F:bc) (h:T) (e:b8)
 |cell (v:J)
 |im (i:Nat) (v:J) (g:T->T)
 |v8 (i:Nat) (v:J) (g:T->T)
 |run (i m:Nat)
 |E5 (i m:Nat)
 |rounds (n:Nat)
 |enter (i:Nat)
def cr:cR:=λ_ _ _=>none
structure v'(P:Program)(C:(Nat->Prop)->World->Prop)(f:FuncId)(args:List J)(h:T)(v:J)(Z:T):Prop where
 E6:bj P C f args h v Z
structure eZ where
 f:FuncId
 args:List J
 h:T
 v:J
 Z:T
def eZ.holds(call:cR)(k:eZ):Prop:=call k.f k.args k.h=some (k.v,k.Z)
abbrev wa(n:Int):Prop:= -9223372036854775808<=n/\n<=9223372036854775807
def dP(k:IntKind)(n:Int):Prop :=
 match k with
 |.i64=>wa n
 |.i8=> -128<=n/\n<=127
 |.i32=> -2147483648<=n/\n<=2147483647
 |.u8=>0<=n/\n<=255
 |k=>k.min<=n/\n<=k.max
def mG{k:IntKind}{n:Int}(h:dP k n):k.wrap n=n:=by cases k<;>simp only [dP,wa,IntKind.min,IntKind.max,IntKind.signed,IntKind.bits,IntKind.wrap]at h⊢ <;>simp at h⊢ <;>omega
def a'(k:IntKind)(x y:Int):Int:=k.wrap (BitVec.ofInt k.bits x &&& BitVec.ofInt k.bits y).toNat
def bP(k:IntKind)(x y:Int):Int:=k.wrap (BitVec.ofInt k.bits x ||| BitVec.ofInt k.bits y).toNat
def wb(k:IntKind)(x y:Int):Int:=k.wrap (BitVec.ofInt k.bits x ^^^ BitVec.ofInt k.bits y).toNat
def db(k:IntKind)(x y:Int):Int:=k.wrap (BitVec.ofInt k.bits x &&& ~~~(BitVec.ofInt k.bits y)).toNat
def eu(k:IntKind)(x y:Int):Int:=k.wrap (x*2^(min y.toNat k.bits))
def bh(k:IntKind)(x y:Int):Int:=x.fdiv (2^(min y.toNat k.bits))
section
variable(P:Program)(E:bi)
def zJ(nid:Nat)(ρ:Operand->J)(h:T)(o:Op):Option (J×T×Prop) :=
 match o with
 |.binOp op t x y _ =>
  match ρ x,ρ y with
  |.int k a,.int k' b =>
   match op with
   |.shl=>some (.int k (eu k a b),h,0<=b)
   |.shr=>some (.int k (bh k a b),h,0<=b)
   |_ =>
   match decEq k k' with
   |isTrue _ =>
    match op with
    |.and=>some (.int k (a' k a b),h,True)
    |.or=>some (.int k (bP k a b),h,True)
    |.xor=>some (.int k (wb k a b),h,True)
    |.andNot=>some (.int k (db k a b),h,True)
    |.add=>some (.int k (a+b),h,dP k (a+b))
    |.sub=>some (.int k (a-b),h,dP k (a-b))
    |.mul=>some (.int k (a*b),h,dP k (a*b))
    |.quo=>some (.int k (a.tdiv b),h,b≠0/\dP k (a.tdiv b))
    |.rem=>some (.int k (a.tmod b),h,b≠0)
    |_=>none
   |isFalse _=>none
  |.str a,.str b =>
   match op with
   |.add=>some (.str (a++b),h,a.length+b.length<2^62)
   |_=>none
  |_,_=>none
 |.unOp op t x =>
  match op,ρ x with
  |.xor,.int k n=>some (.int k (wb k (if k.signed then-1 else k.max) n),h,True)
  |.neg,.int k n=>some (.int k (0-n),h,dP k (0-n))
  |_,_=>none
 |.index t x i =>
  match E.D t,ρ x,ρ i with
  |some d,.str s,.int _ i =>
   match d.kind with
   |.string=>some (.int .u8 (s.getD i.toNat 0).toNat,h,0<=i/\i<s.length)
   |_=>none
  |_,_,_=>none
 |.slice t x aD ah mx =>
  match mx with
  |some _=>none
  |none =>
   match E.D t,ρ x with
   |some d,.str s =>
    match d.kind with
    |.string =>
     match aD.map ρ,ah.map ρ with
     |none,none=>some (.str s,h,True)
     |some (.int _ l),none=>some (.str (s.drop l.toNat),h,0<=l/\l<=s.length)
     |none,some (.int _ u)=>some (.str (s.take u.toNat),h,0<=u/\u<=s.length)
     |some (.int _ l),some (.int _ u)=>some (.str ((s.take u.toNat).drop l.toNat),h,0<=l/\l<=u/\u<=s.length)
     |_,_=>none
    |_=>none
   |some d,.slice (some a) len cap =>
    match d.kind with
    |.slice e =>
     match E.D e with
     |some cg =>
      cond (Nat.beq a.fld 0&&Nat.beq a.es cg.size)
      (match aD.map ρ,ah.map ρ with
      |none,none=>some (.slice (some a) len cap,h,len<=cap)
      |some (.int _ l),none=>some (.slice (some {a with idx:=a.idx+l.toNat}) (len-l.toNat) (cap-l.toNat),h,0<=l/\l<=len/\len<=cap)
      |none,some (.int _ u)=>some (.slice (some a) u.toNat cap,h,0<=u/\u<=cap)
      |some (.int _ l),some (.int _ u)=>some (.slice (some {a with idx:=a.idx+l.toNat}) (u.toNat-l.toNat) (cap-l.toNat),h,0<=l/\l<=u/\u<=cap)
      |_,_=>none) none
     |none=>none
    |_=>none
   |_,_=>none
 |.indexAddr t x i =>
  match E.D t,ρ x,ρ i with
  |some d,.slice (some a) len _,.int _ i =>
   match d.kind with
   |.slice e =>
    match E.D e with
    |some cg=>cond (Nat.beq a.fld 0&&Nat.beq a.es cg.size) (some (.ptr (some {a with idx:=a.idx+i.toNat}),h,0<=i/\i<len)) none
    |none=>none
   |_=>none
  |_,_,_=>none
 |.convert s d x =>
  match E.D s,E.D d,ρ x with
  |some _,some g,.int _ n=>match g.kind with|.int k=>some (.int k n,h,dP k n)|_=>none
  |_,_,_=>none
 |.call c =>
  match c.callee with
  |.builtin .append =>
   match c.args.toList.map ρ,c.argTypes[0]?,c.argTypes[1]? with
   |[.slice (some a) len cap,x],some t,some u =>
    match E.D u,E.D t,h.get a.id with
    |some j,some d,some b =>
     match d.kind with
     |.slice e =>
      match E.D e with
      |some cg =>
       match ed cg.size x h with
       |some (f::bq) =>
        cond ((match j.kind with|.slice _=>true|.string=>true|_=>false)&&Nat.blt 0 cg.size&&cg.pg&&Nat.beq a.fld 0&&Nat.beq a.es cg.size&&!b.exact&&!b.ro&&(match b.ty with|none=>true|some q=>Nat.beq q.1 e&&Nat.beq q.2 0))
         (some (.slice (some {a with ad:=a.ad+1}) (len+(f::bq).length) (len+(f::bq).length),h.set a.id (b.grow (f::bq)),
          a.ad=b.ad/\a.idx+len=b.bg.length/\cap<len+(f::bq).length/\(len+(f::bq).length+(len+(f::bq).length)/4+512)*cg.bytes<=2^48/\len+(f::bq).length<2^62)) none
       |_=>none
      |none=>none
     |_=>none
    |_,_,_=>none
   |_,_,_=>none
  |_=>none
 |.makeSlice t l c =>
  match E.D t,ρ l,ρ c with
  |some d, .int _ l,.int _ c =>
   match d.kind with
   |.slice e =>
    match E.D e with
    |some x =>
     match x.zero with
     |some z =>
      cond (Nat.blt 0 x.size&&z.fits x.kind.isAgg x.size)
       (some (hF nid x.size l.toNat c.toNat,h.set nid (.an (List.replicate c.toNat z) x.size true),0<=l/\l<=c/\c<2^62/\x.bytes*c<=2^48)) none
     |none=>none
    |none=>none
   |_=>none
  |_,_,_=>none
 |_=>none
variable {p:Prop}{v:J}{o:Op}{ρ:Operand->J}
def NQ{nid:Nat}{h Z:T}(k:zJ E nid ρ h o=some (v,Z,p))(ae:p)(call:cR):bt E call nid ρ h o=some (v,Z):=by
 cases o<;>simp only [zJ]at k<;>try (cases k;done)
 case binOp op t x y ty =>
  split at k
  .rename_i B a G b f C;split at k
   .simp only [a8,bC]at k;obtain⟨rfl,rfl,rfl⟩:=k;simp only [bt,f,C,hn,st];rw [ai A];rfl
   .simp only [a8,bC]at k;obtain⟨rfl,rfl,rfl⟩:=k;simp only [bt,f,C,hn,st];rw [ai A];rfl
   split at k
   .rename_i j _;subst j;simp only [bt,f,C,hn];split at k<;>first|(cases k;done)|(simp only [a8,bC]at k)
    all_goals (obtain⟨rfl,rfl,rfl⟩:=k)
    .simp [ig,a']
    .simp [ig,bP]
    .simp [ig,wb]
    .simp [ig,db]
    .simp [ig,mG ae]
    .simp [ig,mG ae]
    .simp [ig,mG ae]
    .simp [ig,mG ae.2,ae.1]
    .simp [ig,ae]
   .cases k
  .rename_i a b f C;split at k
   .simp only [a8,bC]at k;obtain⟨rfl,rfl,rfl⟩:=k;simp only [bt,f,C,hn,su];rw [az ae];rfl
   .cases k
  .cases k
 case unOp op t x =>
  split at k
  .rename_i H n f;simp only [a8,bC]at k;obtain⟨rfl,rfl,rfl⟩:=k;simp [bt,f,sv,ig,wb]
  .rename_i H n f;simp only [a8,bC]at k;obtain⟨rfl,rfl,rfl⟩:=k;simp only [bt,f,sv,mG ae];rfl
  .cases k
 case index t x i =>
  split at k
  .rename_i d s H i g f ah;split at k
   .rename_i j;simp only [a8,bC]at k;obtain⟨rfl,rfl,rfl⟩:=k;simp only [bt,f,ah,c',g,j];rw [az ae.1];have U:i.toNat<s.length:=by have:=ae.2;omega
    simp [hC,ds U]
   .cases k
  .cases k
 case slice t x aD ah mx =>
  split at k
  .cases k
  .split at k
   .rename_i d s g f;split at k
    .rename_i j;split at k<;>first|(cases k;done)|(simp only [a8,bC]at k)
     all_goals (obtain⟨rfl,rfl,rfl⟩:=k)
     .rename_i Y ag;simp [bt,f,Y,ag,dW,g,j,eI]
     .rename_i B l Y ag;simp only [bt,f,Y,ag,dW,g,j,eI,qz,nG,ey,ez];rw [az ⟨ae.1,ae.2⟩];simp
     .rename_i B u Y ag;simp only [bt,f,Y,ag,dW,g,j,eI,qz,nG,ey,ez];rw [az ⟨ae.1,ae.2⟩];simp
     .rename_i B l G u Y ag;simp only [bt,f,Y,ag,dW,g,j,eI,qz,nG,ey,ez];rw [az ⟨A,ae.2.2⟩];simp only;rw [az ⟨ae.1,A⟩];simp
    .cases k
   .rename_i d a len cap g f;split at k
    .rename_i e j;split at k
     .rename_i cg r;cases m:(Nat.beq a.fld 0&&Nat.beq a.es cg.size)with
      |false=>rw [m]at k;cases k
      |true =>
       rw [m,cond_true]at k;simp only [cC]at m;have cw:=iZ m.1;have cy:=iZ m.2;split at k<;>first|(cases k;done)|(simp only [a8,bC]at k)
       all_goals (obtain⟨rfl,rfl,rfl⟩:=k)
       .rename_i Y ag;have:len<=cap:=ae;cases a;simp only at cw cy;simp [bt,f,Y,ag,dW,g,j,eI,r,cw,cy]
       .rename_i B l Y ag;simp only [bt,f,Y,ag,dW,g,j,eI,r,qz,nG,ey,ez];rw [az ⟨ae.1,ae.2.1⟩];simp [cw,cy]
       .rename_i B u Y ag;simp only [bt,f,Y,ag,dW,g,j,eI,r,qz,nG,ey,ez];rw [az ⟨ae.1,ae.2⟩];cases a;simp only at cw cy;simp [cw,cy]
       .rename_i B l G u Y ag;simp only [bt,f,Y,ag,dW,g,j,eI,r,qz,nG,ey,ez];rw [az ⟨A,ae.2.2⟩];simp only;rw [az ⟨ae.1,A⟩];simp [cw,cy]
     .cases k
    .cases k
   .cases k
 case indexAddr t x i =>
  split at k
  .rename_i d a len c H i g f ah;split at k
   .rename_i e he;split at k
    .rename_i cg r;cases m:(Nat.beq a.fld 0&&Nat.beq a.es cg.size)with
     |false=>rw [m]at k;cases k
     |true =>
      rw [m,cond_true]at k;simp only [cC]at m;simp only [a8,bC]at k;obtain⟨rfl,rfl,rfl⟩:=k;simp only [bt,f,ah,iM,g,he,r];rw [az ⟨ae.1,ae.2,iZ m.2,iZ m.1⟩];rfl
    .cases k
   .cases k
  .cases k
 case convert s d x =>
  split at k
  .rename_i c9 cs H n hs g f;split at k
   .rename_i G R;simp only [a8,bC]at k;obtain⟨rfl,rfl,rfl⟩:=k;simp [bt,f,sx,hs,g,R,mG ae]
   .cases k
  .cases k
 case call c =>
  split at k
  .rename_i w;split at k
   .rename_i a len cap x t u P am hu;split at k
    .rename_i K d b a2 g ab;split at k
     .rename_i e j;split at k
      .rename_i cg r;split at k
       .rename_i a5 bq I;generalize X:a5::bq=new at k I;have W:new≠[]:=by rw [<-X];simp
        generalize m:((match K.kind with|.slice _=>true|.string=>true|_=>false)&&Nat.blt 0 cg.size&&cg.pg&&Nat.beq a.fld 0&&Nat.beq a.es cg.size&&!b.exact&&!b.ro&&(match b.ty with|none=>true|some q=>Nat.beq q.1 e&&Nat.beq q.2 0))=ce at k;cases ce with
        |false=>cases k
        |true =>
         rw [cond_true]at k;simp only [a8,bC]at k;obtain⟨rfl,rfl,rfl⟩:=k;simp only [cC,gV]at m;obtain⟨⟨⟨⟨⟨⟨⟨cL,c2⟩,c3⟩,c4⟩,c5⟩,L⟩,N⟩,F⟩:=m;obtain⟨a9,bn,c0,bs,bv⟩:=ae;have cw:=iZ c4;have cy:=iZ c5
         have a0:b.ty=none\/b.ty=some (e,0):=by
          cases Q:b.ty with
          |none=>exact .inl rfl
          |some q =>
           rw [Q]at F;simp only [cC]at F;exact .inr (by rw [<-iZ F.1,<-iZ F.2])
         have O:fA E.D t (.slice (some a) len cap) x nid h=some (.slice (some {a with ad:=a.ad+1}) (len+new.length) (len+new.length),h.set a.id (b.grow new)):=by simp only [fA,g,j,r,I];rw [az ⟨eG.mp c2,bs,bv,c3⟩,az ⟨cy,cw⟩];simp only [ab];rw [ai A,ai (by rw [L];simp),az ⟨N,a9,bn,W,a0⟩]
         simp only [bt,w,P,eY,am,hu,a2];cases a3:K.kind<;>rw [a3]at cL<;>simp only [ey]at cL<;>exact O
       .cases k
      .cases k
     .cases k
    .cases k
   .cases k
  .cases k
 case makeSlice t l c =>
  split at k
  .rename_i d B ct G co g S aj;split at k
   .rename_i e he;split at k
    .rename_i x f;split at k
     .rename_i z a4;cases w:(Nat.blt 0 x.size&&z.fits x.kind.isAgg x.size)with
      |false=>rw [w]at k;cases k
      |true =>
       rw [w,cond_true]at k;simp only [a8,bC]at k;obtain⟨rfl,rfl,rfl⟩:=k;simp only [cC]at w;simp only [bt,S,aj,sw,g,he,f,a4];rw [az ⟨ae.1,ae.2.1,ae.2.2.1,ae.2.2.2,eG.mp w.1,w.2⟩]
     .cases k
    .cases k
   .cases k
  .cases k
def zK(ρ:Operand->J)(h:T)(o:Op)(e:J):Option (J×Prop) :=
 match o with
 |.load t x =>
  match ρ x with
  |.ptr (some a) =>
   match E.D t,h.get a.id with
   |some d,some b =>
    match eK d.kind.isAgg d.size a.fld e with
    |some v=>some (v,b.elem? a.ad a.idx=some e)
    |none=>none
   |_,_=>none
  |_=>none
 |_=>none
def NR{nid:Nat}{h:T}{e:J}(k:zK E ρ h o e=some (v,p))(ae:p)(call:cR):bt E call nid ρ h o=some (v,h):=by
 unfold zK at k;split at k
 .rename_i t x;split at k
  .rename_i a c;split at k
   .rename_i d b g f;split at k
    .rename_i j i;simp only [a8,bC]at k;obtain⟨rfl,rfl⟩:=k;simp [bt,c,a6,g,f,ae,i]
    .cases k
   .cases k
  .cases k
 .cases k
def stOp(ρ:Operand->J)(h:T)(o:Op)(e:J):Option (T×Prop) :=
 match o with
 |.store t x y =>
  match ρ x with
  |.ptr (some a) =>
   match E.D t,h.get a.id with
   |some d,some b =>
    cond ((ρ y).fits d.kind.isAgg d.size&&!b.ro)
     (match nN a.fld (ρ y) e with
     |some e'=>some (h.set a.id {b with bg:=b.bg.set a.idx e',eH:=b.ad},a.ad=b.ad/\b.bg[a.idx]? =some e)
     |none=>none) none
   |_,_=>none
  |_=>none
 |_=>none
def NS{nid:Nat}{h Z:T}{e:J}(k:stOp E ρ h o e=some (Z,p))(ae:p)(call:cR):bt E call nid ρ h o=some (eR,Z):=by
 unfold stOp at k;split at k
 .rename_i t x y;split at k
  .rename_i a c;split at k
   .rename_i d b g f;cases aj:((ρ y).fits d.kind.isAgg d.size&&!b.ro)with
    |false=>rw [aj]at k;cases k
    |true =>
     rw [aj,cond_true]at k;split at k
     .rename_i e' he;simp only [a8,bC]at k;obtain⟨rfl,rfl⟩:=k;simp [bt,c,gz,g,f,ae.1,ae.2,he,aj]
     .cases k
   .cases k
  .cases k
 .cases k
def kn(nid:Nat)(ρ:Operand->J)(h:T)(o:Op)(v:J)(Z:T):Prop×List eZ :=
 match o with
 |.call c =>
  match c.callee with
  |.value f=>match ρ f with|.func (.func g) fs cs=>(v' P E.cond g (fs++c.args.toList.map ρ++cs) h v Z,[⟨g,fs++c.args.toList.map ρ++cs,h,v,Z⟩])|_=>(False,[])
  |.builtin b=>(eY E b c.argTypes (c.args.toList.map ρ) nid h=some (v,Z),[])
  |_=>(False,[])
 |o=>(bt E cr nid ρ h o=some (v,Z),[])
def hI(nid:Nat)(ρ:Operand->J)(h:T)(o:Op)(v:J):Prop×List eZ :=
 match o with
 |.load t x=>(match ρ x with|.ptr (some a)=>a6 E.D t a h=some v|_=>False,[])
 |.indexAddr t x i=>(iM E.D t (ρ x) (ρ i)=some v,[])
 |.index t x i=>(c' E.D t (ρ x) (ρ i)=some v,[])
 |.slice t x aD ah mx=>(dW E.D t (ρ x) (aD.map ρ) (ah.map ρ) (mx.map ρ)=some v,[])
 |.binOp op t x y _=>(hn E.D E.eS (gA x || gA y) op t (ρ x) (ρ y)=some v,[])
 |o=>kn P E nid ρ h o v h
def pz:Op->Bool
 |.call c=>match c.callee with|.value _=>false|_=>true
 |_=>true
def s5{nid:Nat}{h:T}(ae:pz o=true)(call:cR):bt E cr nid ρ h o=bt E call nid ρ h o:=by
 cases o
 case call c =>
  simp only [pz]at ae;cases aj:c.callee<;>simp only [aj]at ae<;>simp only [bt,aj];cases ae
 case makeFunc f a b=>cases f<;>rfl
 all_goals rfl
def zL{nid:Nat}{h:T}{Z:T}(k:(kn P E nid ρ h o v Z).1){call:cR}(aj:∀c∈(kn P E nid ρ h o v Z).2,c.holds call) :
 bt E call nid ρ h o=some (v,Z):=by
 cases o
 case call c =>
  simp only [kn]at k aj;split at k
  .rename_i f a;simp only [a]at aj;split at k
   .rename_i g fs cs ab;simp only [ab]at aj;simp only [bt,a,ab,kV];exact aj _ (cF.2 rfl)
   .exact k.elim
  .rename_i b d;simp only [bt,d];exact k
  .exact k.elim
 all_goals exact(s5 E rfl call).symm.trans k
def E7{nid:Nat}{h:T}(k:(hI P E nid ρ h o v).1){call:cR}(aj:∀c∈(hI P E nid ρ h o v).2,c.holds call) :
 bt E call nid ρ h o=some (v,h):=by
 cases o
 case load t x =>
  simp only [hI]at k;split at k
  .rename_i a b;simp only [bt,b,k];rfl
  .exact k.elim
 case indexAddr t x i=>simp only [hI]at k;simp only [bt,k];rfl
 case index t x i=>simp only [hI]at k;simp only [bt,k];rfl
 case slice t x aD ah mx=>simp only [hI]at k;simp only [bt,k];rfl
 case binOp op t x y z=>simp only [hI]at k;simp only [bt,k];rfl
 all_goals exact zL P E k aj
def zM{nid:Nat}{h:T}{Z:T}(k:(kn P E nid ρ h o v Z).1):∀c∈(kn P E nid ρ h o v Z).2,bj P E.cond c.f c.args c.h c.v c.Z:=by
 cases o
 case call c0 =>
  simp only [kn]at k⊢;cases a:c0.callee with
  |value f =>
   rw [a]at k;simp only at k⊢;cases d:ρ f with
   |func fn fs cs =>
    rw [d]at k;cases fn with
    |func g =>
     simp only at k⊢;intro c aj;simp only [cF]at aj;subst aj;exact k.E6
    |_=>exact k.elim
   |_=>rw [d]at k;exact k.elim
  |invoke r m=>rw [a]at k;exact k.elim
  |builtin b=>intro c aj;simp at aj
 all_goals (intro c aj;simp [kn]at aj)
def E8{nid:Nat}{h:T}(k:(hI P E nid ρ h o v).1):∀c∈(hI P E nid ρ h o v).2,bj P E.cond c.f c.args c.h c.v c.Z:=by
 cases o;case load t x=>intro c aj;simp [hI]at aj
 case indexAddr t x i=>intro c aj;simp [hI]at aj
 case index t x i=>intro c aj;simp [hI]at aj
 case slice t x aD ah mx=>intro c aj;simp [hI]at aj
 case binOp op t x y z=>intro c aj;simp [hI]at aj
 all_goals exact zM P E k
def aX(l:List Prop):Prop:= ∀p∈l,p
def aX.head{l:List Prop}(h:aX (p::l)):p:=h p au
def aX.tail{l:List Prop}(h:aX (p::l)):aX l:=λq a=>h q (by simp [a])
def aX.left{a b:List Prop}(h:aX (a++b)):aX a:=λp ae=>h p (by simp [ae])
def aX.right{a b:List Prop}(h:aX (a++b)):aX b:=λp ae=>h p (by simp [ae])
def gP(ops:Array Oper)(a i:Nat)(ρ:Operand->J)(h:T)(o:Op)(Z:T):List Prop :=
 match cH o with
 |.load=>match ii ρ o with|some b=>cond (nR ops i || (Nat.blt b a || (Nat.blt b (a+ops.size)&&(ordered (cW ops) (b-a) i&&!mz ops (cW ops) i)))) [] [False]|none=> [False]
 |.store=>match kW ρ o with|some b=>cond (jF ops (cW ops) i&&Nat.blt b a) [False] []|none=> [False]
 |.call=>cond (jF ops (cW ops) i) [hW (a+ops.size) h Z=true] []
 |.e9=>cond (mA ops a i (gn ρ o)) [] [False]
 |_=> []
def zN(a N:Nat):List Nat->List Prop
 |[]=> []
 |b::r=>(b<a\/N<=b)::zN a N r
def wc(ops:Array Oper)(a:Nat)(ρ:Operand->J)(o:Op):List Prop :=
 match cH o with
 |.load=>match ii ρ o with|some b=> [b<a]|none=> [False]
 |.e9=>zN a (a+ops.size) (gn ρ o)
 |_=> [False]
variable {N d i m q:Nat}
def E9 :∀{l:List Nat},aX (zN d N l)-> ∀b∈l,b<d\/N<=b
 |[],_,b,c=>by cases c
 |a::r,h,b,c=>by
  rcases dR.1 c with rfl|c
  .exact h.head
  .exact E9 h.tail b c
variable {ops:Array Oper}
def E'{a:Nat}{h Z:T}(k:aX (wc ops a ρ o)):aX (gP ops a i ρ h o Z):=by
 unfold wc at k;unfold gP;split at k
 .rename_i aj;rw [aj];simp only;split at k
  .rename_i b c;have:Nat.blt b a=true:=eG.mpr k.head;rw [this,Bool.true_or,Bool.or_true];intro p ae;cases ae
  .exact k.head.elim
 .rename_i aj;rw [aj];simp only
  have:mA ops a i (gn ρ o)=true:=by
   unfold mA;rw [ea];intro b c;rcases E9 k b c with h|h
   .simp [h]
   .simp [h]
  rw [this];intro p ae;cases ae
 .exact k.head.elim
def zO(ops:Array Oper)(a i:Nat)(ρ:Operand->J)(o:Op):List Prop :=
 match kX ρ o with
 |some x=>cond ((List.range ops.size).all λk=>(k == i) || ordered (cW ops) k i || ordered (cW ops) i k ||
  match ops[k]? with
  |some y=>decide (cH y.op=.pure) || decide (cH y.op=.load) || decide (cH y.op=.alloc)
  |none=>true) ((fU x).map λb=>b<a) [False]
 |none=> [False]
def NT{a:Nat}(k:aX (zO ops a i ρ o)):gB ops a i ρ o=true:=by
 unfold zO at k;unfold gB;split at k
 .rename_i x e
  cases c:((List.range ops.size).all λk=>(k == i) || ordered (cW ops) k i || ordered (cW ops) i k ||
   match ops[k]? with
   |some y=>decide (cH y.op=.pure) || decide (cH y.op=.load) || decide (cH y.op=.alloc)
   |none=>true)with
  |false=>rw [c]at k;exact k.head.elim
  |true =>
   rw [c,cond_true]at k;rw [e];simp only;rw [cC];refine⟨ea.2 λb d=> ?_,rfl⟩;have:b<a:=k _ (dV.2 ⟨b,d,rfl⟩);simp [this]
 .exact k.head.elim
abbrev zP:=Option (J×T×List Hint×List Prop×List eZ)
def lH(draw:Bool)(ops:Array Oper)(a i:Nat)(F:bc)(h:T)(o:Op)(hs:List Hint):zP :=
 cond (pz o)
  (match bt E cr (a+i) (ba F) h o with
  |some (v,Z)=>some (v,Z,hs,cond draw (gP ops a i (ba F) h o Z) [],[])
  |none=>cond (!draw || (fV o&&(je ops i || gB ops a i (ba F) o))) (match du E (a+i) (ba F) h o with|some (v,Z)=>some (v,Z,hs,[],[])|none=>none) none) none
abbrev qX:=FuncId->List J->T->List Hint->Option (J×T×List Hint×List Prop)
def s6(d:qX)(draw:Bool)(ops:Array Oper)(a i:Nat)(F:bc)(h:T)(o:Op)(x:Hint)(hs:List Hint):zP :=
 match x with
 |.enter _ =>
  match o with
  |.call c =>
   match c.callee with
   |.value f =>
    match ba F f with
    |.func (.func g) fs cs =>
     match d g (fs++c.args.toList.map (ba F)++cs) h hs with
     |some (v,Z,j,b)=>some (v,Z,j,cond draw (gP ops a i (ba F) h o Z) []++b,[⟨g,fs++c.args.toList.map (ba F)++cs,h,v,Z⟩])
     |none=>none
    |_=>none
   |_=>none
  |_=>none
 |.val _ v=>some (v,h,hs,(hI P E (a+i) (ba F) h o v).1::cond draw (gP ops a i (ba F) h o h) [],(hI P E (a+i) (ba F) h o v).2)
 |.act _ v g=>some (v,g h,hs,(kn P E (a+i) (ba F) h o v (g h)).1::cond draw (gP ops a i (ba F) h o (g h)) [],(kn P E (a+i) (ba F) h o v (g h)).2)
 |.zI _ v g=>some (v,g h,hs,(kn P E (a+i) (ba F) h o v (g h)).1::cond draw (wc ops a (ba F) o) [],(kn P E (a+i) (ba F) h o v (g h)).2)
 |.gO _ v=>some (v,h,hs,(hI P E (a+i) (ba F) h o v).1::cond draw (wc ops a (ba F) o) [],(hI P E (a+i) (ba F) h o v).2)
 |.go _ =>
  match zJ E (a+i) (ba F) h o with
  |some (v,Z,p)=>some (v,Z,hs,p::cond draw (gP ops a i (ba F) h o Z) [],[])
  |none=>none
 |.eo _ e =>
  match zK E (ba F) h o e with
  |some (v,p)=>some (v,h,hs,p::cond draw (gP ops a i (ba F) h o h) [],[])
  |none=>none
 |.ff _ e =>
  match stOp E (ba F) h o e with
  |some (Z,p)=>some (eR,Z,hs,p::cond draw (gP ops a i (ba F) h o Z) [],[])
  |none=>none
 |.im _ v g =>
  cond (fV o&&(!draw || (je ops i || gB ops a i (ba F) o)))
  (match bt E cr (a+i) (ba F) h o with
  |none=>some (v,g h,hs,[du E (a+i) (ba F) h o=some (v,g h)],[])
  |some _=>none) none
 |.v8 _ v g =>
  cond (fV o)
  (match bt E cr (a+i) (ba F) h o with
  |none=>some (v,g h,hs,(du E (a+i) (ba F) h o=some (v,g h))::cond draw (zO ops a i (ba F) o) [],[])
  |some _=>none) none
 |.run _ m =>
  match o with
  |.call c =>
   match c.callee with
   |.value f =>
    match ba F f with
    |.func (.func g) fs cs =>
     match jH P E m g (fs++c.args.toList.map (ba F)++cs) h with
     |some (v,Z)=>some (v,Z,hs,cond draw (gP ops a i (ba F) h o Z) [],[⟨g,fs++c.args.toList.map (ba F)++cs,h,v,Z⟩])
     |none=>none
    |_=>none
   |_=>none
  |_=>none
 |.E5 _ m =>
  match o with
  |.call c =>
   match c.callee with
   |.value f =>
    match ba F f with
    |.func (.func g) fs cs =>
     match hY P E m g (fs++c.args.toList.map (ba F)++cs) h with
     |some (v,Z)=>some (v,Z,hs,cond draw (gP ops a i (ba F) h o Z) [],[⟨g,fs++c.args.toList.map (ba F)++cs,h,v,Z⟩])
     |none=>none
    |_=>none
   |_=>none
  |_=>none
 |_=>none
def Hint.at:Hint->Option Nat
 |.val i _=>some i
 |.act i _ _=>some i
 |.zI i _ _=>some i
 |.gO i _=>some i
 |.go i=>some i
 |.eo i _=>some i
 |.ff i _=>some i
 |.im i _ _=>some i
 |.v8 i _ _=>some i
 |.run i _=>some i
 |.E5 i _=>some i
 |.enter i=>some i
 |_=>none
def pop(b:qX)(q:Nat)(ops:Array Oper)(draw:Bool)(a i:Nat)(F:bc)(h:T)(o:Op)(hs:List Hint):zP :=
 match hs with
 |x::r =>
  match x.at with
  |some j=>cond (Nat.beq (1000*q+i) j) (s6 P E b draw ops a i F h o x r) (lH E draw ops a i F h o hs)
  |none=>lH E draw ops a i F h o hs
 |[]=>lH E draw ops a i F h o hs
def iO(call:cR)(ops:Array Oper)(draw:Bool)(a i:Nat)(ρ:Operand->J)(h:T)(o:Op):Option (J×T) :=
 if draw then ee E call ops a i ρ h o else ho E call (a+i) ρ h o
def NU{nid:Nat}{ρ':Operand->J}{h:T}(a:∀x∈o.operands.toList,ρ x=ρ' x):du E nid ρ h o=du E nid ρ' h o:=by
 cases o
 case call c =>
  simp only [Op.operands,Call.operands,mr,hi]at a;simp only [du];have e:=qQ (xs:=c.args) (λx i=>a x (.inr i));cases g:c.callee with
  |value f =>
   rw [g]at a;simp only [e,a f (.inl au)]
  |invoke r m=>rfl
  |builtin b=>rfl
 case convert s d x =>
  simp only [Op.operands]at a;simp only [du];rw [a x au]
 all_goals rfl
def NV(h:fV o=true):cH o=.pure:=by cases o<;>simp only [fV,ey]at h<;>rfl
variable {draw:Bool}
def we{call:cR}{a:Nat}{h Z:T}(b:bt E call (a+i) ρ h o=none)(c:du E (a+i) ρ h o=some (v,Z))
 (d:draw=true->fV o=true/\(je ops i=true\/gB ops a i ρ o=true)):iO E call ops draw a i ρ h o=some (v,Z):=by
 unfold iO;cases draw with
 |false=>simp only [ey,ez,ho,b,c]
 |true =>
  obtain⟨Y,ag⟩:=d rfl;simp only [dG];unfold ee;simp only [NV Y,b,Y,ag,and_self,dG,c]
def hJ{call:cR}{h Z:T}(e:bt E call (d+i) ρ h o=some (v,Z))(a:aX (cond draw (gP ops d i ρ h o Z) [])) :
 iO E call ops draw d i ρ h o=some (v,Z):=by
 unfold iO;cases draw with
 |false=>simp only [ey,ez,ho,e]
 |true =>
  have a:aX (gP ops d i ρ h o Z):=a;simp only [dG];unfold ee;unfold gP at a;cases g:cH o<;>simp only [g]at a⊢ <;>try exact e
  .rw [e]
  .split
   .rename_i b f;rw [f]at a;simp only at a;cases c:(nR ops i || (Nat.blt b d || (Nat.blt b (d+ops.size)&&(ordered (cW ops) (b-d) i&&!mz ops (cW ops) i))))with
    |false=>rw [c]at a;exact a.head.elim
    |true =>
     simp only [eC,cC,gV]at c;rw [az]
     .exact e
     .rcases c with c|c|⟨c,k,l⟩
      .exact .inl c
      .exact .inr (.inl (eG.mp c))
      .exact .inr (.inr ⟨eG.mp c,k,l⟩)
   .rename_i f;rw [f]at a;exact a.head.elim
  .split
   .rename_i b f;rw [f]at a;simp only at a;cases c:(jF ops (cW ops) i&&Nat.blt b d)with
    |true=>rw [c]at a;exact a.head.elim
    |false =>
     rw [ai]
     .exact e
     .rintro ⟨Y,ag⟩;rw [Y,eG.mpr ag]at c;cases c
   .rename_i f;rw [f]at a;exact a.head.elim
  .simp only [e];cases j:jF ops (cW ops) i with
   |false=>simp
   |true =>
    rw [j,cond_true]at a;simp only [dG];rw [az a.head]
  .cases c:mA ops d i (gn ρ o)with
   |true=>simp [e]
   |false=>rw [c]at a;exact a.head.elim
variable {cs:List Prop}{F:bc}
def zQ{h Z:T}{hs f:List Hint}{ks:List eZ}(ae:lH E draw ops d i F h o hs=some (v,Z,f,cs,ks))(aj:aX cs)(call:cR) :
 iO E call ops draw d i (ba F) h o=some (v,Z):=by
 unfold lH at ae;cases a:pz o
 .rw [a]at ae;cases ae
 .rw [a,cond_true]at ae;split at ae
  .rename_i v1 Y c;simp only [a8,bC]at ae;obtain⟨rfl,rfl,_,rfl,_⟩:=ae;exact hJ E ((s5 E a call).symm.trans c) aj
  .rename_i c;cases b:(!draw || (fV o&&(je ops i || gB ops d i (ba F) o)))with
   |false=>rw [b]at ae;cases ae
   |true =>
    rw [b,cond_true]at ae;split at ae
    .rename_i v1 Y g;simp only [a8,bC]at ae;obtain⟨rfl,rfl,_,rfl,_⟩:=ae;refine we E ((s5 E a call).symm.trans c) g λe=> ?_
     rw [e]at b;simpa using b
    .cases ae
def NW{r:qX}{h Z:T}{x:Hint}{hs s:List Hint}{ks:List eZ}(ae:s6 P E r draw ops m i F h o x hs=some (v,Z,s,cs,ks))(aj:aX cs){call:cR}
 (b:∀c∈ks,c.holds call):iO E call ops draw m i (ba F) h o=some (v,Z):=by
 unfold s6 at ae;split at ae
 .split at ae
  .rename_i c;split at ae
   .rename_i f e;split at ae
    .rename_i g fs n ab;split at ae
     .rename_i v1 Y u t q;simp only [a8,bC]at ae;obtain⟨rfl,rfl,_,rfl,rfl⟩:=ae;refine hJ E ?_ aj.left;simp only [bt,e,ab,kV];exact b _ (cF.2 rfl)
     .cases ae
    .cases ae
   .cases ae
  .cases ae
 .simp only [a8,bC]at ae;obtain⟨rfl,rfl,_,rfl,rfl⟩:=ae;exact hJ E (E7 P E aj.head b) aj.tail
 .simp only [a8,bC]at ae;obtain⟨rfl,rfl,_,rfl,rfl⟩:=ae;exact hJ E (zL P E aj.head b) aj.tail
 .simp only [a8,bC]at ae;obtain⟨rfl,rfl,_,rfl,rfl⟩:=ae;refine hJ E (zL P E aj.head b) ?_;have d:=aj.tail;cases draw with
  |false=>intro p ae;cases ae
  |true=>exact E' d
 .simp only [a8,bC]at ae;obtain⟨rfl,rfl,_,rfl,rfl⟩:=ae;refine hJ E (E7 P E aj.head b) ?_;have d:=aj.tail;cases draw with
  |false=>intro p ae;cases ae
  |true=>exact E' d
 .split at ae
  .rename_i v1 Y p ab;simp only [a8,bC]at ae;obtain⟨rfl,rfl,_,rfl,_⟩:=ae;exact hJ E (NQ E ab aj.head call) aj.tail
  .cases ae
 .split at ae
  .rename_i v1 p ab;simp only [a8,bC]at ae;obtain⟨rfl,rfl,_,rfl,_⟩:=ae;exact hJ E (NR E ab aj.head call) aj.tail
  .cases ae
 .split at ae
  .rename_i Y p ab;simp only [a8,bC]at ae;obtain⟨rfl,rfl,_,rfl,_⟩:=ae;exact hJ E (NS E ab aj.head call) aj.tail
  .cases ae
 .cases a:(fV o&&(!draw || (je ops i || gB ops m i (ba F) o)))with
  |false=>rw [a]at ae;cases ae
  |true =>
   rw [a,cond_true]at ae;simp only [cC]at a;split at ae
   .rename_i j;simp only [a8,bC]at ae;obtain⟨rfl,rfl,_,rfl,_⟩:=ae
    have l:pz o=true:=by cases o<;>first|rfl|(simp [fV]at a)
    refine we E ((s5 E l call).symm.trans j) aj.head λk=>⟨a.1,?_⟩
    have:=a.2;rw [k]at this;simpa using this
   .cases ae
 .cases a:fV o with
  |false=>rw [a]at ae;cases ae
  |true =>
   rw [a,cond_true]at ae;split at ae
   .rename_i j;simp only [a8,bC]at ae;obtain⟨rfl,rfl,_,rfl,_⟩:=ae
    have l:pz o=true:=by cases o<;>first|rfl|(simp [fV]at a)
    refine we E ((s5 E l call).symm.trans j) aj.head λk=>⟨a,.inr ?_⟩
    have d:=aj.tail;rw [k]at d;exact NT d
   .cases ae
 .split at ae
  .rename_i c;split at ae
   .rename_i f e;split at ae
    .rename_i g fs n ab;split at ae
     .rename_i v1 Y q;simp only [a8,bC]at ae;obtain⟨rfl,rfl,_,rfl,rfl⟩:=ae;refine hJ E ?_ aj;simp only [bt,e,ab,kV];exact b _ (cF.2 rfl)
     .cases ae
    .cases ae
   .cases ae
  .cases ae
 .split at ae
  .rename_i c;split at ae
   .rename_i f e;split at ae
    .rename_i g fs n ab;split at ae
     .rename_i v1 Y q;simp only [a8,bC]at ae;obtain⟨rfl,rfl,_,rfl,rfl⟩:=ae;refine hJ E ?_ aj;simp only [bt,e,ab,kV];exact b _ (cF.2 rfl)
     .cases ae
    .cases ae
   .cases ae
  .cases ae
 .cases ae
def Fa{d:qX}{b:Nat}{h Z:T}{hs f:List Hint}{ks:List eZ}(ae:pop P E d q ops draw b i F h o hs=some (v,Z,f,cs,ks))(aj:aX cs){call:cR}
 (e:∀c∈ks,c.holds call):iO E call ops draw b i (ba F) h o=some (v,Z):=by
 unfold pop at ae;split at ae
 .split at ae
  .rename_i j g;cases a:Nat.beq (1000*q+i) j
   .rw [a,cond_false]at ae;exact zQ E ae aj call
   .rw [a,cond_true]at ae;exact NW P E ae aj e
  .exact zQ E ae aj call
 .exact zQ E ae aj call
def zR(a:qX):Prop:= ∀f args h hs v Z b cs,a f args h hs=some (v,Z,b,cs)->aX cs->bj P E.cond f args h v Z
def Fb(k:fa P E)(l:P.follows .mixedOrders=true){g:qX}(p:zR P E g){e:Nat}{h Z:T}{hs m:List Hint}{ks:List eZ}(ae:pop P E g q ops draw e i F h o hs=some (v,Z,m,cs,ks))(aj:aX cs) :
 ∀c∈ks,bj P E.cond c.f c.args c.h c.v c.Z:=by
 have plain:∀{n:List Hint},lH E draw ops e i F h o n=some (v,Z,m,cs,ks)-> ∀c∈ks,bj P E.cond c.f c.args c.h c.v c.Z:=by
  intro n ae;unfold lH at ae;cases d:pz o
  .rw [d]at ae;cases ae
  .rw [d,cond_true]at ae;split at ae
   .simp only [a8,bC]at ae;obtain⟨_,_,_,_,rfl⟩:=ae;intro c aj;simp at aj
   .cases a:(!draw || (fV o&&(je ops i || gB ops e i (ba F) o)))with
    |false=>rw [a]at ae;cases ae
    |true =>
     rw [a,cond_true]at ae;split at ae
     .simp only [a8,bC]at ae;obtain⟨_,_,_,_,rfl⟩:=ae;intro c aj;simp at aj
     .cases ae
 unfold pop at ae;split at ae
 .split at ae
  .rename_i j r;cases d:Nat.beq (1000*q+i) j
   .rw [d,cond_false]at ae;exact plain ae
   .rw [d, cond_true]at ae;unfold s6 at ae;split at ae
    .split at ae
     .split at ae
      .split at ae
       .split at ae
        .rename_i b;simp only [a8,bC]at ae;obtain⟨_,_,_,rfl,rfl⟩:=ae;intro c hm;simp only [cF]at hm;subst hm;exact p _ _ _ _ _ _ _ _ b aj.right
        .cases ae
       .cases ae
      .cases ae
     .cases ae
    .simp only [a8,bC]at ae;obtain⟨rfl,rfl,_,rfl,rfl⟩:=ae;exact E8 P E aj.head
    .simp only [a8,bC]at ae;obtain⟨rfl,rfl,_,rfl,rfl⟩:=ae;exact zM P E aj.head
    .simp only [a8,bC]at ae;obtain⟨rfl,rfl,_,rfl,rfl⟩:=ae;exact zM P E aj.head
    .simp only [a8,bC]at ae;obtain⟨rfl,rfl,_,rfl,rfl⟩:=ae;exact E8 P E aj.head
    all_goals first
     |(split at ae
       .simp only [a8,bC]at ae;obtain⟨_,_,_,_,rfl⟩:=ae;intro c aj;simp at aj
       .cases ae
       done)
     |(cases ae;done)
     |skip
    .cases a:(fV o&&(!draw || (je ops i || gB ops e i (ba F) o)))with
     |false=>rw [a]at ae;cases ae
     |true =>
      rw [a,cond_true]at ae;split at ae
      .simp only [a8,bC]at ae;obtain⟨_,_,_,_,rfl⟩:=ae;intro c aj;simp at aj
      .cases ae
    .cases a:fV o with
     |false=>rw [a]at ae;cases ae
     |true =>
      rw [a,cond_true]at ae;split at ae
      .simp only [a8,bC]at ae;obtain⟨_,_,_,_,rfl⟩:=ae;intro c aj;simp at aj
      .cases ae
    .split at ae
     .split at ae
      .split at ae
       .split at ae
        .rename_i b;simp only [a8,bC]at ae;obtain⟨_,_,_,_,rfl⟩:=ae;intro c aj;simp only [cF]at aj;subst aj;exact bj.lG k l b
        .cases ae
       .cases ae
      .cases ae
     .cases ae
    .split at ae
     .split at ae
      .split at ae
       .split at ae
        .rename_i b;simp only [a8,bC]at ae;obtain⟨_,_,_,_,rfl⟩:=ae;intro c aj;simp only [cF]at aj;subst aj;rw [mF]at b;exact bj.lG k l b
        .cases ae
       .cases ae
      .cases ae
     .cases ae
  .exact plain ae
 .exact plain ae
def zS(n:Nat)(o:Oper):Bool :=
 match o.dst with
 |some d=>Nat.blt d n
 |none=>true
def lI(E:bi)(call:cR)(ops:Array Oper)(draw:Bool)(a:Nat)(l:List Nat)(s:dX):Option dX :=
 if draw then hG E call ops a l s else lE E call ops a l s
def NX{call:cR}{b:Nat}{l:List Nat}{s:List J}{h Z:T}{o:Oper}(c:ops[i]? =some o)(hw:hp ops s o=some true)
 (a:iO E call ops draw b i (cA s) h o.op=some (v,Z)):lI E call ops draw b (i::l) ⟨s,h⟩=lI E call ops draw b l ⟨fT s o.dst v,Z⟩:=by
 unfold lI iO at *;cases draw with
 |false=>simp only [ey,ez]at a⊢; simp only [lE,nQ,c,hw,a]
 |true=>simp only [dG]at a⊢; simp only [hG,jG,c,hw,a]
def NY{call:cR}{b:Nat}{l:List Nat}{s:List J}{h:T}{o:Oper}(a:ops[i]? =some o)(hw:hp ops s o=some false) :
 lI E call ops draw b (i::l) ⟨s,h⟩=lI E call ops draw b l ⟨fT s o.dst eR,h⟩:=by
 unfold lI;cases draw with
 |false=>simp only [ey,ez,lE,nQ,a,hw]
 |true=>simp only [dG,hG,jG,a,hw]
def Fc(s:List J)(d:Option Tmp)(v:J):(fT s d v).length=s.length:=by cases d<;>simp [fT]
structure lJ(a b:List J)(h k:T)(v u:J)(Z k':T):Prop where
 agree:a=b->h=k->v=u/\Z=k'
def Fe(a b:eZ):List Prop:=cond (Nat.beq a.f b.f) [lJ a.args b.args a.h b.h a.v b.v a.Z b.Z] []
def wg:List eZ->List Prop
 |[]=> []
 |a::r=>r.flatMap (Fe a)++wg r
open Classical in
def n3:List eZ->cR
 |[],_,_,_=>none
 |k::r,f,args,h=>if k.f=f/\k.args=args/\k.h=h then some (k.v,k.Z)else n3 r f args h
def Ff:∀{ks:List eZ}{f:FuncId}{args:List J}{h:T}{v:J}{Z:T},n3 ks f args h=some (v,Z)-> ∃k∈ks,k.f=f/\k.args=args/\k.h=h/\k.v=v/\k.Z=Z
 |[],f,args,h,v,Z,aj=>by cases aj
 |k ::r,f,args,h,v,Z,aj=>by
  simp only [n3]at aj;split at aj
  .rename_i e;simp only [a8,bC]at aj;exact⟨k,au,e.1,e.2.1,e.2.2,aj.1,aj.2⟩
  .obtain⟨k',hm,q⟩:=Ff aj;exact⟨k',by simp [hm],q⟩
def Fg:∀{ks:List eZ},aX (wg ks)-> ∀c∈ks,c.holds (n3 ks)
 |[],_,c,aj=>by simp at aj
 |k ::r,hu,c,aj=>by
  simp only [wg]at hu;unfold eZ.holds;simp only [n3];split
  .rename_i e;rcases dR.1 aj with rfl|hm
   .rfl
   .have:=hu.left
    have a:k.v=c.v/\k.Z=c.Z:=by have Y:lJ k.args c.args k.h c.h k.v c.v k.Z c.Z:=this _ (List.mem_flatMap.2 ⟨c,hm,by unfold Fe;rw [beq_true e.1];simp⟩);exact Y.agree e.2.1 e.2.2
    rw [a.1,a.2]
  .rename_i e;rcases dR.1 aj with rfl|hm
   .exact absurd ⟨rfl,rfl,rfl⟩ e
   .exact Fg hu.right c hm
def NZ{ks:List eZ}(i:∀c∈ks,bj P E.cond c.f c.args c.h c.v c.Z){aR:Nat->Prop}{aV:World}(g:dS aR aV.heap.size)(eh:E.cond aR aV):ji P aR aV (n3 ks):=by intro f args h v Z aj φ w a e d b;obtain⟨k,hm,rfl,rfl,rfl,rfl,rfl⟩:=Ff aj;exact i k hm aR aV g eh φ w a e d b
def pA:Nat->List J->bc
 |_,[]=> []
 |i,v::r=>(i,v)::pA (i+1) r
def jN(D:cV)(F:bc)(h:T):List ResultVar->List Hint->Option (List J×List Prop)
 |[],[]=>some ([],[])
 |[],_=>none
 |.tmp t::r,hs=>match fp F t,jN D F h r hs with|some v,some (l,cs)=>some (v::l,cs)|_,_=>none
 |.cell a t::r,.cell v::hs=>match fp F a,jN D F h r hs with|some (.ptr (some p)),some (l,cs)=>some (v::l,(a6 D t p h=some v)::cs)|_,_=>none
 |.cell a t::r,hs =>
  match fp F a with
  |some (.ptr (some p)) =>
   match a6 D t p h with
   |some v=>match jN D F h r hs with|some (l,cs)=>some (v::l,cs)|none=>none
   |none=>none
  |_=>none
end
end
end Go.br
