/-
  Parts of the proof of KeysScripts.
-/
import Derived.Laws.IdiomCopy
import Derived.Scope
import Derived.Test.YtddnafghiejcoaaGreatDoorKKeysScriptsA
set_option linter.unusedVariables false
set_option linter.unusedSimpArgs false
namespace Go.bh
noncomputable section
open Go.RowKit
def iu(P:Program)(aM:Nat->Prop)(aS:World)(call:cJ):Prop :=
 ∀f args h v ad,call f args h=some (v,ad)-> ∀(φ:Map)(w:World)(b:Array Value),cg φ aM h w->Safe aM aS w->bc φ args b.toList ->
  (∃fn c,P.funcs[f]? =some fn/\fn.body=some c) /\
  Calls P f b w λe aZ=> ∃d a,e=.returned d/\dH φ a h.Y/\aB a v d/\cg a aM ad aZ/\Safe aM aS aZ/\h.Y<=ad.Y
def BS(P:Program)(C:(Nat->Prop)->World->Prop)(f:FuncId)(g:xg):Prop :=
 ∀(aM:Nat->Prop)(aS:World),dN aM aS.heap.size->C aM aS-> ∀args h v ad,g args h=some (v,ad)-> ∀(φ:Map)(w:World)(b:Array Value),cg φ aM h w->Safe aM aS w->bc φ args b.toList ->
  (∃fn c,P.funcs[f]? =some fn/\fn.body=some c) /\
  Calls P f b w λe aZ=> ∃d a,e=.returned d/\dH φ a h.Y/\aB a v d/\cg a aM ad aZ/\Safe aM aS aZ/\h.Y<=ad.Y
def rl:Nat->Option (Array Value->Sem Value)
 |0=>some Extern.BytealgCount.count
 |1=>some Extern.BytealgIndexByte.indexByte
 |2=>some Extern.BytealgCompare.compare
 |_=>none
structure e4(P:Program)(E:a'):Prop where
 fM:E.D.cx P
 eqs:∀t,E.fC t=true->mV P t
 names:∀(f:Nat) fn,P.funcs[f]? =some fn->(fn.name == "runtime.NumGoroutine")=false
 BT:∀(f:Nat) g,E.pD f=some g->BS P E.cond f g
 BU:∀(f:Nat) k,E.ext f=some k-> ∃fn e,P.funcs[f]? =some fn/\fn.body.isNone=true/\Extern.findNext fn=none/\Extern.find fn=some e/\rl k=some e
section
variable {P:Program}{φ:Map}{E:a'}
def ee(P:Program)(φ:Map)(aM:Nat->Prop)(aS:World)(h:T)(nid:Nat)(v:J)(ad:T)(r:Result Next):Prop :=
 (∃b aZ a,(r=.ok (.value b) aZ\/(r=.ok .skip aZ/\b=undef))/\fv φ a h.Y nid/\aB a v b/\cg a aM ad aZ/\Safe aM aS aZ/\h.Y<=ad.Y)
 \/(∃f args aZ,r=.ok (.enter f args) aZ/\Calls P f args aZ λe c=> ∃b a,e=.returned b/\fv φ a h.Y nid/\aB a v b/\cg a aM ad c/\Safe aM aS c/\h.Y<=ad.Y)
theorem ee.ot{aM:Nat->Prop}{aS:World}{h:T}{nid:Nat}{v:J}{ad:T}{s:Sem Value}{w:World}(k:lT P φ aM aS h nid v ad s w){r:Result Next}
 (d:r=(s.run P w).andThen λv w=> .ok (.value v) w):ee P φ aM aS h nid v ad r:=by
 obtain⟨e,aZ,f,aa,h2,a,b,c,g⟩:=k;refine .inl ⟨e,aZ,f,.inl ?_,h2,a,b,c,V⟩;rw [d,aa];rfl
theorem ee.fY{aM:Nat->Prop}{aS:World}{h:T}{nid:Nat}{v:J}{s:Sem Value}{w:World}(d:cg φ aM h w)(b:Safe aM aS w)(k:∃a,s.run P w=.ok a w/\aB φ v a){r:Result Next}
 (c:r=(s.run P w).andThen λv w=> .ok (.value v) w):ee P φ aM aS h nid v h r :=
 ee.ot (lT.pure d b k) c
theorem i'.of_map{ρ:Operand->J}{ρ':Operand->Value}(a:∀x,aB φ (ρ x) (ρ' x))(o:Option Operand):i' φ (o.map ρ) (o.map ρ'):=by
 cases o with
 |none=>trivial
 |some x=>exact a x
theorem rm{ρ:Operand->J}{ρ':Operand->Value}(a:∀x,aB φ (ρ x) (ρ' x))(xs:Array Operand):bc φ (xs.toList.map ρ) (xs.map ρ').toList:=by rw [tp];exact bc.map _ _ _ λx _=>a x
theorem Jy{l:List J}(h:l.all (·.hD)=true):flat l=l:=by
 induction l with
 |nil=>rfl
 |cons a r ih =>
  simp only [hY,cS]at h;have e:a.cells=[a]:=by cases a<;>first|rfl|(simp [J.hD]at h)
  show a.cells++flat r=a::r;rw [e,ih h.2];rfl
theorem Jz{D:cN}(C:D.cx P){aM:Nat->Prop}{h ad:T}{aS w:World}(r:cg φ aM h w)(W:Safe aM aS w){t u ty:TypeId}{s x v:J}{M bt:Value}(hs:aB φ s M)(I:aB φ x bt)(g:xj D t s x h=some (v,ad)) :
 ∃N aZ,(Builtin.copy_ #[t,u] ty #[M,bt]).run P w=.ok N aZ/\aB φ v N/\cg φ aM ad aZ/\Safe aM aS aZ/\ad.Y=h.Y:=by
 unfold xj at g;split at g
 .rename_i d a len cap k n d4 av;obtain⟨d5,d6,d8,a3,a0, -⟩:=C.get av;split at g
  .rename_i e E;rw [a0]at E;have:=iq E;subst this;split at g
   .rename_i b9 A b ct X m;obtain⟨fn,fs,c0, -, -,dp, -⟩:=C.get ct;split at g
    .rename_i al;obtain⟨cs,c2,c3,c4,c5,Q,R,S,c9,O⟩:=al;split at g
     .rename_i aX o;split at g
      .rename_i Z;obtain⟨d3,c12⟩:=Z;simp only [a6,bo]at g;obtain⟨rfl,rfl⟩:=g;simp only [aB]at hs I;obtain⟨xs,U,rfl,el,em,ce⟩:=hs;obtain⟨f0,B,rfl,ex,e0,dg⟩:=I;rcases ce with ⟨a4,_⟩|⟨f,a4,q,i,eq,H,rfl⟩
       .omega
       .obtain⟨p,ae,G,b2,_⟩:=dg.plain c3;rw [c4]at G;have am:¬B=0:= V;rcases b2 with d0|⟨bv,rfl,d9⟩
        .exact absurd d0 am
        .obtain⟨news,z,n2,L,fd,d2⟩:=r.xA ae X bv R S;rw [Jy c12]at z;have F:news.length=n:=by rw [d2,<-G,lG]
         rw [O]at i;have bn:b.b0 b.ab=b.aQ.length:=by simp [ac.b0]
         have a9:a.idx<b.aQ.length:=(dT.1 o).1
         have d7:aX.length=q.es:=by obtain⟨_,c,h2,_,_,_,_,_,l⟩:=r.cI a.id b.ab q i;rw [m]at h2;simp at h2;subst h2;exact(l.cont a.idx (.agg aX) H (by rw [bn];exact a9) o).1
         have a5:a.fld-1=f:= V;have a2:((A.aQ.drop k.idx).take n).length=n:=by have:=z.length;omega
         obtain⟨d1,K⟩:=r.store i m c9 (idx:=a.idx) (fld:=f) (e:= .agg aX) (e':= .agg (gk aX f ((A.aQ.drop k.idx).take n))) H o z L (by rw [a2];omega) rfl;rw [a5];refine⟨_,_,run_copy_cells w t u ty e q.bH (q.off+(a.idx-q.aD)*q.es+f) len U (p.at k.idx 0) n B news a3 (by rw [c0];simp [dp▸cs]) (by rw [F];exact(Nat.min_eq_left Q).symm) ?_ (λj y=>(K j y).1) (λj y=>(K j y).2) L,?_,d1,?_,rfl⟩
         .intro j v co;have:=n2 j v co;cases j with
          |zero=>simpa [Place.at,Addr.add]using this
          |succ j=>simpa [Place.at,Addr.add]using this
         .rw [F];rfl
         .obtain⟨_,c,h2,g3,g4,g5,g6,g7,l⟩:=r.cI a.id b.ab q i;rw [m]at h2;simp at h2;subst h2;exact rc q.bH (l.base (g6 c9)) news _ W
      .cases g
     .cases g
    .cases g
   .cases g
  .cases g
 .cases g
theorem JA(l:e4 P E){aM:Nat->Prop}{h ad:T}{aS w:World}(r:cg φ aM h w)(g:Safe aM aS w)(M:dN aM aS.heap.size){nid:Nat}(hid:∀v,φ nid v=none)(az:nid<h.Y)
 {b:Builtin} {ts:Array TypeId} (ty:TypeId) (L:Array Bool) {args:List J} {d:Array Value} (c:bc φ args d.toList) {v:J} (a:eB E b ts args nid h=some (v,ad)) :
 ee P φ aM aS h nid v ad ((builtin b ts ty L d).run P w):=by
 unfold eB at a;split at a
 .split at a
  .rename_i x t i;simp only [b4,bo]at a;obtain⟨v1,aa,rfl,rfl⟩:=a;exact ee.fY r g (Jo l.fM ty c i aa w) (by simp [builtin])
  .cases a
 .split at a
  .rename_i s x t u i hu
   have N:(∃j,E.D u=some j/\(j.kind matches .slice _|.string)=true/\gz E.D t s x nid h=some (v,ad)):=by
    split at a
    .rename_i j z;split at a
     .rename_i he;exact⟨j,z,by simp [he],a⟩
     .rename_i he;exact⟨j,z,by simp [he],a⟩
     .cases a
    .cases a
   obtain⟨j,z,I,a⟩:=N;obtain⟨am,W,Z,K,R, -⟩:=l.fM.get z
   have Q:(∃e',P.underlying u=some (.slice e'))\/P.underlying u=some .string:=by
    rw [R]at I;cases W<;>simp [fg]at I
    .right;exact K
    .left;exact⟨_,K⟩
   simp only [bc]at c;obtain⟨e,H,aI,hs,bt,l2,aO,m,k⟩:=c;subst aO k;have f:d= #[e,bt]:=by apply Array.ext';simpa using aI
   have O:=Jq l.fM r g M hid az ty hs m Q a;refine ee.ot (s:=Builtin.append_ ts ty d) (w:=w) ?_ (by simp [builtin]);obtain⟨y,aZ,X,o,q⟩:=O;refine⟨y,aZ,X,?_,q⟩;rw [<-o,f];have A:ts[0]? =(#[t,u]:Array TypeId)[0]? :=by rw [i];rfl
   have B:ts[1]? =(#[t,u]:Array TypeId)[1]? :=by rw [hu];rfl
   simp only [Builtin.append_,A,B]
  .cases a
 .split at a
  .rename_i x U;simp only [b4,bo]at a;obtain⟨v1,aa,rfl,rfl⟩:=a;exact ee.fY r g (I6 ts ty c aa w) (by simp [builtin])
  .cases a
 .split at a
  .rename_i x U;simp only [b4,bo]at a;obtain⟨v1,aa,rfl,rfl⟩:=a;exact ee.fY r g (I7 ts ty c aa w) (by simp [builtin])
  .cases a
 ·
   split at a
   .rename_i s x t u i hu;simp only [bc]at c;obtain⟨e,H,aI,hs,bt,l2,aO,m,k⟩:=c;subst aO k;have f:d= #[e,bt]:=by apply Array.ext';simpa using aI
    obtain⟨y,aZ,o,q,C,F,G⟩:=Jz (P:=P) (u:=u) (ty:=ty) l.fM r g hs m a;refine ee.ot (s:=Builtin.copy_ ts ty d) (w:=w) ⟨y,aZ,φ,?_,fv.refl _ _ _,q,C,F,G⟩ (by simp [builtin]);rw [<-o,f];have A:ts[0]? =(#[t,u]:Array TypeId)[0]? :=by rw [i];rfl
    have B:ts[1]? =(#[t,u]:Array TypeId)[1]? :=by rw [hu];rfl
    simp only [Builtin.copy_,A,B]
   .cases a
 ·
   split at a
   .rename_i x;simp only [b4,bo]at a;obtain⟨v1,aa,rfl,rfl⟩:=a;simp only [bc]at c;obtain⟨e,H,aI,hs,aO⟩:=c;subst aO;have f:d= #[e]:=by apply Array.ext';simpa using aI
    subst f;exact ee.fY r g (Jw (ts:=ts) (ty:=ty) hs aa w) (by simp [builtin])
   .cases a
 ·
   split at a
   .rename_i p n t i;simp only [bc]at c;obtain⟨e,H,aI,hs,bt,l2,aO,m,k⟩:=c;subst aO k;have f:d= #[e,bt]:=by apply Array.ext';simpa using aI
    subst f;have S:bt=.int .i64 n:=by simpa only [aB]using m
    subst S;obtain⟨y,aZ,o,q,C,F,G⟩:=Jx l.fM r g (ty:=ty) i hs a;exact ee.ot (s:=Builtin.unsafeString_ ts ty #[e,.int .i64 n]) ⟨y,aZ,φ,o,fv.refl _ _ _,q,C,F,G⟩ (by simp [builtin])
   .cases a
 .cases a
theorem JB(p:e4 P E){aM:Nat->Prop}{h ad:T}{aS w:World}{call:cJ}(av:iu P aM aS call)(r:cg φ aM h w)(m:Safe aM aS w)(G:dN aM aS.heap.size){nid:Nat}(hid:∀v,φ nid v=none)
 (az:nid<h.Y) {ρ:Operand->J} {ρ':Operand->Value} (k:∀x,aB φ (ρ x) (ρ' x)) {o:Oper} {v:J} (j:bd E call nid ρ h o.op=some (v,ad)) :
 ee P φ aM aS h nid v ad ((execOp ρ' o).run P w):=by
 unfold bd at j;split at j
 ·
   rename_i x e;simp only [a6,bo]at j;obtain⟨rfl,rfl⟩:=j;exact ee.fY (s:=pure (ρ' x)) r m ⟨_,rfl,k x⟩ (by simp [execOp,e])
 .rename_i x e;simp only [a6,bo]at j;obtain⟨rfl,rfl⟩:=j;exact ee.fY (s:=pure (ρ' x)) r m ⟨_,rfl,k x⟩ (by simp [execOp,e])
 ·
   rename_i c a b e;split at j
   .rename_i t al;simp only [a6,bo]at j;obtain⟨rfl,rfl⟩:=j;have aa:=k c;rw [al]at aa;simp only [aB]at aa;refine ee.fY (s:=pure (if t then ρ' a else ρ' b)) r m ⟨_,rfl,?_⟩ (by simp [execOp,e,aa,asBool]);cases t
    .exact k b
    .exact k a
   .cases j
 ·
   rename_i t e;split at j
   .rename_i d K;obtain⟨c3,u,W,hu,S,hs, -,bv⟩:=p.fM.get K;split at j
    .rename_i z co;split at j
     .rename_i al;simp only [a6,bo]at j;obtain⟨rfl,rfl⟩:=j;simp only [cS,gx]at al;obtain⟨dg,b2,ce⟩:=pK (P:=P) (φ:=φ) (t:=t) p.fM bv co;obtain⟨aZ,I,A,q,C,F,H⟩:=BG (P:=P) (D:=E.D) r m G hid az t ce al.1 al.2;refine .inl ⟨_,aZ,I,.inl ?_,q,C,F,H,Nat.le_refl _⟩;simp [execOp,e,Instr.alloc,rf W b2,A]
     .cases j
    .cases j
   .cases j
 ·
   rename_i t x e;split at j
   .rename_i d K;split at j
    .rename_i al;simp only [a6,bo]at j;obtain⟨rfl,rfl⟩:=j;simp only [cS,gx]at al;obtain⟨aZ,I,A,q,C,F,H⟩:=BG (P:=P) (D:=E.D) r m G hid az t (k x) al.1 al.2;refine .inl ⟨_,aZ,I,.inl ?_,q,C,F,H,Nat.le_refl _⟩;simp [execOp,e,Instr.box,A]
    .cases j
   .cases j
 ·
   rename_i t parts e;simp only [b4,bo]at j;obtain⟨v1,aa,rfl,rfl⟩:=j;exact ee.fY r m (Jj p.fM k aa w) (by simp [execOp,e])
 ·
   rename_i t n parts e;exact ee.ot (Jm p.fM r m G hid az k j) (by simp [execOp,e])
 ·
   rename_i t x e;split at j
   .rename_i a B;simp only [b4,bo]at j;obtain⟨v1,aa,rfl,rfl⟩:=j;exact ee.fY r m (BF p.fM r (by have:=k x;rw [B]at this;exact this) aa) (by simp [execOp,e])
   .cases j
 ·
   rename_i t x y e;split at j
   .rename_i a B;simp only [b4,bo]at j;obtain⟨aa,ct,rfl,rfl⟩:=j;obtain⟨aZ,A,q,C,F⟩:=Jg p.fM r m (by have:=k x;rw [B]at this;exact this) (k y) ct;refine .inl ⟨undef,aZ,φ,.inr ⟨?_,rfl⟩,fv.refl _ _ _,aB.eN φ,q,C,V⟩;simp [execOp,e,A]
   .cases j
 ·
   rename_i x e;split at j
   .rename_i a B;simp only [a6,bo]at j;obtain⟨rfl,rfl⟩:=j;have aa:=k x;rw [B]at aa;have h2:=aa;simp only [aB]at h2;obtain⟨c9,h2,X⟩:=h2;exact ee.fY (s:=pure (ρ' x)) r m ⟨_,rfl,aa⟩ (by simp [execOp,e,h2])
   .rename_i g fs aX B;simp only [a6,bo]at j;obtain⟨rfl,rfl⟩:=j;have aa:=k x;rw [B]at aa;have h2:=aa;simp only [aB]at h2;obtain⟨N,L,h2,X,c4⟩:=h2;exact ee.fY (s:=pure (ρ' x)) r m ⟨_,rfl,aa⟩ (by simp [execOp,e,h2])
   .cases j
 ·
   rename_i op t x y ty e;simp only [b4,bo]at j;obtain⟨v1,aa,rfl,rfl⟩:=j;obtain⟨Q,A,q,C⟩:=I1 p.fM p.eqs (k x) (k y) aa w;exact ee.fY (s:=binOp op t (ρ' x) (ρ' y)) r m ⟨Q,q,C⟩ (by simp [execOp,e,A])
 ·
   rename_i op t x e;simp only [b4,bo]at j;obtain⟨v1,aa,rfl,rfl⟩:=j;exact ee.fY r m (I2 (k x) aa w) (by simp [execOp,e])
 ·
   rename_i s d x e;simp only [b4,bo]at j;obtain⟨v1,aa,rfl,rfl⟩:=j;exact ee.fY r m (I3 p.fM (k x) aa w) (by simp [execOp,e])
 ·
   rename_i g fs aX e;simp only [a6,bo]at j;obtain⟨rfl,rfl⟩:=j;refine ee.fY (s:=pure (.func (.func g) (fs.map ρ') (aX.map ρ'))) r m ⟨_,rfl,?_⟩ (by simp [execOp,e,Instr.makeFunc]);simp only [aB];exact⟨_,_,rfl,rm k fs,rm k aX⟩
 ·
   rename_i t x e;split at j
   .rename_i d K;obtain⟨c3,u,W,hu,S, -⟩:=p.fM.get K;split at j
    .cases j
    .rename_i U;simp only [a6,bo]at j;obtain⟨rfl,rfl⟩:=j;refine ee.fY (s:=Instr.makeInterface t (ρ' x)) r m ⟨.iface t (ρ' x),?_,by simp only [aB];exact⟨_,rfl,k x⟩⟩ (by simp [execOp,e]);rw [S]at U;simp only [Instr.makeInterface,Sem.run_bind,run_underlying hu,Result.andThen_ok];cases u<;>first|rfl|exact absurd rfl (U _)
   .cases j
 ·
   rename_i t l c e;exact ee.ot (Jn p.fM r m G hid az (k l) (k c) j) (by simp [execOp,e])
 ·
   rename_i t x aD ah mx e;simp only [b4,bo]at j;obtain⟨v1,aa,rfl,rfl⟩:=j;exact ee.fY r m (Jd p.fM (k x) (i'.of_map k aD) (i'.of_map k ah) (i'.of_map k mx) aa w) (by simp [execOp,e])
 ·
   rename_i t x f e;simp only [b4,bo]at j;obtain⟨v1,aa,rfl,rfl⟩:=j;exact ee.fY r m (Ja p.fM (k x) aa w) (by simp [execOp,e])
 ·
   rename_i t x f e;simp only [b4,bo]at j;obtain⟨v1,aa,rfl,rfl⟩:=j;exact ee.fY r m (I8 p.fM (k x) aa w) (by simp [execOp,e])
 ·
   rename_i t x i e;simp only [b4,bo]at j;obtain⟨v1,aa,rfl,rfl⟩:=j;exact ee.fY r m (Jb p.fM (k x) (k i) aa w) (by simp [execOp,e])
 ·
   rename_i t x i e;simp only [b4,bo]at j;obtain⟨v1,aa,rfl,rfl⟩:=j;exact ee.fY r m (I9 p.fM (k x) (k i) aa w) (by simp [execOp,e])
 ·
   rename_i x i e;split at j
   .rename_i vs bn;simp only [b4,bo]at j;obtain⟨v1,aa,rfl,rfl⟩:=j;exact ee.fY r m (I' (by have:=k x;rw [bn]at this;exact this) aa w) (by simp [execOp,e])
   .cases j
 ·
   rename_i c e;split at j
   .rename_i f O;unfold kp at j;split at j
    .rename_i g first captured a4
     have aa:=k f;rw [a4]at aa;simp only [aB]at aa;obtain⟨N,L,aa,a3,a2⟩:=aa
     have Z:bc φ (first++c.args.toList.map ρ++captured) (N++c.args.map ρ'++L).toList:=by simp only [lL];exact(a3.append (rm k c.args)).append a2
     obtain⟨⟨fn,body,R,am⟩,a0⟩:=av _ _ _ _ _ j φ w _ r m Z;refine .inr ⟨g,N++c.args.map ρ'++L,w,?_,a0.mono ?_⟩
     .have a5:¬fn.name= "runtime.NumGoroutine" :=by simpa using p.names g fn R
      simp [execOp,e,resolve,O,aa,Deferred.ofValue,invoke,callFunc,R,a5,am]
     .rintro e' c5 ⟨Q,I,A,q,F,H,c0,c2⟩;exact⟨Q,I,A,⟨q.le,λi ah _ a9=>q.new i ah a9,q.ro⟩,F,H,c0,c2⟩
    .cases j
   .rename_i b O;have he:∃M,(execOp ρ' o).run P w=(builtin b c.argTypes o.type M (c.args.map ρ')).run P w:=⟨_,by simp [execOp,e,resolve,O,invoke];rfl⟩
    obtain⟨M,he⟩:=he;rw [he];exact JA p r m G hid az o.type M (rm k c.args) j
   .cases j
 .cases j
theorem BV:∀(bb:List Int)(r:ByteArray),(bb.foldl (λr n=>r.push (UInt8.ofNat n.toNat)) r).data.toList=r.data.toList++bb.map (λn=>UInt8.ofNat n.toNat)
 |[],r=> an
 |n::l,r=>by simp only [hB,eF];rw [BV l];simp [ByteArray.push]
theorem rn(w:World)(a:Addr)(k:Nat):(w.freeze a 1).heap[k]? =if a.block=k then(w.heap[k]?).map λo=>match o with
 |.cells c elem (aD,ah)=> .cells c elem (if aD == ah then(a.off,a.off+1)else(min aD a.off,max ah (a.off+1)))
 |o=>o else w.heap[k]? :=by
 unfold World.freeze;rw [ap aA];simp only [Array.getElem?_modify];rfl
theorem BW(w:World)(a x:Addr):(w.freeze a 1).cell? x=w.cell? x:=by
 unfold World.cell?;rw [rn];by_cases h:a.block=x.block
 .rw [aE h];cases b:w.heap[x.block]? with
  |none=>rfl
  |some o =>
   cases o;case cells c t f=>obtain⟨aD,ah⟩:=f;rfl
   all_goals rfl
 .rw [ap h]
theorem h6.freeze{w:World}{a:Addr}{n:Nat}(az:∃t aD ah,ed w a.block=some (t,n,aD,ah)/\(aD=ah\/n<=aD))(j:a.off=n){k:Nat}(h:h6 w k):h6 (w.freeze a 1) k:=by
 by_cases e:a.block=k
 .subst e;obtain⟨l,aD,ah,aa,h2⟩:=az;unfold h6 ed;rw [rn,aE rfl];unfold ed at aa;cases d:w.heap[a.block]? with
  |none=>rw [d]at aa;cases aa
  |some o =>
   rw [d]at aa;cases o
   case cells c t f =>
    obtain⟨i,g⟩:=f;simp only [a6,bo]at aa;obtain⟨rfl,rfl,rfl,rfl⟩:=aa;simp only [ev];by_cases b:i=g
    .refine⟨t,c.size,a.off,a.off+1,by simp [b],.inr V⟩
    .refine⟨t,c.size,min i a.off,max g (a.off+1),by simp [b],.inr ?_⟩;rcases h2 with h2|h2
     .exact absurd h2 b
     .omega
   all_goals cases aa
 .exact h.of_eq (ol (by rw [rn,ap e]))
theorem h6.free{w:World}{b o:Nat}(h:h6 w b)(al:(w.cell? ⟨b,o,none⟩).isSome=true):w.frozen? ⟨b,o,none⟩=false:=by
 obtain⟨j,n,aD,ah,aa,h2⟩:=h;unfold ed at aa;unfold World.cell? at al;unfold World.frozen?;simp only at al⊢;cases a:w.heap[b]? with
 |none=>simp [a]at aa
 |some d =>
  rw [a]at aa al;cases d
  case cells c t f =>
   obtain⟨i,e⟩:=f;simp only [a6,bo]at aa;obtain⟨rfl,rfl,rfl,rfl⟩:=aa;simp only [mH,ew,ey]at al
   have g:o<c.size:=by
    rcases gg o c.size with h|h
    .exact h
    .rw [n' h]at al;cases al
   simp;omega
  all_goals cases aa
theorem JC{w:World}{a:Addr}{k:Nat}{t:TypeId}{n aD ah:Nat}(h:ed w k=some (t,n,aD,ah)):∃aD ah,ed (w.freeze a 1) k=some (t,n,aD,ah):=by
 unfold ed at h⊢;rw [rn];by_cases e:a.block=k
 .rw [aE e];cases b:w.heap[k]? with
  |none=>rw [b]at h;cases h
  |some o =>
   rw [b]at h;cases o
   case cells c j f =>
    obtain⟨i,d⟩:=f;simp only [a6,bo]at h;obtain⟨rfl,rfl,rfl,rfl⟩:=h;simp only [ev];by_cases g:i=d
    .exact⟨a.off,a.off+1,by simp [g]⟩
    .exact⟨min i a.off,max d (a.off+1),by simp [g]⟩
   all_goals cases h
 .rw [ap e];exact⟨aD,ah,h⟩
theorem cg.freeze{aM:Nat->Prop}{h:T}{w:World}(r:cg φ aM h w){a:Addr}{n:Nat}(az:∃t aD ah,ed w a.block=some (t,n,aD,ah)/\(aD=ah\/n<=aD))(y:a.off=n):cg φ aM h (w.freeze a 1) where
 cI i v p ae:=by
  obtain⟨aa,b,h2,k,l,m,q,s,c⟩:=r.cI i v p ae;have hm:b.ro=false->h6 (w.freeze a 1) p.bH:=λf=>(c.mark f).freeze az y
  have g:∀o,o<p.dY*p.es->((w.freeze a 1).cell? ⟨p.bH,p.off+o,none⟩).isSome=true:=λo d=>by rw [BW];exact c.cells o d
  refine⟨aa,b,h2,k,l,m,q,s,⟨?_,c.base,g,λf o d=>(hm f).free (g o d),hm,λt9 u=>(by obtain⟨F,I,i9,D,A,B⟩:=c.ha t9 u;obtain⟨E,i8,C⟩:=JC (a:=a) D;exact⟨F,E,i8,C,A,B⟩),λi e g1 g2 g3=> ?_⟩⟩
  .have:=c.bH;unfold World.freeze;rw [ap aA];simpa using this
  .obtain⟨cq,cn,ei⟩:=c.cont i e g1 g2 g3
   exact⟨cq,cn,λj bt z=>by
    obtain⟨x,G,H⟩:=ei j bt z
    exact⟨x,by rw [BW];exact G,H⟩⟩
 apart:=r.apart
 same:=r.same
theorem Safe.freeze{S:Nat->Prop}{a w:World}(h:Safe S a w){p:Addr}(ae:¬S p.block):Safe S a (w.freeze p 1) :=
 h.trans ⟨by unfold World.freeze;rw [ap aA],by unfold World.freeze;rw [ap aA],by unfold World.freeze;rw [ap aA],by unfold World.freeze;rw [ap aA];simp,λk b=>by
  have c:¬p.block=k:=λe=>ae (by rw [e];exact b)
  rw [rn,ap c]⟩
theorem JD(w:World)(s e:TypeId)(x:Addr)(n c:Nat)(hs:P.underlying s=some (.slice e))(he:P.underlying e=some (.int .u8)){d:TypeId}{m aD ah:Nat}(hm:ed w x.block=some (d,m,aD,ah)) :
 (convert s s (.slice (some x) n c)).run P w=.ok (.slice (some x) n c) (w.freeze ⟨x.block,m,none⟩ 1):=by
 unfold ed at hm;cases a:w.heap[x.block]? with
 |none=>rw [a]at hm;cases hm
 |some o =>
  rw [a]at hm;cases o
  case cells bN t f =>
   obtain⟨h,g⟩:=f;simp only [a6,bo]at hm;obtain⟨rfl,rfl,rfl,rfl⟩:=hm;have b:w.shape? x.block=some (t,bN.size):=by unfold World.shape?;rw [a]
   simp [convert,run_underlying hs,run_underlying he,markStringish,b]
  all_goals cases hm
theorem JE{D:cN}(j:D.cx P){aM:Nat->Prop}{h ad:T}{aS w:World}(r:cg φ aM h w)(F:Safe aM aS w)(a5:dN aM aS.heap.size){nid:Nat}(hid:∀v,φ nid v=none)(az:nid<h.Y)
 {s d:TypeId} {x v:J} {bt:Value} (g:aB φ x bt) (f:oh D s d x nid h=some (v,ad)):lT P φ aM aS h nid v ad (convert s d bt) w:=by
 unfold oh at f;split at f
 .rename_i d0 a2 aU M L;obtain⟨d1,d2,c4,y,I, -, -⟩:=j.get M;obtain⟨a3,a4,a9,H,G, -, -⟩:=j.get L;split at f
  .rename_i e U he;rw [I]at U;rw [G]at he;have:=mU U;subst this;have:=iq he;subst this;split at f
   .rename_i N B;obtain⟨O,Q,S,o,C, -, -⟩:=j.get B;split at f
    .rename_i i;rw [C]at i;have:=re i;subst this;simp only [a6,bo]at f;obtain⟨rfl,rfl⟩:=f;simp only [aB]at g;obtain⟨t,rfl,rfl⟩:=g;have c3:=Go.run_bytes_of_string (P:=P) w s d e t y H o;have W:t.size<=grownCap w t.size 0 e:=grownCap_ge w t.size 0 e;have c5:(bytesRow t (grownCap w t.size 0 e)).size=grownCap w t.size 0 e:=by simp [bytesRow];omega
     have hlen:(t.data.toList.map λb=>J.int .u8 b.toNat).length=t.size:=by rw [gy,gh];rfl
     have av:t.data.toList.length=t.size:=by rw [gh];rfl
     have R:dN aM w.heap.size:=a5.le F.size;refine⟨_,_,φ.add nid 0 ⟨w.heap.size,0,0,1,grownCap w t.size 0 e,false,false⟩,c3,fv.add φ _ (hid 0) _,?_,?_,F.drew.alloc (by simpa using R) _,rfl⟩
     .rw [av];exact aB.h5 (ex:=false) (Nat.le_refl _) W (Nat.le_refl _) an
     .have bv:flat (t.data.toList.map λb=>J.int .u8 b.toNat)=t.data.toList.map λb=>J.int .u8 b.toNat:=by
       generalize t.data.toList=l;induction l with
       |nil=>rfl
       |cons a r ih=>simp only [eF,flat,kW,J.cells]at ih⊢; rw [ih];rfl
      have am:(bytesRow t (grownCap w t.size 0 e)).toList.take ((t.data.toList.map λb=>J.int .u8 b.toNat).length*1)=t.data.toList.map λb=>Value.int .u8 b.toNat:=by rw [hlen,lG];simp [bytesRow,qZ,av]
      refine(r.alike (Alike.rk w)).IR hid az (by simpa using R) (Nat.one_pos) ?_ ?_ (by rw [c5];simp) (by rw [hlen];exact W) ?_ ?_ nofun
      .intro e he;obtain⟨b,_,rfl⟩:=dz.1 he;rfl
      .rw [am,bv];exact bc.map _ _ _ λb _=>by simp only [aB]
      .rw [am];intro u hu;obtain⟨_,_,rfl⟩:=dz.1 hu;rfl
      .exact .inr (Nat.le_refl _)
    .cases f
   .cases f
  .cases f
 .rename_i d0 a2 a n c M L;obtain⟨d1,d2,c4,y,I, -, -⟩:=j.get M;obtain⟨a3,a4,a9,H,G, -, -⟩:=j.get L;split at f
  .rename_i e e' z A;rw [I]at z;rw [G]at A;have:=iq z;subst this;have:=iq A;subst this;split at f
   .rename_i N a0 B;obtain⟨O,Q,S,o,C, -, -⟩:=j.get B;split at f
    .rename_i b i k;rw [C]at i;have:=re i;subst this;split at f
     .rename_i al;obtain⟨rfl,c2,bn,d8⟩:=al;simp only [a6,bo]at f;obtain⟨rfl,rfl⟩:=f;have dg:=g;simp only [aB]at g;obtain⟨K,E,rfl,dp,l2,Z⟩:=g;obtain⟨p,ae,d6,c0,hex⟩:=Z.plain bn;obtain⟨g1,d4,g2,g3,g4,g5,g6,g7,g8⟩:=r.cI _ _ _ ae;rw [k]at g2;simp at g2;subst g2;have X:b.ro=false:=c2;rcases c0 with aN|⟨d7,rfl,d9⟩
      .omega
      .obtain⟨d3,m,aD,ah,m1,m2⟩:=g8.mark X;exact⟨_,_,φ,JD w s e (p.at a0.idx 0) n E y o m1,fv.refl _ _ _,dg,r.freeze (a:=⟨p.bH,m,none⟩) ⟨d3,aD,ah,m1,m2⟩ rfl,F.freeze (g8.base (g6 X)),rfl⟩
     .cases f
    .cases f
   .cases f
  .rename_i e z A;rw [I]at z;rw [G]at A;have:=iq z;subst this;have:=mU A;subst this;split at f
   .rename_i N B;obtain⟨O,Q,S,o,C, -, -⟩:=j.get B;split at f
    .rename_i i;rw [C]at i;have:=re i;subst this;split at f
     .rename_i l b2;cases k:bytesOf l with
      |none=>rw [k]at f;cases f
      |some q =>
       rw [k]at f;simp only [ev,a6,bo]at f;obtain⟨rfl,rfl⟩:=f;obtain⟨news,src,c9,d5⟩:=tZ (P:=P) (tx:=s) r g b2 (Nat.one_pos) (.inl ⟨e,y⟩);obtain⟨bb,aI,aO⟩:=BQ k c9;refine lT.pure r F ?_;cases a with
       |none =>
        simp only [aB]at g;obtain⟨rfl,_,_⟩:=g;have aN:=src.cells;refine⟨.string .empty,?_,?_⟩
        .rw [run_convert_bytes_string w s d e none 0 0 y o H];rfl
        .simp only [aB];refine⟨_,rfl,?_⟩
         have ce:l=[]:=by have:=src.len w;simp [Builtin.lenOf]at this;exact mG.1 this.symm
         subst ce;simp [bytesOf]at k;subst k;rfl
       |some a =>
        simp only [aB]at g;obtain⟨K,E,rfl,dp,l2,Z⟩:=g
        have ct:l.length=n:=by have:=src.len w;simp [Builtin.lenOf]at this;exact this.symm
        have aN:=src.cells;rw [ct]at aN
        have co:(loadCells K n).run P w=.ok (bb.map (Value.int .u8)).toArray w:=by rw [aI]at aN;simpa [Builtin.firstCells]using aN
        refine⟨_,by rw [run_convert_bytes_string w s d e (some K) n E y o H];exact run_bytesToString w K n E bb co,?_⟩;simp only [aB];refine⟨_,rfl,?_⟩;rw [BV,aO];rfl
     .cases f
    .cases f
   .cases f
  .cases f
 .cases f
theorem JF{k:Nat}{args:List J}{f:Array Value}(g:bc φ args f.toList){v:J}(h:xk k args=some v){j:Array Value->Sem Value}(he:rl k=some j)(w:World) :
 ∃m,(j f).run P w=.ok m w/\aB φ v m:=by
 unfold xk at h;split at h
 .rename_i s c;obtain⟨l⟩:=f;simp only [bc]at g;obtain⟨a,t,rfl,d,b,u,rfl,e,rfl⟩:=g;simp only [aB]at d e;obtain⟨i,rfl,rfl⟩:=d;subst e;split at h
  .simp only [a6]at h;subst h;simp only [rl,a6]at he;subst he;exact⟨_,Go.Lib.run_countString i c w,by simp only [aB]⟩
  .simp only [a6]at h;subst h;simp only [rl,a6]at he;subst he;exact⟨_,Go.Lib.run_indexByteString i c w,by simp only [aB]⟩
  .cases h
 .rename_i s s2;obtain⟨l⟩:=f;simp only [bc]at g;obtain⟨a,t,rfl,d,b,u,rfl,e,rfl⟩:=g;simp only [aB]at d e;obtain⟨i,rfl,rfl⟩:=d;obtain⟨o,rfl,rfl⟩:=e;split at h
  .rename_i n;subst n;simp only [a6]at h;subst h;simp only [rl,a6]at he;subst he;exact⟨_,Go.Lib.run_compareString i o w,by simp only [aB]⟩
  .cases h
 .cases h
theorem JG(b:e4 P E){aM:Nat->Prop}{h ad:T}{aS w:World}{call:cJ}(B:iu P aM aS call)(r:cg φ aM h w)(j:Safe aM aS w)(p:dN aM aS.heap.size){nid:Nat}(hid:∀v,φ nid v=none)
 (az:nid<h.Y) {ρ:Operand->J} {ρ':Operand->Value} (i:∀x,aB φ (ρ x) (ρ' x)) {o:Oper} {v:J} (a:gY E call nid ρ h o.op=some (v,ad)) :
 ee P φ aM aS h nid v ad ((execOp ρ' o).run P w):=by
 unfold gY at a;split at a
 .rename_i Q aN;simp only [a6]at a;subst a;exact JB b B r j p hid az i aN
 .unfold er at a;split at a
  .rename_i s d x e;exact ee.ot (JE b.fM r j p hid az (i x) a) (by simp [execOp,e])
  .rename_i c e;split at a
   .rename_i f C;split at a
    .rename_i g F;split at a
     .rename_i k G;simp only [b4,bo]at a;obtain⟨v1,aa,rfl,rfl⟩:=a;obtain⟨fn,y,u,L,M,N,O⟩:=b.BU g k G;have l:=i f;rw [F]at l;simp only [aB,bc]at l;obtain⟨n,m,K,q,t⟩:=l;have D:n= #[]:=by cases n;simp at q;subst q;rfl
      have A:m= #[]:=by cases m;simp at t;subst t;rfl
      subst D;subst A;have z:=rm i c.args;have H:=JF (P:=P) z aa O w;refine ee.fY (s:=y (c.args.map ρ')) r j H ?_;have I:=run_callFunc_extern u (b.names g fn u) L M N (c.args.map ρ') w;rw [<-I];simp [execOp,e,resolve,C,K,Deferred.ofValue,invoke]
     .cases a
    .cases a
   .cases a
  .cases a
theorem JH(n:e4 P E){aM:Nat->Prop}{h ad:T}{aS w:World}{call:cJ}(s:iu P aM aS call)(r:cg φ aM h w)(q:Safe aM aS w)(p:dN aM aS.heap.size){nid:Nat}(hid:∀v,φ nid v=none)
 (az:nid<h.Y) {ρ:Operand->J} {a:Act} (u:∀x,aB φ (ρ x) (a.eval x)) {o:Oper} {v:J} (t:gY E call nid ρ h o.op=some (v,ad)) {Y:Act->World->Prop} {Q:Exit->Act->World->Prop}
 (m:∀l aZ c,fv φ c h.Y nid->aB c v l->cg c aM ad aZ->Safe aM aS aZ->h.Y<=ad.Y->Y (a.put o.dst l) aZ):o.wp P a w Y Q:=by
 unfold Oper.wp;rcases JG n s r q p hid az u t with ⟨l,aZ,c,b,d,g,i,j,k⟩|⟨f,args,aZ,b,al⟩
 .rcases b with b|⟨b,rfl⟩
  .rw [b];exact m _ _ _ d g i j k
  .rw [b];exact m _ _ _ d g i j k
 .rw [b]
  exact al.mono λe z ⟨l,c,y,d,g,i,j,k⟩=>by subst y;exact m _ _ _ d g i j k
end
end
noncomputable section
open Go.RowKit
structure eI(φ:Map)(aM:Nat->Prop)(aS:World)(s:dM)(a:Act)(w:World):Prop where
 dA:bc φ s.dA a.tmps.toList
 heap:cg φ aM s.heap w
 below:Safe aM aS w
 defers:a.defers=[]
section
variable {P:Program}{φ:Map}{E:a'}
theorem bc.xD{l:List J}{t:Array Value}(h:bc φ l t.toList)(i:Nat):aB φ (l.getD i .undef) (t.getD i undef):=by
 have h2:t.getD i undef=t.toList.getD i undef:=by simp [hZ,gf]
 rw [h2];exact h.getD i
theorem eI.eval{aM:Nat->Prop}{aS w:World}{s:dM}{a:Act}(r:eI φ aM aS s a w)(x:Operand):aB φ (cp s.dA x) (a.eval x):=by
 cases x with
 |tmp t=>exact r.dA.xD t
 |const v=>exact Bp φ v
 |global g=>simp [cp,aB]
 |func f=>simp only [cp,aB];exact⟨#[],#[],rfl,by simp [bc],by simp [bc]⟩
theorem BX{s:List J}{a:Act}(h:bc φ s a.tmps.toList)(dst:Option Tmp){v:J}{b:Value}(c:aB φ v b):bc φ (fJ s dst v) (a.put dst b).tmps.toList:=by
 cases dst with
 |none=>exact h
 |some d =>
  simp only [fJ,Act.put,Array.toList_setIfInBounds];exact h.set d c
theorem put_defers(a:Act)(dst:Option Tmp)(v:Value):(a.put dst v).defers=a.defers:=by cases dst<;>rfl
theorem BY{s:List J}{a:Act}(h:bc φ s a.tmps.toList){ops:Array Oper}{o:Oper}{b:Bool}(hw:gZ ops s o=some b):Region.wanted o (yielded ops a.tmps)=b:=by
 unfold gZ at hw;unfold Region.wanted;split at hw
 .rename_i e;simp at hw;subst hw;simp [e]
 .rename_i j want e;rw [e];simp only;split at hw
  .rename_i d k;unfold yielded;rw [k];simp only [pq];split at hw
   .rename_i c al;simp at hw;subst hw;obtain⟨v,g,f⟩:=h.get al;simp only [aB]at f;subst f;have i:a.tmps[d]? =some (.bool c):=by simpa using g
    rw [i];cases c<;>cases want<;>rfl
   .rename_i al;simp at hw;subst hw;obtain⟨v,g,f⟩:=h.get al;simp only [aB]at f;obtain⟨xs,rfl,_⟩:=f;have i:a.tmps[d]? =some (.tuple xs):=by simpa using g
    rw [i];cases want<;>rfl
   .cases hw
  .cases hw
theorem BZ(m:e4 P E){aM:Nat->Prop}{aS w:World}(n:dN aM aS.heap.size){call:cJ}(p:iu P aM aS call){ops:Array Oper}{b i:Nat}{s g:dM}{a:Act}(r:eI φ aM aS s a w)
 (hid:b+i<s.heap.Y/\∀v,φ (b+i) v=none) (h:mR E call ops b i s=some g) {K:Act->World->Prop} {Q:Exit->Act->World->Prop}
 (d:∀bK aZ c,fv φ c s.heap.Y (b+i)->eI c aM aS g bK aZ->s.heap.Y<=g.heap.Y->K bK aZ):wpOp P ops Q i K a w:=by
 unfold mR at h;unfold wpOp;split at h
 .rename_i e;simp at h;subst h;rw [e];exact d a w φ (fv.refl _ _ _) r (Nat.le_refl _)
 .rename_i o e;rw [e];split at h
  .rename_i hw;have f:=BY r.dA hw;split at h
   .rename_i v ae q;simp at h;subst h;simp only [f,dy];left;refine JH m p r.heap r.below n hid.2 hid.1 r.eval q λt aZ c aa h2 j k l=> ?_
    refine d _ aZ c aa ⟨?_,j,k,by rw [put_defers];exact r.defers⟩ l;exact BX (r.dA.mono aa.le) _ h2
   .cases h
  .rename_i hw;have f:=BY r.dA hw;simp at h;subst h;simp only [f,ew,ey];exact d _ w φ (fv.refl _ _ _) ⟨BX r.dA _ (aB.eN φ),r.heap,r.below,by rw [put_defers];exact r.defers⟩ (Nat.le_refl _)
  .cases h
theorem B0(m:e4 P E){aM:Nat->Prop}{aS:World}(n:dN aM aS.heap.size){call:cJ}(o:iu P aM aS call){ops:Array Oper}{b:Nat}{Q:Exit->Act->World->Prop} :
 ∀{l:List Nat}{s c:dM}{a:Act}{w:World}{φ:Map},k2 E call ops b l s=some c->eI φ aM aS s a w->l.Nodup->(∀j∈l,b+j<s.heap.Y/\∀v,φ (b+j) v=none) ->
  (∀bK aZ g,dH φ g b->eI g aM aS c bK aZ->s.heap.Y<=c.heap.Y->Q .normal bK aZ)->wpOps P ops Q l a w
 |[],s,c,a,w,φ,h,r,_,_,f=>by simp [k2]at h;subst h;simp only [wpOps];exact f a w φ (dH.refl _ _) r (Nat.le_refl _)
 |i ::rest,s,c,a,w,φ,h,r,x,hid,f=>by
  simp only [k2]at h;split at h
  .rename_i s1 aa;rw [wpOps_cons];have q:=pr.1 x;refine BZ m n o r (hid i an) aa λbK aZ g d z hle=> ?_
   refine B0 m n o h z q.2 (λj p=> ?_) λB F G u A D=> ?_
   .have t : b + j ≠ b + i := by intro e;have:j=i:= V
                                 subst this;exact q.1 p
    obtain⟨g1,g2⟩:=hid j (by simp [p]);exact⟨V,d.new _ g1 t g2⟩
   .refine f _ _ _ (dH.trans ⟨d.le,λk C y=>d.new k ?_ V y,d.ro⟩ u) A V;have:=(hid i an).1;omega
  .cases h
end
end
noncomputable section
open Go.RowKit
mutual
theorem J.ub:∀{a b:J},J.same a b=true->a=b:=by
 intro a b h
 cases a<;>cases b<;>simp only [J.same,ew,cS,kh,gx]at h <;>
  first
   |rfl
   |(subst h;rfl)
   |(obtain⟨rfl,rfl⟩:=h;rfl)
   |(obtain⟨⟨rfl,rfl⟩,rfl⟩:=h;rfl)
   |(obtain⟨⟨rfl,aa⟩,h2⟩:=h;rw [J.mX aa,J.mX h2])
   |(obtain⟨rfl,aa⟩:=h;rw [J.ub aa])
   |(rw [J.mX h])
theorem J.mX:∀{a b:List J},J.iW a b=true->a=b:=by
 intro a b h;cases a<;>cases b<;>simp only [J.iW,ew,cS]at h
 .rfl
 .obtain⟨aa,h2⟩:=h;rw [J.ub aa,J.mX h2]
end
theorem ac.ub{a b:ac}(h:ac.same a b=true):a=b:=by cases a;cases b;simp only [ac.same,cS,kh]at h;obtain⟨⟨⟨⟨⟨⟨⟨aa,h2⟩,c⟩,d⟩,e⟩,f⟩,g⟩,i⟩:=h;rw [J.mX aa,h2,c,d,e,f,g,i]
mutual
theorem J.uc:∀(a:J),J.same a a=true
 |.undef=>rfl
 |.bool _=>by simp [J.same]
 |.int _ _=>by simp [J.same]
 |.str _=>by simp [J.same]
 |.ptr _=>by simp [J.same]
 |.slice _ _ _=>by simp [J.same]
 |.func _ f c=>by simp [J.same,J.pL f,J.pL c]
 |.nilFunc=>rfl
 |.iface _ v=>by simp [J.same,J.uc v]
 |.nilIface=>rfl
 |.agg l=>by simp [J.same,J.pL l]
 |.tuple l=>by simp [J.same,J.pL l]
theorem J.pL:∀(l:List J),J.iW l l=true
 |[]=>rfl
 |a::r=>by simp [J.iW,J.uc a,J.pL r]
end
theorem ac.uc(a:ac):ac.same a a=true:=by simp [ac.same,J.pL]
theorem B1{b0:Nat}{h ad:T}(k:mS b0 h ad=true){i:Nat}(ah:i<b0):ad.get i=h.get i :=
 aF.xa (λ_ _=>ac.ub) b0 ad.ay h.ay 0 1 k i V
theorem ud{b0:Nat}{h ad:T}(k:∀i,i<b0->ad.get i=h.get i):mS b0 h ad=true :=
 aF.xb ac.uc b0 ad.ay h.ay 0 1 λi ah=>k i V
section
variable {E:a'}{call:cJ}
theorem kt{nid:Nat}{ρ:Operand->J}{h aa:T}{o:Op}{v:J}(al:cA o=.pure)(e:bd E call nid ρ h o=some (v,aa)) :
 aa=h/\∀(p:Nat)(ad:T),bd E call p ρ ad o=some (v,ad):=by
 cases o<;>simp only [cA,reduceCtorEq]at al<;>simp only [bd]at e⊢ <;>
  first
   |(simp only [b4,bo,a6]at e
     obtain⟨v1,k,rfl,rfl⟩:=e
     exact⟨rfl,λ_ _=>by rw [k];rfl⟩)
   |(simp only [bo,a6]at e
     obtain⟨rfl,rfl⟩:=e
     exact⟨rfl,λ_ _=>rfl⟩)
   |skip
 .split at e
  .rename_i t n;simp only [bo,a6]at e;obtain⟨rfl,rfl⟩:=e;exact⟨rfl,λ_ _=>by simp only [n]⟩
  .cases e
 .split at e
  .rename_i a j;simp only [bo,a6]at e;obtain⟨rfl,rfl⟩:=e;exact⟨rfl,λ_ _=>by simp only [j]⟩
  .rename_i g fs aX j;simp only [bo,a6]at e;obtain⟨rfl,rfl⟩:=e;exact⟨rfl,λ_ _=>by simp only [j]⟩
  .cases e
 .split at e
  .rename_i d l;split at e
   .cases e
   .rename_i q;simp only [bo,a6]at e;obtain⟨rfl,rfl⟩:=e;refine⟨rfl,λ_ _=> ?_⟩;simp only [l]
  .cases e
 .rename_i fn fs aX;cases fn<;>simp only [bd]at e⊢ <;>first|(cases e;done)|skip
  simp only [bo,a6]at e;obtain⟨rfl,rfl⟩:=e;exact⟨rfl,λ_ _=>rfl⟩
 .split at e
  .rename_i vs k;simp only [b4,bo]at e;obtain⟨v1,aa,rfl,rfl⟩:=e;exact⟨rfl,λ_ _=>by simp only [k,aa,ev]⟩
  .cases e
 .rename_i c;cases i:c.callee with
  |value f=>rw [i]at al;simp at al
  |invoke r m=>rw [i]at al;simp at al
  |builtin b =>
   rw [i]at al e;simp only [i];cases b<;>first|(simp at al;done)|skip
   all_goals
    simp only [eB]at e⊢;split at e
    .simp only [b4,bo]at e;obtain⟨v1,aa,rfl,rfl⟩:=e;exact⟨rfl,λ_ _=>by simp only [aa,ev]⟩
    .cases e
theorem ou{nid:Nat}{ρ:Operand->J}{h aa:T}{o:Op}{v:J}(al:cA o=.load)(d:bd E call nid ρ h o=some (v,aa)) :
 aa=h/\∃b,hL ρ o=some b/\∀(j:Nat)(ad:T),ad.get b=h.get b->bd E call j ρ ad o=some (v,ad):=by
 cases o<;>simp only [cA,reduceCtorEq]at al
 .rename_i t x;simp only [bd]at d⊢;split at d
  .rename_i a g;simp only [b4,bo]at d;obtain⟨v1,i,rfl,rfl⟩:=d;refine⟨rfl,a.id,by simp [hL,g],λj ad ag=> ?_⟩;simp only [g,a1,ag]at i⊢;rw [i];rfl
  .cases d
 .rename_i c;cases e:c.callee with
  |value f=>rw [e]at al;simp at al
  |invoke r m=>rw [e]at al;simp at al
  |builtin b=>rw [e]at al;cases b<;>simp at al
theorem B2{nid:Nat}{ρ:Operand->J}{h aa:T}{o:Op}{v:J}(al:cA o=.store)(e:bd E call nid ρ h o=some (v,aa)) :
 ∃s b,kq ρ o=some s/\aa=h.set s b/\True:=by
 cases o<;>simp only [cA,reduceCtorEq]at al
 .rename_i t x y;simp only [bd]at e;split at e
  .rename_i a i;simp only [b4,bo]at e;obtain⟨h2,d,rfl,rfl⟩:=e;unfold eA at d;split at d
   .split at d
    .split at d
     .split at d
      .simp only [a6]at d;exact⟨a.id,_,by simp [kq,i],d.symm,trivial⟩
      .cases d
     .cases d
    .cases d
   .cases d
  .cases e
 .rename_i c;cases g:c.callee with
  |value f=>rw [g]at al;simp at al
  |invoke r m=>rw [g]at al;simp at al
  |builtin b=>rw [g]at al;cases b<;>simp at al
theorem ow{nid:Nat}{ρ:Operand->J}{h aa:T}{o:Op}{v:J}(al:cA o=.alloc)(a:bd E call nid ρ h o=some (v,aa)) :
 ∃b,aa=h.set nid b/\∀(ad:T),bd E call nid ρ ad o=some (v,ad.set nid b):=by
 cases o<;>simp only [cA,reduceCtorEq]at al
 .rename_i t;simp only [bd]at a⊢;split at a
  .rename_i d k;split at a
   .rename_i z i;split at a
    .rename_i g;simp only [bo,a6]at a;obtain⟨rfl,rfl⟩:=a;exact⟨_,rfl,λad=>by simp only [g,dy]⟩
    .cases a
   .cases a
  .cases a
 .rename_i t x;simp only [bd]at a⊢;split at a
  .rename_i d k;split at a
   .rename_i g;simp only [bo,a6]at a;obtain⟨rfl,rfl⟩:=a;exact⟨_,rfl,λad=>by simp only [g,dy]⟩
   .cases a
  .cases a
 .rename_i t n parts;simp only [bd,k1]at a⊢;split at a
  .rename_i d k;split at a
   .rename_i e he;split at a
    .rename_i x p;split at a
     .rename_i z i;split at a
      .rename_i g;split at a
       .rename_i l q;simp only [bo,a6]at a;obtain⟨rfl,rfl⟩:=a;refine⟨_,rfl,λad=> ?_⟩;simp only [he,p,i,g,q,and_self,dy]
       .cases a
      .cases a
     .cases a
    .cases a
   .cases a
  .cases a
 .rename_i t l c;simp only [bd,q7]at a⊢;split at a
  .rename_i d s n u m k q hm;split at a
   .rename_i e he;split at a
    .rename_i x p;split at a
     .rename_i z i;split at a
      .rename_i g;simp only [bo,a6]at a;obtain⟨rfl,rfl⟩:=a;refine⟨_,rfl,λad=> ?_⟩;simp only [he,p,i,g,and_self,dy]
      .cases a
     .cases a
    .cases a
   .cases a
  .cases a
 .rename_i c;cases j:c.callee with
  |value f=>rw [j]at al;simp at al
  |invoke r m=>rw [j]at al;simp at al
  |builtin b=>rw [j]at al;cases b<;>simp at al
theorem pM{ρ ρ':Operand->J}{xs:Array Operand}(h:∀x∈xs.toList,ρ x=ρ' x):xs.toList.map ρ=xs.toList.map ρ':=jF h
theorem xE{ρ ρ':Operand->J}{o:Option Operand}(h:∀x∈o.toList,ρ x=ρ' x):o.map ρ=o.map ρ':=by
 cases o with
 |none=>rfl
 |some x=>simp [h x an]
theorem B3{nid:Nat}{ρ ρ':Operand->J}{h:T}{o:Op}(a:∀x∈o.operands.toList,ρ x=ρ' x):bd E call nid ρ h o=bd E call nid ρ' h o:=by
 cases o
 case call c =>
  simp only [Op.operands,Call.operands,lL,eG]at a;simp only [bd];have e:=pM (xs:=c.args) (λx d=>a x (.inr d));cases i:c.callee with
  |value f =>
   rw [i]at a;simp only [e,a f (.inl an)]
  |invoke r m=>rfl
  |builtin b=>simp only [e]
 case makeFunc fn fs aX =>
  simp only [Op.operands,lL,eG]at a;cases fn<;>simp only [bd];rw [pM (xs:=fs) (λx d=>a x (.inl d)),pM (xs:=aX) (λx d=>a x (.inr d))]
 case slice t x aD ah mx =>
  simp only [Op.operands,lL,eG]at a;simp only [bd];rw [a x an,xE (o:=aD) (λy g=>a y (by simp_all)),xE (o:=ah) (λy g=>a y (by simp_all)),xE (o:=mx) (λy g=>a y (by simp_all))]
 case build t parts =>
  have ae:(parts.toList.map λp=>(p.1,ρ p.2))=parts.toList.map λp=>(p.1,ρ' p.2):=by
   refine jF λp ae=> ?_
   rw [a p.2 (by simp only [Op.operands];exact dz.2 ⟨p,ae,rfl⟩)]
  simp only [bd,ae]
 case buildSlice t n parts =>
  have ae:(parts.toList.map λp=>(p.1,ρ p.2))=parts.toList.map λp=>(p.1,ρ' p.2):=by
   refine jF λp ae=> ?_
   rw [a p.2 (by simp only [Op.operands];exact dz.2 ⟨p,ae,rfl⟩)]
  simp only [bd,ae]
 all_goals first
  |rfl
  |(simp only [bd,Op.operands]at a⊢; simp_all)
def ja(acc:Array Nat)(o:Oper):Nat:=o.after.toList.foldl (λs e=>if gA e then s ||| 2^e.on ||| acc.getD e.on 0 else s) 0
theorem xF:∀(l:List Oper)(acc:Array Nat)(k:Nat),k<acc.size->(l.foldl (λacc o=>acc.push (ja acc o)) acc).getD k 0=acc.getD k 0
 |[],acc,k,h=>rfl
 |o::r,acc,k,h=>by simp only [hB];rw [xF r _ k (by simp;omega)];simp [hZ,qV,Nat.ne_of_lt h]
theorem JI{a b:Array Nat}{o:Oper}(h:∀e∈o.after.toList,gA e=true->a.getD e.on 0=b.getD e.on 0):ja a o=ja b o:=by
 unfold ja
 have key:∀(l:List Edge)(s:Nat),(∀e∈l,gA e=true->a.getD e.on 0=b.getD e.on 0) ->
  l.foldl (λs e=>if gA e then s ||| 2^e.on ||| a.getD e.on 0 else s) s=l.foldl (λs e=>if gA e then s ||| 2^e.on ||| b.getD e.on 0 else s) s:=by
  intro l;induction l with
  |nil=>intro s _;rfl
  |cons e r ih =>
   intro s c;simp only [hB]
   have:(if gA e then s ||| 2^e.on ||| a.getD e.on 0 else s)=(if gA e then s ||| 2^e.on ||| b.getD e.on 0 else s):=by
    cases d:gA e
    .rfl
    .simp only [dy];rw [c e an d]
   rw [this,ih _ (λe he=>c e (by simp [he]))]
 exact key _ 0 h
theorem fold_at:∀(l:List Oper)(acc:Array Nat)(m:Nat)(o:Oper),l[m]? =some o->(∀e∈o.after.toList,gA e=true->e.on<acc.size+m) ->
 (l.foldl (λacc o=>acc.push (ja acc o)) acc).getD (acc.size+m) 0=ja (l.foldl (λacc o=>acc.push (ja acc o)) acc) o
 |[],acc,m,o,h,_=>by simp at h
 |a::r,acc,0,o,h,he=>by
  simp at h;subst h;simp only [hB,lI];rw [xF r _ acc.size an];have:(acc.push (ja acc a)).getD acc.size 0=ja acc a:=by simp [hZ]
  rw [this];refine JI λe hm b=> ?_
  have c:=he e hm b;rw [xF r _ e.on (by simp;omega)];simp [hZ,qV];rw [ap V]
 |a::r,acc,m+1,o,h,he=>by simp at h;simp only [hB];have:=fold_at r (acc.push (ja acc a)) m o h (λe hm b=>by have:=he e hm b;simp;omega);simp only [Array.size_push]at this;rw [show acc.size+(m+1)=acc.size+1+m by omega];exact this
theorem B4{acc:Array Nat}{i:Nat} :∀(l:List Edge)(s:Nat),(l.foldl (λs e=>if gA e then s ||| 2^e.on ||| acc.getD e.on 0 else s) s).testBit i=true ->
 s.testBit i=true\/ ∃e∈l,gA e=true/\(e.on=i\/(acc.getD e.on 0).testBit i=true)
 |[],s,h=> .inl h
 |e ::r,s,h=>by
  simp only [hB]at h;rcases B4 r _ h with aa|⟨e',aa,h2⟩
  .cases a:gA e
   .rw [a]at aa;exact .inl (by simpa using aa)
   .rw [a]at aa;simp only [dy,Nat.testBit_or,fI]at aa;rcases aa with (aa|aa)|aa
    .exact .inl aa
    .right;rw [Nat.testBit_two_pow]at aa;exact⟨e,an,a,.inl (by simpa using aa)⟩
    .exact .inr ⟨e,an,a,.inr aa⟩
  .exact .inr ⟨e',by simp [aa],h2⟩
def jb(ops:Array Oper):Prop:= ∀(j:Nat)(o:Oper),ops[j]? =some o-> ∀e∈o.after.toList,gA e=true->e.on<j
theorem B5{ops:Array Oper}(c:jb ops){i j:Nat}{o:Oper}(a:ops[j]? =some o)(h:ordered (cO ops) i j=true) :
 ∃e∈o.after.toList,gA e=true/\(e.on=i\/ordered (cO ops) i e.on=true):=by
 unfold ordered at h;have:=fold_at ops.toList #[] j o (by simpa using a) (λe he b=>by have:=c j o a e he b;simp;omega);simp only [List.size_toArray,dx,eM]at this;have aI:cO ops=ops.toList.foldl (λacc o=>acc.push (ja acc o)) #[]:=rfl;rw [aI,this]at h;rcases B4 _ _ h with aa|aa
 .simp at aa
 .exact aa
theorem B6{ops:Array Oper}{i j:Nat}(c:ops[j]? =none):ordered (cO ops) i j=false:=by
 have d:∀(l:List Oper)(acc:Array Nat),(l.foldl (λacc o=>acc.push (ja acc o)) acc).size=acc.size+l.length:=by
  intro l;induction l with
  |nil=>intro acc;rfl
  |cons a r ih=>intro acc;simp only [hB,ih,Array.size_push,b'];omega
 have aI:cO ops=ops.toList.foldl (λacc o=>acc.push (ja acc o)) #[]:=rfl;have b:ops.size<=j:=by simpa using c
 unfold ordered;rw [aI,hZ,n' (by rw [d];simpa using b)];simp
theorem JJ{ops:Array Oper}(b:jb ops):∀(j:Nat){i:Nat},ordered (cO ops) i j=true->i<j:=by
 intro j;induction j using Nat.strongRecOn with
 |_ j ih =>
  intro i h;cases a:ops[j]? with
  |none=>rw [B6 a]at h;cases h
  |some o =>
   obtain⟨e,he,c,al⟩:=B5 b a h;have:=b j o a e he c;rcases al with rfl|al
   .exact this
   .have:=ih e.on this al;omega
def B7(ops:Array Oper)(listed:Array Bool):Prop:= ∀(j:Nat)(o:Oper),listed.getD j false=true->ops[j]? =some o-> ∀e∈o.after.toList,gA e=true->listed.getD e.on false=true
theorem JK{ops:Array Oper}(d:jb ops){listed:Array Bool}(al:B7 ops listed):∀(j:Nat)(o:Oper),ops[j]? =some o->(∀e∈o.after.toList,gA e=true->listed.getD e.on false=true) ->
 ∀{i:Nat},ordered (cO ops) i j=true->listed.getD i false=true:=by
 intro j;induction j using Nat.strongRecOn with
 |_ j ih =>
  intro o f ae i h;obtain⟨e,he,c,a⟩:=B5 d f h;have k:=d j o f e he c;have hle:=ae e he c;rcases a with rfl|a
  .exact hle
  .cases b:ops[e.on]? with
   |none=>rw [B6 b]at a;cases a
   |some g=>exact ih e.on k g b (al e.on g hle b) a
def jK(E:a')(call:cJ)(ops:Array Oper)(b j:Nat)(o:Oper)(a:List J)(h:T):Option (J×T) :=
 match gZ ops a o with
 |some true=>dU E call ops b j (cp a) h o.op
 |some false=>some (eN,h)
 |none=>none
theorem ue{ops:Array Oper}{a j:Nat}{o:Oper}(c:ops[j]? =some o)(s:dM) :
 iY E call ops a j s=(jK E call ops a j o s.dA s.heap).map λp=>⟨fJ s.dA o.dst p.1,p.2⟩:=by
 unfold iY jK;rw [c];simp only;cases gZ ops s.dA o with
 |none=>rfl
 |some b =>
  cases b with
  |false=>rfl
  |true =>
   simp only;cases dU E call ops a j (cp s.dA) s.heap o.op with
   |none=>rfl
   |some p=>rfl
theorem rq{ops:Array Oper}{b j:Nat}{ρ:Operand->J}{h:T}{o:Op}{v:J}{ad:T}(a:dU E call ops b j ρ h o=some (v,ad)) :
 bd E call (b+j) ρ h o=some (v,ad)\/(cA o=.pure/\fL o=true/\(im ops j=true\/gl ops b j ρ o=true)/\bd E call (b+j) ρ h o=none):=by
 unfold dU at a;split at a
 .split at a
  .split at a
   .exact .inl a
   .cases a
  .cases a
 .split at a
  .split at a
   .cases a
   .exact .inl a
  .cases a
 .split at a
  .rename_i v1 aa he;split at a
   .split at a
    .rw [he];exact .inl a
    .cases a
   .rw [he];exact .inl a
  .cases a
 .split at a
  .exact .inl a
  .cases a
 .rename_i al;split at a
  .rename_i r he;rw [he];exact .inl a
  .rename_i he;split at a
   .rename_i c;exact .inr ⟨al,c.1,c.2,he⟩
   .cases a
 .exact .inl a
theorem uf{ops:Array Oper}{c j:Nat}{ρ:Operand->J}{h:T}{o:Op}{v:J}{ad:T}(a:dU E call ops c j ρ h o=some (v,ad)):gY E call (c+j) ρ h o=some (v,ad):=by
 rcases rq a with aa|⟨aa,h2,d,b⟩
 .unfold gY;rw [aa]
 .unfold dU at a;rw [aa]at a;simp only [b]at a;rw [aE ⟨h2,d⟩]at a;unfold gY;rw [b];exact a
theorem xG{ops:Array Oper}{i j:Nat}(hs:im ops j=true)(ah:i<ops.size)(a:i≠j)(aa:ordered (cO ops) i j=false)(h2:ordered (cO ops) j i=false){o:Oper}(b:ops[i]? =some o):cA o.op=.pure/\fL o.op=false:=by
 unfold im at hs;have:=dV.1 hs i (dX.2 ah);simp only [aa,h2,b,Bool.or_false]at this;simp only [fI,kh,cS,gx,hi]at this;rcases this with h|h
 .exact absurd h a
 .exact h
theorem xH{es:Nat}{x:J}{h ad:T}(b:∀k∈fK x,ad.get k=h.get k):dF es x ad=dF es x h:=by
 unfold dF;split
 .rfl
 .rename_i a len c;have e:ad.get a.id=h.get a.id:=b a.id (by simp [fK]);rw [e]
 .rfl
 .rfl
theorem pN{D:cN}{t:TypeId}{s x:J}{nid:Nat}{h aa:T}{v:J}(c:gz D t s x nid h=some (v,aa)) :
 (aa=h/\∀ad,(∀k∈fK s++fK x,ad.get k=h.get k)->gz D t s x nid ad=some (v,ad)) \/
 ∃id b,(id=nid\/id∈fK s++fK x)/\aa=h.set id b/\∀ad,(∀k∈fK s++fK x,ad.get k=h.get k)->gz D t s x nid ad=some (v,ad.set id b):=by
 have i:∀{ad},(∀k∈fK s++fK x,ad.get k=h.get k)->(∀es,dF es s ad=dF es s h)/\(∀es,dF es x ad=dF es x h):=λ{ad} f =>
  ⟨λes=>xH λk g=>f k (List.mem_append_left _ g),λes=>xH λk g=>f k (List.mem_append_right _ g)⟩
 unfold gz at c;split at c
 .rename_i d base len cap j;split at c
  .rename_i e g;split at c
   .rename_i b9 m;split at c
    .rename_i new l;simp only at c;split at c
     .rename_i al;split at c
      .split at c
       .rename_i aN;simp only [a6,bo]at c;obtain⟨rfl,rfl⟩:=c;refine .inl ⟨rfl,λad f=> ?_⟩;have:=(i f).2 b9.size;unfold gz;simp only [j,g,m,this,l];rw [aE al,aE aN]
       .rename_i aN;split at c
        .rename_i h2;simp only [a6,bo]at c;obtain⟨rfl,rfl⟩:=c;refine .inr ⟨nid,_,.inl rfl,rfl,λad f=> ?_⟩;have:=(i f).2 b9.size;unfold gz;simp only [j,g,m,this,l];rw [aE al,ap aN,aE h2]
        .cases c
      .rename_i a;split at c
       .rename_i o;split at c
        .rename_i b q;have ag:∀{ad:T},(∀k∈fK (.slice (some a) len cap)++fK x,ad.get k=h.get k)->ad.get a.id=some b:=λ{ad} f=>by rw [f a.id (by simp [fK]),q]
         split at c
         .rename_i n;split at c
          .rename_i aN;simp only [a6,bo]at c;obtain⟨rfl,rfl⟩:=c;refine .inl ⟨rfl,λad f=> ?_⟩;have:=(i f).2 b9.size;unfold gz;simp only [j,g,m,this,l,ag f];rw [aE al,aE o,aE n,aE aN]
          .rename_i aN;split at c
           .rename_i p;simp only [a6,bo]at c;obtain⟨rfl,rfl⟩:=c;refine .inr ⟨a.id,_,.inr (by simp [fK]),rfl,λad f=> ?_⟩;have:=(i f).2 b9.size;unfold gz;simp only [j,g,m,this,l,ag f];rw [aE al,aE o,aE n,ap aN,aE p]
           .cases c
         .rename_i n;split at c
          .rename_i hex;split at c
           .rename_i old ax;simp only [a6,bo]at c;obtain⟨rfl,rfl⟩:=c;refine .inr ⟨nid,_,.inl rfl,rfl,λad f=> ?_⟩;have aI:=(i f).2 b9.size;have aO:=(i f).1 b9.size;unfold gz;simp only [j,g,m,aI,l,ag f];rw [aE al,aE o,ap n,aE hex];simp only [aO,ax]
           .cases c
          .rename_i hex;split at c
           .rename_i p;simp only [a6,bo]at c;obtain⟨rfl,rfl⟩:=c;refine .inr ⟨a.id,_,.inr (by simp [fK]),rfl,λad f=> ?_⟩;have:=(i f).2 b9.size;unfold gz;simp only [j,g,m,this,l,ag f];rw [aE al,aE o,ap n,ap hex,aE p]
           .cases c
        .cases c
       .cases c
     .cases c
    .cases c
   .cases c
  .cases c
 .cases c
theorem B8{nid:Nat}{ρ:Operand->J}{h aa:T}{o:Op}{v:J}(al:cA o=.fu)(a:bd E call nid ρ h o=some (v,aa)) :
 (aa=h/\∀ad,(∀k∈fX ρ o,ad.get k=h.get k)->bd E call nid ρ ad o=some (v,ad)) \/
 ∃id b,(id=nid\/id∈fX ρ o)/\aa=h.set id b/\∀ad,(∀k∈fX ρ o,ad.get k=h.get k)->bd E call nid ρ ad o=some (v,ad.set id b):=by
 cases o<;>simp only [cA,reduceCtorEq]at al;rename_i c;obtain⟨callee,args,ts⟩:=c;cases callee<;>simp only [reduceCtorEq]at al;rename_i b;cases b<;>simp only [reduceCtorEq]at al;simp only [bd,eB]at a⊢;split at a
 .rename_i s x t u d g hu;have f:fX ρ (.call ⟨.builtin .append,args,ts⟩)=fK s++fK x:=by simp [fX,d]
  rw [f];split at a
  .rename_i j i;split at a
   .rename_i e he;first|exact pN a|(rw [he];exact pN a)|(have:=pN a;simpa [he]using this)
   .rename_i he;first|exact pN a|(rw [he];exact pN a)|(have:=pN a;simpa [he]using this)
   .cases a
  .cases a
 .cases a
theorem JL{a:List J}{d:Tmp}{v:J}{x:Operand}(h:∀t,x=.tmp t->t≠d):cp (a.set d v) x=cp a x:=by
 cases x with
 |tmp t =>
  have:d≠t:=λe=>h t rfl e.symm
  simp [cp,gf,ph this]
 |const v=>rfl
 |global g=>rfl
 |func f=>rfl
theorem JM{xs:List Operand}{t:Tmp}(h:Operand.tmp t∈xs):t∈tmpsOf xs:=by unfold tmpsOf;exact List.mem_filterMap.2 ⟨_,h,rfl⟩
theorem JN{ops:Array Oper}{l j:Nat}{o:Oper}{f:List J}{d:Tmp}{v:J}{h:T}(n:d ∉ oi ops o) :
 jK E call ops l j o (f.set d v) h=jK E call ops l j o f h:=by
 unfold oi at n;simp only [eG,eR]at n;obtain⟨s,p⟩:=n
 have i:∀x∈o.op.operands.toList,cp (f.set d v) x=cp f x:=λx q=>JL λt D e=>by subst D e;exact s (JM q)
 have hw:gZ ops (f.set d v) o=gZ ops f o:=by
  unfold gZ;split
  .rfl
  .rename_i g want ag;rw [ag]at p;split
   .rename_i G u;simp only [u,Option.toList_some,cC]at p;rw [ph (λe=>p e)]
   .rfl
 unfold jK;rw [hw];have A:∀nid,bd E call nid (cp (f.set d v)) h o.op=bd E call nid (cp f) h o.op:=λnid=>B3 i
 have z:hL (cp (f.set d v)) o.op=hL (cp f) o.op:=by cases k:o.op<;>simp only [hL];rename_i t x;rw [k]at i;rw [i x (by simp [Op.operands])]
 have C:kq (cp (f.set d v)) o.op=kq (cp f) o.op:=by cases k:o.op<;>simp only [kq];rename_i t x y;rw [k]at i;rw [i x (by simp [Op.operands])]
 have w:dU E call ops l j (cp (f.set d v)) h o.op=dU E call ops l j (cp f) h o.op:=by
  have r:fX (cp (f.set d v)) o.op=fX (cp f) o.op:=by cases k:o.op<;>simp only [fX];rename_i c;rw [k]at i;rw [pM (ρ:=cp (f.set d v)) (ρ':=cp f) λx q=>i x (by simp only [Op.operands,Call.operands];cases c.callee<;>simp [q])]
  have F:fL o.op=true->er E (l+j) (cp (f.set d v)) h o.op=er E (l+j) (cp f) h o.op:=by intro m;cases k:o.op<;>rw [k]at m<;>simp only [fL,reduceCtorEq]at m;simp only [er];rename_i a b x;rw [k]at i;rw [i x (by simp [Op.operands])]
  have B:gl ops l j (cp (f.set d v)) o.op=gl ops l j (cp f) o.op:=by
   have:kr (cp (f.set d v)) o.op=kr (cp f) o.op:=by cases k:o.op<;>simp only [kr];rename_i a b x;rw [k]at i;rw [i x (by simp [Op.operands])]
   unfold gl;rw [this]
  unfold dU;rw [A,z,C,r,B];by_cases m:fL o.op=true
  .rw [F m]
  .simp only [m,ew,false_and,ey]
 rw [w]
theorem B9{ops:Array Oper}{a j:Nat}{o x:Oper}{b:List J}{v:J}{h:T}(c:∀d,x.dst=some d->d ∉ oi ops o) :
 jK E call ops a j o (fJ b x.dst v) h=jK E call ops a j o b h:=by
 cases e:x.dst with
 |none=>rfl
 |some d=>exact JN (c d e)
theorem JO{a:List J}{x y:Oper}{v u:J}(h:∀d,x.dst=some d->y.dst≠some d):fJ (fJ a x.dst v) y.dst u=fJ (fJ a y.dst u) x.dst v:=by
 cases c:x.dst with
 |none=>rfl
 |some d =>
  cases f:y.dst with
  |none=>rfl
  |some e =>
   have b:d≠e:=λhe=>h d c (by rw [f,he])
   simp only [fJ];exact List.set_comm _ _ b
theorem set_comm{a b:Nat}(c:a≠b)(h:T)(x y:ac):(h.set a x).set b y=(h.set b y).set a x:=by unfold T.set;simp only [aF.set_comm x y h.ay a b c]
def rr(call:cJ):Prop:= ∀f args h v ad,call f args h=some (v,ad)->ad=h/\∀h2,call f args h2=some (v,h2)
def xI:q9->q9->Bool
 |.call,.alloc|.alloc,.call=>true
 |_,_=>false
theorem B'{nid:Nat}{ρ:Operand->J}{h aa:T}{o:Op}{v:J}(d:rr call)(al:cA o=.call)(a:bd E call nid ρ h o=some (v,aa)):aa=h/\∀h2,bd E call nid ρ h2 o=some (v,h2):=by
 cases o<;>simp only [cA,reduceCtorEq]at al;rename_i c;obtain⟨callee,args,ts⟩:=c;cases callee with
 |value f =>
  simp only [bd,kp]at a⊢;split at a
  .exact d _ _ _ _ _ a
  .cases a
 |builtin b=>cases b<;>simp only [reduceCtorEq]at al
 |_=>simp only [reduceCtorEq]at al
structure mY(call:cJ)(ops:Array Oper)(x i:Nat):Prop where
 lt:x<i
 ah:i<ops.size
 no:ordered (cO ops) x i=false
 pair:∀e5 cy,ops[x]? =some e5->ops[i]? =some cy->(xl (cA e5.op) (cA cy.op)=true\/rr call/\xI (cA e5.op) (cA cy.op)=true)/\q' ops e5 cy=true
theorem apart_spec{ops:Array Oper}{x y:Oper}(h:q' ops x y=true):(∀d,x.dst=some d->d ∉ oi ops y)/\(∀d,y.dst=some d->d ∉ oi ops x)/\(∀d,x.dst=some d->y.dst≠some d):=by
 unfold q' at h;simp only [cS]at h;obtain⟨aa,h2⟩:=h;refine⟨λd a=> ?_,λd a=> ?_,λd a=> ?_⟩
 .rw [a]at aa;simp at aa;exact aa.1
 .rw [a]at h2;simp at h2;exact h2
 .rw [a]at aa;simp at aa;exact aa.2
theorem rs{ops:Array Oper}{x i:Nat}{cy:Oper}(h:mT ops x=true)(a:ops[i]? =some cy)(ah:i<ops.size)(ne:i≠x)(b:ordered (cO ops) x i=false)(c:ordered (cO ops) i x=false)(cs:cA cy.op≠ .pure)(c2:cA cy.op≠ .load):False:=by
 have:=dV.1 h i (dX.2 ah);simp only [b,c,a,Bool.or_false,fI,kh,gx]at this;rcases this with h|h|h
 .exact ne h
 .exact cs h
 .exact c2 h
theorem Ca{ops:Array Oper}{a x i:Nat}{e5 cy:Oper}(m:ops[x]? =some e5)(f:ops[i]? =some cy)(l:cA e5.op=.load)(c:cA cy.op=.store)(j:ordered (cO ops) x i=false)(k:ordered (cO ops) i x=false)(r:x<ops.size)(ah:i<ops.size)
 {ρ:Operand->J} {h h2:T} {t:J} {b mZ:Nat} (p:∃b,hL ρ e5.op=some b/\(mT ops x=true\/b<a\/(b<a+ops.size/\ordered (cO ops) (b-a) x=true/\lR ops (cO ops) x=false))) (n:hL ρ e5.op=some b)
 (d:dU E call ops a i ρ h cy.op=some (t,h2)) (hs:kq ρ cy.op=some mZ):b<a/\a<=mZ:=by
 have s:lR ops (cO ops) x=true:=by unfold lR;rw [tu];refine⟨i,dX.2 ah,?_⟩;rw [f];simp [c,j,k]
 have l2:iX ops (cO ops) i=true:=by unfold iX;rw [tu];refine⟨x,dX.2 r,?_⟩;rw [m];simp [l,j,k]
 refine⟨?_,?_⟩
 .obtain⟨u,g,al⟩:=p;rw [n]at g;simp only [a6]at g;subst g;rcases al with al|al|⟨_,_,al⟩
  .exact(rs al f ah (λe=>by subst e;rw [m]at f;cases f;rw [l]at c;cases c) j k (by rw [c];decide) (by rw [c];decide)).elim
  .exact al
  .rw [s]at al;cases al
 .unfold dU at d;rw [c]at d;simp only [hs]at d;split at d
  .cases d
  .rename_i al;rcases gg mZ a with q|o
   .exact absurd ⟨l2,q⟩ al
   .exact o
theorem xJ{ops:Array Oper}{a j:Nat}{ρ:Operand->J}{o:Op}(h:gl ops a j ρ o=true):∃x,kr ρ o=some x/\(∀b∈fK x,∀k,ordered (cO ops) k j=false->b≠a+k) /\
 ∀i y,i<ops.size->i≠j->ordered (cO ops) i j=false->ordered (cO ops) j i=false->ops[i]? =some y->cA y.op=.pure\/cA y.op=.load\/cA y.op=.alloc:=by
 unfold gl at h;split at h
 .rename_i x g;simp only [cS]at h;refine⟨x,g,λb c k d e=> ?_,λi y ah f aa h2 l=> ?_⟩
  .have:=dV.1 h.1 b c;simp only [fI,cS,gx]at this;subst e;rcases this with h|⟨_,h⟩
   .omega
   .rw [show a+k-a=k by omega,d]at h;cases h
  .have:=dV.1 h.2 i (dX.2 ah);simp only [aa,h2,l,Bool.or_false,fI,kh,gx]at this;rcases this with h|(h|h)|h
   .exact absurd h f
   .exact .inl h
   .exact .inr (.inl h)
   .exact .inr (.inr h)
 .cases h
theorem xK{nid:Nat}{ρ:Operand->J}{h aa:T}{o:Op}{v x:J}(g:kr ρ o=some x)(f:er E nid ρ h o=some (v,aa)) :
 aa=h/\∀(m:Nat)(ad:T),(∀k∈fK x,ad.get k=h.get k)->er E m ρ ad o=some (v,ad):=by
 cases o<;>simp only [kr,reduceCtorEq]at g;rename_i s d y;split at g
 .rename_i a n c B;simp only [a6]at g;subst g;simp only [er,B,oh]at f⊢;cases hs:E.D s with
  |none=>rw [hs]at f;simp at f
  |some F =>
   cases q:E.D d with
   |none=>rw [hs,q]at f;simp at f
   |some t =>
    simp only [hs,q]at f⊢;cases w:F.kind<;>cases z:t.kind<;>simp only [w,z,reduceCtorEq]at f⊢
    ·
      rename_i e;cases he:E.D e with
      |none=>rw [he]at f;simp at f
      |some p =>
       simp only [he]at f⊢;cases i:p.kind<;>simp only [i,reduceCtorEq]at f⊢;rename_i C;cases C<;>simp only [reduceCtorEq]at f⊢;split at f
       .rename_i l A;simp only [b4,bo]at f;obtain⟨u,hu,rfl,rfl⟩:=f;refine⟨rfl,λm ad j=> ?_⟩;rw [xH j,A];simp only [hu,ev]
       .cases f
    ·
      rename_i e aO;cases he:E.D e with
      |none=>rw [he]at f;simp at f
      |some p =>
       cases a with
       |none=>rw [he]at f;simp at f
       |some r =>
        simp only [he]at f⊢;split at f
        .rename_i b i ag;split at f
         .rename_i al;simp only [a6,bo]at f;obtain⟨rfl,rfl⟩:=f;refine⟨rfl,λm ad j=> ?_⟩;rw [j r.id (by simp [fK]),i,ag];simp only;rw [aE al]
         .cases f
        .cases f
 .cases g
theorem JP{nid:Nat}{ρ:Operand->J}{h:T}{o:Op}(al:fL o=true)(a:bd E call nid ρ h o=none)(b:Nat)(ad:T):bd E call b ρ ad o=none:=by cases o<;>simp only [fL,reduceCtorEq]at al;simp only [bd,Option.map_eq_none_iff]at a⊢;exact a
theorem JQ{ops:Array Oper}(d8:jb ops){g x i:Nat}(m:mY call ops x i){e5 cy:Oper}(D:ops[x]? =some e5)(G:ops[i]? =some cy){p:List J}{h H h2:T}{av am:J}
 (aa:jK E call ops g x e5 p h=some (av,H)) (ah:jK E call ops g i cy p H=some (am,h2)) :
 ∃dg,jK E call ops g i cy p h=some (am,dg)/\jK E call ops g x e5 p dg=some (av,h2):=by
 obtain⟨f,fd⟩:=m.pair e5 cy D G
 have s:ordered (cO ops) i x=false:=by
  cases w:ordered (cO ops) i x with
  |false=>rfl
  |true=>have:=JJ d8 x w;have:=m.lt;omega
 unfold jK at aa ah⊢;cases d2:gZ ops p e5 with
 |none=>rw [d2]at aa;cases aa
 |some d5 =>
  cases d1:gZ ops p cy with
  |none=>rw [d1]at ah;cases ah
  |some d3 =>
   rw [d2]at aa;rw [d1]at ah;cases d5 with
   |false =>
    simp only [a6,bo]at aa;obtain⟨rfl,rfl⟩:=aa;exact⟨h2,ah,rfl⟩
   |true =>
    cases d3 with
    |false =>
     simp only [a6,bo]at ah;obtain⟨rfl,rfl⟩:=ah;exact⟨h,rfl,aa⟩
    |true =>
     simp only at aa ah⊢;have b2:x<ops.size:=by have:=m.lt;have:=m.ah;omega
     have F:∀{j:Nat}{o:Oper}{h:T}{r:J×T},cA o.op=.pure->bd E call (g+j) (cp p) h o.op=some r->dU E call ops g j (cp p) h o.op=some r:=by intro j o h r al I;unfold dU;rw [al];simp only [I]
     have c3:∀{j:Nat}{o:Oper}{h aN:T}{r:J×T},cA o.op=.pure->fL o.op=true->(im ops j=true\/gl ops g j (cp p) o.op=true)->bd E call (g+j) (cp p) aN o.op=none->er E (g+j) (cp p) h o.op=some r->dU E call ops g j (cp p) h o.op=some r:=by intro j o h aN r al ah hs I H;unfold dU;rw [al];simp only [JP ah I (g+j) h];rw [aE ⟨ah,hs⟩];exact H
     rcases rq aa with A|⟨d6,a3,O,c9⟩
     rotate_left
     ·
       have e0:er E (g+x) (cp p) h e5.op=some (av,H):=by have:=uf aa;unfold gY at this;rw [c9]at this;exact this
       rcases O with O|O
       .obtain⟨U,Z⟩:=xG O m.ah (by have:=m.lt;omega) s m.no G;rcases rq ah with q|⟨_,cn,_,_⟩
        .obtain⟨rfl,n⟩:=kt U q;refine⟨h,F U (n _ _),aa⟩
        .rw [Z]at cn;cases cn
       .obtain⟨y,ce,a4,bn⟩:=xJ O;obtain⟨rfl,n⟩:=xK ce e0;have d7:=bn i cy m.ah (by have:=m.lt;omega) s m.no G;have back:∀h2:T,(∀k∈fK y,h2.get k=H.get k)->dU E call ops g x (cp p) h2 e5.op=some (av,h2):=λh2 ag=>c3 d6 a3 (.inr O) c9 (n _ h2 ag)
        rcases rq ah with q|⟨c4,c5,B,X⟩
        .rcases d7 with c|c|c
         .obtain⟨rfl,_⟩:=kt c q;exact⟨_,ah,back _ λ_ _=>rfl⟩
         .obtain⟨rfl,_⟩:=ou c q;exact⟨_,ah,back _ λ_ _=>rfl⟩
         .obtain⟨b,rfl,_⟩:=ow c q;exact⟨_,ah,back _ λk u=>T.eO _ _ λe=>a4 k u i s e.symm⟩
        .have co:er E (g+i) (cp p) H cy.op=some (am,h2):=by have:=uf ah;unfold gY at this;rw [X]at this;exact this
         rcases B with B|B
         .obtain⟨_,Z⟩:=xG B b2 (by have:=m.lt;omega) m.no s D;rw [Z]at a3;cases a3
         .obtain⟨z,eq,_,_⟩:=xJ B;obtain⟨rfl,_⟩:=xK eq co;exact⟨_,ah,back _ λ_ _=>rfl⟩
     rcases rq ah with q|⟨c4,c5,B,X⟩
     rotate_left
     .rcases B with B|B
      .obtain⟨U,Z⟩:=xG B b2 (by have:=m.lt;omega) m.no s D;obtain⟨rfl,ae⟩:=kt U A;exact⟨h2,ah,F U (ae _ _)⟩
      .have co:er E (g+i) (cp p) H cy.op=some (am,h2):=by have:=uf ah;unfold gY at this;rw [X]at this;exact this
       obtain⟨y,ce,a4,bn⟩:=xJ B;obtain⟨rfl,n⟩:=xK ce co;rcases bn x e5 b2 (by have:=m.lt;omega) m.no s D with c|c|c
       .obtain⟨rfl,_⟩:=kt c A;exact⟨_,ah,aa⟩
       .obtain⟨rfl,_⟩:=ou c A;exact⟨_,ah,aa⟩
       .obtain⟨b,rfl,_⟩:=ow c A;exact⟨h,c3 c4 c5 (.inr B) X (n _ h λk u=>(T.eO _ _ λe=>a4 k u x m.no e.symm).symm),aa⟩
     have R:cA e5.op=.load-> ∃b,hL (cp p) e5.op=some b/\(mT ops x=true\/b<g\/(b<g+ops.size/\ordered (cO ops) (b-g) x=true/\lR ops (cO ops) x=false)):=by
      intro al;unfold dU at aa;rw [al]at aa;simp only at aa;split at aa
      .rename_i b w;split at aa
       .rename_i l;exact⟨b,w,l⟩
       .cases aa
      .cases aa
     have Q:cA cy.op=.load-> ∃b,hL (cp p) cy.op=some b/\(mT ops i=true\/b<g\/(b<g+ops.size/\ordered (cO ops) (b-g) i=true/\lR ops (cO ops) i=false)):=by
      intro al;unfold dU at ah;rw [al]at ah;simp only at ah;split at ah
      .rename_i b w;split at ah
       .rename_i l;exact⟨b,w,l⟩
       .cases ah
      .cases ah
     have N:∀{j:Nat}{o:Oper}{h ad:T}{v:J},cA o.op=.load->(∃b,hL (cp p) o.op=some b/\(mT ops j=true\/b<g\/(b<g+ops.size/\ordered (cO ops) (b-g) j=true/\lR ops (cO ops) j=false))) ->
      bd E call (g+j) (cp p) h o.op=some (v,ad)->dU E call ops g j (cp p) h o.op=some (v,ad):=by
      intro j o h ad v al ⟨b,w,l⟩ I;unfold dU;rw [al];simp only [w];rw [aE l];exact I
     have W:∀{j:Nat}{o:Oper}{h:T},cA o.op=.alloc->dU E call ops g j (cp p) h o.op=bd E call (g+j) (cp p) h o.op:=by intro j o h al;unfold dU;rw [al]
     have ex:cA e5.op=.fu->lS ops g x (fX (cp p) e5.op)=true:=by
      intro al;unfold dU at aa;rw [al]at aa;simp only at aa;split at aa
      .assumption
      .cases aa
     have es:cA cy.op=.fu->lS ops g i (fX (cp p) cy.op)=true:=by
      intro al;unfold dU at ah;rw [al]at ah;simp only at ah;split at ah
      .assumption
      .cases ah
     have a2:∀{j:Nat}{o:Oper}{h:T},cA o.op=.fu->lS ops g j (fX (cp p) o.op)=true->dU E call ops g j (cp p) h o.op=bd E call (g+j) (cp p) h o.op:=by intro j o h al u;unfold dU;rw [al];simp only;rw [aE u]
     have c0:∀{j k b:Nat}{ids:List Nat},k<ops.size->lS ops g j ids=true->b∈ids->ordered (cO ops) k j=false->b≠g+k:=by
      intro j k b ids fn u w el e;subst e;have:=dV.1 u _ w;simp only [fI,cS,gx]at this;rcases this with (h|⟨_,h⟩)|h
      .omega
      .rw [show g+k-g=k by omega,el]at h;cases h
      .omega
     rcases f with f|⟨dp,d0⟩
     rotate_left
     .have c2:∀{j:Nat}{o:Oper}{h:T}{v:J},cA o.op=.call->bd E call (g+j) (cp p) h o.op=some (v,h)->dU E call ops g j (cp p) h o.op=some (v,h):=by
       intro j o h v al I;unfold dU;rw [al];simp only [I];have em:mS (g+ops.size) h h=true:=ud λ_ _=>rfl
       cases iX ops (cO ops) j<;>simp [em]
      cases d:cA e5.op<;>cases a:cA cy.op<;>rw [d,a]at d0<;>simp only [xI,ew]at d0
      .obtain⟨bH,rfl,ae⟩:=ow d A;obtain⟨rfl,n⟩:=B' dp a q;exact⟨h,c2 a (n _),aa⟩
      .obtain⟨rfl,n⟩:=B' dp d A;exact⟨h2,ah,c2 d (n _)⟩
     cases d:cA e5.op with
     |pure =>
      obtain⟨rfl,ae⟩:=kt d A;exact⟨h2,ah,F d (ae _ _)⟩
     |load =>
      obtain⟨rfl,b,w,ae⟩:=ou d A;cases a:cA cy.op with
      |pure =>
       obtain⟨rfl,n⟩:=kt a q;exact⟨_,ah,aa⟩
      |load =>
       obtain⟨rfl,M,P,n⟩:=ou a q;exact⟨_,ah,aa⟩
      |alloc =>
       obtain⟨bH,rfl,n⟩:=ow a q;refine⟨_,ah,N d (R d) (ae _ _ ?_)⟩;refine T.eO _ _ ?_;rintro rfl;obtain⟨a0,t,l⟩:=R d;rw [w]at t;simp at t;subst t;rcases l with l|l|⟨_,l,_⟩
       .exact(rs l G m.ah (by have:=m.lt;omega) m.no s (by rw [a];decide) (by rw [a];decide)).elim
       .omega
       .rw [show g+i-g=i by omega,s]at l;cases l
      |call =>
       refine⟨_,ah,N d (R d) (ae _ _ ?_)⟩;unfold dU at ah;rw [a]at ah;simp only [q]at ah
       have a5:iX ops (cO ops) i=true:=by unfold iX;rw [tu];refine⟨x,dX.2 (by have:=m.lt;have:=m.ah;omega),?_⟩;rw [D];simp [d,m.no,s]
       rw [aE a5]at ah;split at ah
       .rename_i hs;obtain⟨a0,t,l⟩:=R d;rw [w]at t;simp at t;subst t;rcases l with l|l
        .exact(rs l G m.ah (by have:=m.lt;omega) m.no s (by rw [a];decide) (by rw [a];decide)).elim
        exact B1 hs (by rcases l with l|⟨l,_,_⟩<;>omega)
       .cases ah
      |store =>
       obtain⟨mZ,bH,bv,rfl,n⟩:=B2 a q;refine⟨_,ah,N d (R d) (ae _ _ ?_)⟩;refine T.eO _ _ ?_;rintro rfl;have d9:=Ca D G d a m.no s (by have:=m.lt;have:=m.ah;omega) m.ah (R d) w ah bv;omega
      |fu=>rw [d,a]at f;cases f
      |other=>rw [d,a]at f;cases f
     |store =>
      obtain⟨mZ,bH,bv,rfl,n⟩:=B2 d A;cases a:cA cy.op with
      |pure =>
       obtain⟨rfl,n⟩:=kt a q;exact⟨h,F a (n _ _),aa⟩
      |load =>
       obtain⟨rfl,M,P,n⟩:=ou a q;refine⟨h,N a (Q a) (n _ _ ?_),aa⟩;refine(T.eO _ _ ?_).symm;rintro rfl;have d9:=Ca G D a d s m.no m.ah (by have:=m.lt;have:=m.ah;omega) (Q a) P aa bv;omega
      |alloc=>rw [d,a]at f;cases f
      |store=>rw [d,a]at f;cases f
      |call=>rw [d,a]at f;cases f
      |fu=>rw [d,a]at f;cases f
      |other=>rw [d,a]at f;cases f
     |alloc =>
      obtain⟨bH,rfl,ae⟩:=ow d A;cases a:cA cy.op with
      |pure =>
       obtain⟨rfl,n⟩:=kt a q;exact⟨h,F a (n _ _),aa⟩
      |load =>
       obtain⟨rfl,M,P,n⟩:=ou a q;refine⟨h,N a (Q a) (n _ _ ?_),aa⟩;refine(T.eO _ _ ?_).symm;rintro rfl;obtain⟨a0,t,l⟩:=Q a;rw [P]at t;simp at t;subst t;rcases l with l|l|⟨_,l,_⟩
       .exact(rs l D (by have:=m.lt;have:=m.ah;omega) (by have:=m.lt;omega) s m.no (by rw [d];decide) (by rw [d];decide)).elim
       .omega
       .rw [show g+x-g=x by omega,m.no]at l;cases l
      |alloc =>
       obtain⟨d4,rfl,n⟩:=ow a q;refine⟨h.set (g+i) d4,by rw [W a];exact n _,?_⟩;rw [W d,ae,set_comm (by have:=m.lt;omega)]
      |store=>rw [d,a]at f;cases f
      |call=>rw [d,a]at f;cases f
      |fu =>
       have u:=es a;have S:∀k∈fX (cp p) cy.op,k≠g+x:=λk K=>c0 (by have:=m.lt;have:=m.ah;omega) u K m.no
       have agree:∀k∈fX (cp p) cy.op,h.get k=(h.set (g+x) bH).get k:=λk K=>(T.eO _ _ (λe=>S k K e.symm)).symm
       rcases B8 a q with ⟨C,L⟩|⟨id,M,C,L,ct⟩
       .subst C;exact⟨h,by rw [a2 a u];exact L h agree,aa⟩
       .subst L;refine⟨h.set id M,by rw [a2 a u];exact ct h agree,?_⟩
        have a9:g+x≠id:=by
         rcases C with rfl|C
         .have:=m.lt;omega
         .exact λe=>S id C e.symm
        rw [W d,ae,set_comm a9]
      |other=>rw [d,a]at f;cases f
     |call =>
      cases a:cA cy.op with
      |pure =>
       obtain⟨rfl,n⟩:=kt a q;exact⟨h,F a (n _ _),aa⟩
      |load =>
       obtain⟨rfl,M,P,n⟩:=ou a q;refine⟨h,N a (Q a) (n _ _ ?_),aa⟩;unfold dU at aa;rw [d]at aa;simp only [A]at aa
       have a5:iX ops (cO ops) x=true:=by unfold iX;rw [tu];refine⟨i,dX.2 m.ah,?_⟩;rw [G];simp [a,m.no,s]
       rw [aE a5]at aa;split at aa
       .rename_i hs;obtain⟨a0,t,l⟩:=Q a;rw [P]at t;simp at t;subst t;rcases l with l|l
        .exact(rs l D (by have:=m.lt;have:=m.ah;omega) (by have:=m.lt;omega) s m.no (by rw [d];decide) (by rw [d];decide)).elim
        exact(B1 hs (by rcases l with l|⟨l,_,_⟩<;>omega)).symm
       .cases aa
      |alloc=>rw [d,a]at f;cases f
      |store=>rw [d,a]at f;cases f
      |call=>rw [d,a]at f;cases f
      |fu=>rw [d,a]at f;cases f
      |other=>rw [d,a]at f;cases f
     |fu =>
      cases a:cA cy.op with
      |pure =>
       obtain⟨rfl,n⟩:=kt a q;exact⟨h,F a (n _ _),aa⟩
      |alloc =>
       obtain⟨bH,rfl,n⟩:=ow a q;have u:=ex d;have S:∀k∈fX (cp p) e5.op,k≠g+i:=λk K=>c0 m.ah u K s
       have agree:∀k∈fX (cp p) e5.op,(h.set (g+i) bH).get k=h.get k:=λk K=>T.eO _ _ (λe=>S k K e.symm)
       refine⟨h.set (g+i) bH,by rw [W a];exact n _,?_⟩;rw [a2 d u];rcases B8 d A with ⟨C,L⟩|⟨id,M,C,L,ct⟩
       .subst C;exact L _ agree
       .subst L
        have a9:g+i≠id:=by
         rcases C with rfl|C
         .have:=m.lt;omega
         .exact λe=>S id C e.symm
        rw [ct _ agree,set_comm a9]
      |load=>rw [d,a]at f;cases f
      |store=>rw [d,a]at f;cases f
      |call=>rw [d,a]at f;cases f
      |fu=>rw [d,a]at f;cases f
      |other=>rw [d,a]at f;cases f
     |other =>
      cases a:cA cy.op with
      |pure =>
       obtain⟨rfl,n⟩:=kt a q;exact⟨h,F a (n _ _),aa⟩
      |load=>rw [d,a]at f;cases f
      |alloc=>rw [d,a]at f;cases f
      |store=>rw [d,a]at f;cases f
      |call=>rw [d,a]at f;cases f
      |fu=>rw [d,a]at f;cases f
      |other=>rw [d,a]at f;cases f
theorem JR{ops:Array Oper}(g:jb ops){c x i:Nat}(m:mY call ops x i){s s1 s2:dM}(aa:iY E call ops c x s=some s1)(h2:iY E call ops c i s1=some s2) :
 ∃t,iY E call ops c i s=some t/\iY E call ops c x t=some s2:=by
 have h:x<ops.size:=by have:=m.lt;have:=m.ah;omega
 have b:ops[x]? =some ops[x]:=jD h;have a:ops[i]? =some (ops[i]'m.ah):=jD m.ah;obtain⟨n,f⟩:=m.pair _ _ b a;obtain⟨ao,a2,a3⟩:=apart_spec f;rw [ue b,b4]at aa;obtain⟨⟨p,o⟩,j,rfl⟩:=aa;rw [ue a,b4]at h2;obtain⟨⟨k,l⟩,d,rfl⟩:=h2;simp only at d;rw [B9 ao]at d;obtain⟨e,g1,g2⟩:=JQ g m b a j d;refine⟨⟨fJ s.dA (ops[i]'m.ah).dst k,e⟩,?_,?_⟩
 .rw [ue a,g1];rfl
 .rw [ue b];simp only;rw [B9 a2,g2];simp only [ev];rw [JO a3]
theorem front{ops:Array Oper}(c:jb ops){b i:Nat}{q:List Nat} :∀{p:List Nat}{s a:dM},(∀x∈p,mY call ops x i)->hl E call ops b (p++i::q) s=some a ->
 ∃t,iY E call ops b i s=some t/\hl E call ops b (p++q) t=some a
 |[],s,a,_,h=>by
  simp only [eg,hl]at h⊢;split at h
  .rename_i t e;exact⟨t,e,h⟩
  .cases h
 |x ::p,s,a,hm,h=>by
  simp only [hA,hl]at h;split at h
  .rename_i s1 d;obtain⟨t,aa,h2⟩:=front c (λy f=>hm y (by simp [f])) h;obtain⟨u,g1,g2⟩:=JR c (hm x an) d aa;refine⟨u,g1,?_⟩;simp only [hA,hl,g2];exact h2
  .cases h
theorem JS{ops:Array Oper}{a j:Nat}{s b:dM}(h:iY E call ops a j s=some b):mR E call ops a j s=some b:=by
 unfold iY at h;unfold mR;split at h
 .rename_i e;simp [e];simpa using h
 .rename_i o e;split at h
  .rename_i hw;split at h
   .rename_i v ae c;rw [show gY E call (a+j) (cp s.dA) s.heap o.op=some (v,ae)from uf c];exact h
   .cases h
  .exact h
  .cases h
end
section
variable {P:Program}{φ:Map}{E:a'}
theorem JT{ops:Array Oper}(call:cJ)(h:lQ ops=true):jb ops/\∀x i,x<i->i<ops.size->ordered (cO ops) x i=false->mY call ops x i:=by
 unfold lQ at h;simp only [dV,dX]at h
 have g:jb ops:=by
  intro j o a e he d
  have f:j<ops.size:=by
   rcases gg j ops.size with ad|ad
   .exact ad
   .rw [n' ad]at a;cases a
  have:=h j f;rw [a]at this;simp only [cS,dV]at this;have:=this.1 e he;simpa [d]using this
 refine⟨g,λx i c ah b=>⟨c,ah,b,λe5 cy l k=> ?_⟩⟩;have:=h i ah;rw [k]at this;simp only [cS,dV,dX]at this;have:=this.2 x c;rw [b,l]at this;simp only [Bool.false_or,cS]at this;exact⟨.inl this.1,this.2⟩
def ru(ops:Array Oper):Bool :=
 let a:=cO ops
 (List.range ops.size).all λj =>
  match ops[j]? with
  |none=>true
  |some y =>
   (y.after.toList.all λe=> !gA e || decide (e.on<j)) &&
   (List.range j).all λi =>
    ordered a i j ||
    match ops[i]? with
    |none=>true
    |some x=>(xl (cA x.op) (cA y.op) || xI (cA x.op) (cA y.op))&&q' ops x y
theorem JU{ops:Array Oper}(call:cJ)(f:rr call)(h:ru ops=true):jb ops/\∀x i,x<i->i<ops.size->ordered (cO ops) x i=false->mY call ops x i:=by
 unfold ru at h;simp only [dV,dX]at h
 have k:jb ops:=by
  intro j o a e he d
  have g:j<ops.size:=by
   rcases gg j ops.size with ad|ad
   .exact ad
   .rw [n' ad]at a;cases a
  have:=h j g;rw [a]at this;simp only [cS,dV]at this;have:=this.1 e he;simpa [d]using this
 refine⟨k,λx i c ah b=>⟨c,ah,b,λe5 cy m l=> ?_⟩⟩;have:=h i ah;rw [l]at this;simp only [cS,dV,dX]at this;have:=this.2 x c;rw [b,m]at this;simp only [Bool.false_or,cS,fI]at this;exact⟨this.1.imp id λq=>⟨f,q⟩,this.2⟩
def eP(ops:Array Oper)(listed:Array Bool):List Nat:=(List.range ops.size).filter λi=> !listed.getD i true
theorem Cb{ops:Array Oper}{listed:Array Bool}{i:Nat}(h:i∈Region.ready .any ops listed) :
 i<ops.size/\listed.getD i true=false/\∃o,ops[i]? =some o/\∀e∈o.after.toList,gA e=true->listed.getD e.on false=true:=by
 unfold Region.ready at h;simp only [lM,dX,cS,hi]at h;obtain⟨aa,h2,a⟩:=h;refine⟨aa,h2,ops[i],jD aa,λe he b=> ?_⟩;rw [jD aa]at a;simp only [ev,ob,Array.all_eq_true_iff_forall_mem]at a;have:=a e (by simpa using he);unfold gA at b;simpa [b]using this
theorem JV{ops:Array Oper}(f:jb ops){listed:Array Bool}(l:listed.size=ops.size){i:Nat}{r:List Nat}(h:eP ops listed=i::r):i∈Region.ready .any ops listed:=by
 have ah:i∈eP ops listed:=by rw [h];simp
 have j:=ah;unfold eP at ah;simp only [lM,dX,hi]at ah;unfold Region.ready;simp only [lM,dX,cS,hi];refine⟨ah.1,ah.2,?_⟩;rw [jD ah.1];simp only [ev,ob,Array.all_eq_true_iff_forall_mem];intro e he;cases d:Region.binds .any e with
 |false=>rfl
 |true =>
  simp only [Bool.not_true,Bool.false_or];have k:=f i _ (jD ah.1) e (by simpa using he) d;cases hle:listed.getD e.on false with
  |true=>rfl
  |false =>
   exfalso
   have b:e.on∈eP ops listed:=by unfold eP;simp only [lM,dX,hi];refine⟨V,?_⟩;have g:e.on<listed.size:= V;rw [hZ,jD g]at hle⊢;simpa using hle
   have c:(eP ops listed).Pairwise (· < ·):=tw _ List.pairwise_lt_range;rw [h]at c b;rcases cM.1 b with a|a
   .omega
   .have:=(List.pairwise_cons.1 c).1 _ a;omega
theorem JW{ops:Array Oper}{listed:Array Bool}(k:listed.size=ops.size){i:Nat}{p q:List Nat}(h:eP ops listed=p++i::q):eP ops (listed.setIfInBounds i true)=p++q:=by
 have c:(eP ops listed).Nodup:=tw _ tz;have ah:i∈eP ops listed:=by rw [h];simp
 have f:i<ops.size:=by unfold eP at ah;simp only [lM,dX]at ah;exact ah.1
 have aI:eP ops (listed.setIfInBounds i true)=(eP ops listed).filter λj=>decide (j≠i):=by
  unfold eP;rw [List.filter_filter];refine List.filter_congr λj a=> ?_
  have l:=dX.1 a;by_cases b:j=i
  .subst b;simp [hZ,k,f]
  .have d:¬i=j:=λe=>b e.symm
   simp [hZ,w6,b,d]
 rw [aI,h];rw [h]at c
 have ae:∀j∈p,j≠i:=λj a e=>by subst e;exact(pt.1 c).2.2 j a j an rfl
 have g:∀j∈q,j≠i:=λj a e=>by subst e;have:=(pt.1 c).2.1;exact(pr.1 this).1 a
 rw [List.filter_append,List.filter_cons];simp only [ne_eq,not_true_eq_false,decide_false,ew,ey];rw [List.filter_eq_self.2 (λj a=>by simpa using ae j a),List.filter_eq_self.2 (λj a=>by simpa using g j a)]
theorem JX(X:e4 P E){aM:Nat->Prop}{aS:World}(Z:dN aM aS.heap.size){call:cJ}(am:iu P aM aS call){ops:Array Oper}(bn:jb ops/\∀x i,x<i->i<ops.size->ordered (cO ops) x i=false->mY call ops x i){m:Nat}{Q:Exit->Act->World->Prop} :
 ∀{u:Nat}{listed:Array Bool}{s c:dM}{a:Act}{w:World}{φ:Map},listed.size=ops.size->B7 ops listed->(eP ops listed).length<=u->hl E call ops m (eP ops listed) s=some c ->
  eI φ aM aS s a w->(∀j∈eP ops listed,m+j<s.heap.Y/\∀v,φ (m+j) v=none) ->
  (∀bK aZ n,dH φ n m->eI n aM aS c bK aZ->s.heap.Y<=c.heap.Y->Q .normal bK aZ)->wpAny P .any ops Q u listed a w:=by
 intro u;obtain⟨D,a5⟩:=bn
 have N:∀{listed:Array Bool}{s c:dM}{a:Act}{w:World}{φ:Map},listed.size=ops.size->hl E call ops m (eP ops listed) s=some c->eI φ aM aS s a w ->
  (∀bK aZ n,dH φ n m->eI n aM aS c bK aZ->s.heap.Y<=c.heap.Y->Q .normal bK aZ)->Region.ready .any ops listed=[]->Q .normal a w:=by
  intro listed s c a w φ d h r l H;cases hu:eP ops listed with
  |nil =>
   rw [hu]at h;simp [hl]at h;subst h;exact l a w φ (dH.refl _ _) r (Nat.le_refl _)
  |cons i q =>
   exfalso;have:=JV D d hu;rw [H]at this;cases this
 induction u with
 |zero =>
  intro listed s c a w φ d B hlen h r hid l;have hu:eP ops listed=[]:=mG.1 V;simp only [wpAny]
  have U:Region.ready .any ops listed=[]:=by
   cases H:Region.ready .any ops listed with
   |nil=>rfl
   |cons i q =>
    exfalso;obtain⟨aa,h2,_⟩:=Cb (by rw [H];exact jG);have:i∈eP ops listed:=by unfold eP;simp only [lM,dX,hi];exact⟨aa,h2⟩
    rw [hu]at this;cases this
  exact⟨U,N d h r l U⟩
 |succ u ih =>
  intro listed s c a w φ d B hlen h r hid l;simp only [wpAny];refine⟨N d h r l,λi ah=> ?_⟩;obtain⟨aa,h2,o,R,S⟩:=Cb ah;have F:i∈eP ops listed:=by unfold eP;simp only [lM,dX,hi];exact⟨aa,h2⟩
  obtain⟨p,q,f⟩:=List.append_of_mem F;have W:(eP ops listed).Pairwise (· < ·):=tw _ List.pairwise_lt_range
  have hm:∀x∈p,mY call ops x i:=by
   intro x g;rw [f]at W;have a4:x<i:=(List.pairwise_append.1 W).2.2 x g i an;refine a5 x i a4 aa ?_;cases z:ordered (cO ops) x i with
   |false=>rfl
   |true =>
    exfalso;have K:=JK D B i o R S z;have L:x∈eP ops listed:=by rw [f];simp [g]
    unfold eP at L;simp only [lM,dX,hi]at L;have O:x<listed.size:= V;rw [hZ,jD O]at K;have y:=L.2;rw [hZ,jD O]at y;simp at K y;rw [K]at y;cases y
  rw [f]at h;obtain⟨t,g1,g2⟩:=front D hm h;refine BZ X Z am r (hid i F) (JS g1) λbK aZ n g co hle=> ?_
  have I:=JW d f;refine ih (listed:=listed.setIfInBounds i true) (by simpa using d) ?_ ?_ (by rw [I];exact g2) co (λj b=> ?_) λc0 c4 c5 a3 ct c3=> ?_
  .intro j ce b A e he z;by_cases M:e.on=i
   .rw [M];simp [hZ,d,aa]
   .have ax:listed.getD e.on false=true:=by
     by_cases C:j=i
     .subst C;rw [R]at A;simp at A;subst A;exact S e he z
     .refine B j ce ?_ A e he z;have a0:¬i=j:=λe=>C e.symm
      simpa [hZ,w6,a0]using b
    have av:¬i=e.on:=λe'=>M e'.symm
    simpa [hZ,w6,av]using ax
  .rw [I];rw [f]at hlen;simp at hlen⊢; omega
  .rw [I]at b;have a2:j∈eP ops listed:=by rw [f];rcases eG.1 b with b|b<;>simp [b]
   have G:(eP ops listed).Nodup:=tw _ tz
   have C:j≠i:=by
    rintro rfl;rw [f]at G;rcases eG.1 b with b|b
    .exact(pt.1 G).2.2 j b j an rfl
    .exact(pr.1 (pt.1 G).2.1).1 b
   obtain⟨bv,b2⟩:=hid j a2;exact⟨V,g.new _ bv V b2⟩
  .refine l _ _ _ (dH.trans ⟨g.le,λk c2 a9=>g.new k ?_ V a9,g.ro⟩ a3) ct V;have:=(hid i F).1;omega
theorem Cc(f:e4 P E){aM:Nat->Prop}{aS:World}(g:dN aM aS.heap.size){call:cJ}(k:iu P aM aS call){ops:Array Oper}(m:jb ops/\∀x i,x<i->i<ops.size->ordered (cO ops) x i=false->mY call ops x i){c:Nat}{s d:dM}{a:Act}{w:World}{φ:Map}
 {Q:Exit->Act->World->Prop} (h:hl E call ops c (List.range ops.size) s=some d) (r:eI φ aM aS s a w) (hid:∀j,j<ops.size->c+j<s.heap.Y/\∀v,φ (c+j) v=none)
 (l:∀bK aZ e,dH φ e c->eI e aM aS d bK aZ->s.heap.Y<=d.heap.Y->Q .normal bK aZ):wpAny P .any ops Q ops.size (Array.replicate ops.size false) a w:=by
 have hu:eP ops (Array.replicate ops.size false)=List.range ops.size:=by
  unfold eP;refine List.filter_eq_self.2 λi ah=> ?_
  have:=dX.1 ah;simp [hZ,Array.getElem?_replicate,this]
 refine JX f g k m an ?_ (by rw [hu];simp) (by rw [hu];exact h) r (λj b=>by rw [hu]at b;exact hid j (dX.1 b)) l;intro j o b;simp [hZ,Array.getElem?_replicate]at b;split at b<;>simp at b
theorem JY(e:e4 P E){aM:Nat->Prop}{aS:World}(f:dN aM aS.heap.size){call:cJ}(g:iu P aM aS call){ops:Array Oper}(k:lQ ops=true){b:Nat}{s c:dM}{a:Act}{w:World}{φ:Map}
 {Q:Exit->Act->World->Prop} (h:hl E call ops b (List.range ops.size) s=some c) (r:eI φ aM aS s a w) (hid:∀j,j<ops.size->b+j<s.heap.Y/\∀v,φ (b+j) v=none)
 (i:∀bK aZ d,dH φ d b->eI d aM aS c bK aZ->s.heap.Y<=c.heap.Y->Q .normal bK aZ):wpAny P .any ops Q ops.size (Array.replicate ops.size false) a w :=
 Cc e f g (JT call k) h r hid i
end
end
noncomputable section
open Go.RowKit
section
variable {P:Program}{φ:Map}{E:a'}
def rv:bW->Exit
 |.normal=> .normal
 |.exit id=> .exit id
 |.goto l=> .goto l
 |.ret=> .ret
theorem eI.bump{aM:Nat->Prop}{aS w:World}{s:dM}{a:Act}(r:eI φ aM aS s a w)(n:Nat):eI φ aM aS ⟨s.dA,{s.heap with Y:=s.heap.Y+n}⟩ a w :=
 ⟨r.dA,r.heap.Y V,r.below,r.defers⟩
theorem eI.drew{aM:Nat->Prop}{aS w:World}{s:dM}{a:Act}(r:eI φ aM aS s a w):eI φ aM aS s a w.drew :=
 ⟨r.dA,r.heap.alike (Alike.rk w),r.below.drew,r.defers⟩
theorem Cd{aM:Nat->Prop}{w:World}{h:T}(r:cg φ aM h w){i:Nat}(ah:h.Y<=i):∀v,φ i v=none:=by
 intro v;cases a:φ i v with
 |none=>rfl
 |some p=>have:=(r.cI i v p a).1;omega
theorem Ce(e:e4 P E){aM:Nat->Prop}{aS w:World}(f:dN aM aS.heap.size){call:cJ}(g:iu P aM aS call)(m:P.follows .mixedOrders=true){id:Nat}{ops:Array Oper}{draw:Bool}{s d:dM}{a:Act}(r:eI φ aM aS s a w)(h:oj E call ops draw s=some d)
 {Q:Exit->Act->World->Prop} (l:∀bK aZ b,dH φ b s.heap.Y->eI b aM aS d bK aZ->s.heap.Y<=d.heap.Y->Q .normal bK aZ):(Code.region id ops draw).wp P Q a w:=by
 have i:∀j,j<ops.size->s.heap.Y+j<s.heap.Y+ops.size/\∀v,φ (s.heap.Y+j) v=none:=λj k=>⟨V,Cd r.heap V⟩
 unfold oj at h;cases draw with
 |false =>
  simp only [ew,ey]at h;refine wp_region ?_;refine B0 e f g h (r.bump _) tz (λj k=>i j (dX.1 k)) λbK aZ b aa h2 c=>l bK aZ b aa h2 ?_
  simp only at c;omega
 |true =>
  simp only [dy]at h;split at h
  .rename_i n;refine wp_region_any m ?_;refine JY e f g n h (r.bump _).drew i λbK aZ b aa h2 c=>l bK aZ b aa h2 ?_
   simp only at c;omega
  .cases h
theorem JZ(e:e4 P E){aM:Nat->Prop}{aS w:World}(f:dN aM aS.heap.size){call:cJ}(g:iu P aM aS call)(i:rr call)(m:P.follows .mixedOrders=true){id:Nat}{ops:Array Oper}{s c:dM}{a:Act}(r:eI φ aM aS s a w)
 (n:ru ops=true) (h:hl E call ops s.heap.Y (List.range ops.size) ⟨s.dA,{s.heap with Y:=s.heap.Y+ops.size}⟩=some c)
 {Q:Exit->Act->World->Prop} (l:∀bK aZ b,dH φ b s.heap.Y->eI b aM aS c bK aZ->s.heap.Y<=c.heap.Y->Q .normal bK aZ):(Code.region id ops true).wp P Q a w:=by
 have k:∀j,j<ops.size->s.heap.Y+j<s.heap.Y+ops.size/\∀v,φ (s.heap.Y+j) v=none:=λj o=>⟨V,Cd r.heap V⟩
 refine wp_region_any m ?_;refine Cc e f g (JU call i n) h (r.bump _).drew k λbK aZ b aa h2 d=>l bK aZ b aa h2 ?_
 simp only at d;omega
def ox(P:Program)(c:Code)(Q:Exit->Act->World->Prop)(a:Act)(w:World):Prop :=
 ∀(b:Frame)(k:List Item)(aX:List Frame),∃e bK aZ,Q e bK aZ/\Arrives P (lone (b.at a (.code c:: .inLoop c::k)) aX w) b k aX e bK aZ
theorem Cf{c:Code}{Q:Exit->Act->World->Prop}{a:Act}{w:World}(h:ox P c Q a w):(Code.loop c).wp P Q a w:=λb k aX =>
 let ⟨e,bK,aZ,q,r⟩:=h b k aX;⟨e,bK,aZ,q,.of_steps (.one step_loop) r⟩
theorem xL{c:Code}{Q:Exit->Act->World->Prop}{a:Act}{w:World}(h:c.wp P (Exit.then (ox P c Q) Q) a w):ox P c Q a w:=by
 intro b k aX;obtain⟨e,g,i,f,d⟩:=h b (.inLoop c::k) aX;cases e with
 |normal =>
  obtain⟨m,j,p,o,n⟩:=f b k aX;exact⟨m,j,p,o,.of_steps (Steps.trans d (.one step_inLoop)) n⟩
 |exit id=>exact⟨_,g,i,f,.pass (x:= .inLoop c) rfl (λ_ _=> .inl an) d⟩
 |goto l=>exact⟨_,g,i,f,.pass (x:= .inLoop c) rfl (λ_ _=> .inl an) d⟩
 |ret=>exact⟨_,g,i,f,.pass (x:= .inLoop c) rfl (λ_ _=> .inl an) d⟩
 |panic q=>exact⟨_,g,i,f,.pass (x:= .inLoop c) rfl (λ_ _=> .inl an) d⟩
 |outgrown=>exact⟨_,g,i,f,.pass (x:= .inLoop c) rfl (λ_ _=> .inl an) d⟩
def pO(P:Program)(body c:Code)(Q:Exit->Act->World->Prop)(a:Act)(w:World):Prop :=
 ∀(b:Frame)(k:List Item)(aX:List Frame),∃e bK aZ,Q e bK aZ/\Arrives P (lone (b.at a (.code c:: .inScope body::k)) aX w) b k aX e bK aZ
theorem Cg{c:Code}{Q:Exit->Act->World->Prop}{a:Act}{w:World}(h:pO P c c Q a w):(Code.scope c).wp P Q a w:=λb k aX =>
 let ⟨e,bK,aZ,q,r⟩:=h b k aX;⟨e,bK,aZ,q,.of_steps (.one step_scope) r⟩
def m'(P:Program)(body:Code)(Q:Exit->Act->World->Prop):Exit->Act->World->Prop
 |.goto l,a,w =>
  match findLabel body l with
  |some rest=>pO P body rest Q a w
  |none=>Q (.goto l) a w
 |e,a,w=>Q e a w
theorem ug{body c:Code}{Q:Exit->Act->World->Prop}{a:Act}{w:World}(h:c.wp P (m' P body Q) a w):pO P body c Q a w:=by
 intro b k aX;obtain⟨e,g,i,d,f⟩:=h b (.inScope body::k) aX;cases e with
 |normal=>exact⟨.normal,g,i,d,Steps.trans f (.one step_inScope)⟩
 |exit id=>exact⟨.exit id,g,i,d,λk' m=>f k' (by simp [exitTo,m])⟩
 |goto l =>
  simp only [m']at d;cases j:findLabel body l with
  |some rest =>
   rw [j]at d;obtain⟨p,n,s,r,q⟩:=d b k aX;exact⟨p,n,s,r,.of_steps (f _ (by simp [gotoIn,j])) q⟩
  |none =>
   rw [j]at d;exact⟨.goto l,g,i,d,λk' m=>f k' (by simp [gotoIn,j,m])⟩
 |ret=>exact⟨.ret,g,i,d,f⟩
 |panic o=>exact⟨.panic o,g,i,d,f⟩
 |outgrown=>exact⟨.outgrown,g,i,d,f⟩
def ry(P:Program)(E:a')(aM:Nat->Prop)(aS:World)(s b:dM)(e:bW)(a:Act)(w:World)(d:(Exit->Act->World->Prop)->Prop):Prop :=
 ∀{φ:Map}{Q:Exit->Act->World->Prop},eI φ aM aS s a w->(∀bK aZ c,dH φ c s.heap.Y->eI c aM aS b bK aZ->s.heap.Y<=b.heap.Y->Q (rv e) bK aZ)->d Q
theorem J0(H:e4 P E){aM:Nat->Prop}{aS:World}(I:dN aM aS.heap.size){call:cJ}(K:iu P aM aS call)(L:P.follows .mixedOrders=true):∀(n:Nat),
 (∀{c:Code}{s i:dM}{e:bW}{a:Act}{w:World},dD E call n none c s=some (e,i)->ry P E aM aS s i e a w λQ=>c.wp P Q a w) /\
 (∀{c:Code}{s i:dM}{e:bW}{a:Act}{w:World},dD E call n none (.loop c) s=some (e,i)->ry P E aM aS s i e a w λQ=>ox P c Q a w) /\
 (∀{b c:Code}{s i:dM}{e:bW}{a:Act}{w:World},dD E call n (some b) c s=some (e,i)->ry P E aM aS s i e a w λQ=>pO P b c Q a w):=by
 intro n;induction n with
 |zero=>refine⟨?_,?_,?_⟩<;>(intros;simp_all [dD])
 |succ n ih =>
  obtain⟨k,N,F⟩:=ih
  have D:∀{c:Code}{s i:dM}{e:bW}{a:Act}{w:World},dD E call (n+1) none (.loop c) s=some (e,i)->ry P E aM aS s i e a w λQ=>ox P c Q a w:=by
   intro c s i e a w h φ Q r d;simp only [dD]at h;refine xL ?_;cases aa:dD E call n none c s with
   |none=>simp [aa]at h
   |some p =>
    obtain⟨aI,s1⟩:=p;rw [aa]at h;refine k aa r λbK aZ g g1 g2 g3=> ?_
    cases aI with
    |normal =>
     simp only at h;show ox P c Q bK aZ;exact N h g2 λo u v q t G=>d o u v (g1.trans (q.mono g3)) t V
    |exit id=>simp at h;obtain⟨rfl,rfl⟩:=h;exact d bK aZ g g1 g2 g3
    |goto id=>simp at h;obtain⟨rfl,rfl⟩:=h;exact d bK aZ g g1 g2 g3
    |ret=>simp at h;obtain⟨rfl,rfl⟩:=h;exact d bK aZ g g1 g2 g3
  have M:∀{b c:Code}{s i:dM}{e:bW}{a:Act}{w:World},dD E call (n+1) (some b) c s=some (e,i)->ry P E aM aS s i e a w λQ=>pO P b c Q a w:=by
   intro b c s i e a w h φ Q r d;simp only [dD]at h;refine ug ?_;cases aa:dD E call n none c s with
   |none=>simp [aa]at h
   |some p =>
    obtain⟨aI,s1⟩:=p;rw [aa]at h;refine k aa r λbK aZ g g1 g2 g3=> ?_
    cases aI with
    |normal=>simp at h;obtain⟨rfl,rfl⟩:=h;exact d bK aZ g g1 g2 g3
    |exit id=>simp at h;obtain⟨rfl,rfl⟩:=h;exact d bK aZ g g1 g2 g3
    |goto l =>
     simp only at h;show m' P b Q (.goto l) bK aZ;simp only [m'];cases B:findLabel b l with
     |some rest =>
      rw [B]at h;exact F h g2 λo u v q t G=>d o u v (g1.trans (q.mono g3)) t V
     |none =>
      rw [B]at h;simp at h;obtain⟨rfl,rfl⟩:=h;exact d bK aZ g g1 g2 g3
    |ret=>simp at h;obtain⟨rfl,rfl⟩:=h;exact d bK aZ g g1 g2 g3
  refine⟨?_,D,M⟩;intro c s i e a w h φ Q r d;cases c with
  |skip=>simp [dD]at h;obtain⟨rfl,rfl⟩:=h;exact wp_skip (d a w φ (dH.refl _ _) r (Nat.le_refl _))
  |label l=>simp [dD]at h;obtain⟨rfl,rfl⟩:=h;exact wp_label (d a w φ (dH.refl _ _) r (Nat.le_refl _))
  |region id ops draw =>
   simp only [dD,b4,bo]at h;obtain⟨s1,aa,rfl,rfl⟩:=h;exact Ce H I K L r aa d
  |seq x y =>
   simp only [dD]at h;refine wp_seq ?_;cases aa:dD E call n none x s with
   |none=>simp [aa]at h
   |some p =>
    obtain⟨aI,s1⟩:=p;rw [aa]at h;refine k aa r λbK aZ g g1 g2 g3=> ?_
    cases aI with
    |normal =>
     simp only at h;show y.wp P Q bK aZ;exact k h g2 λo u v q t G=>d o u v (g1.trans (q.mono g3)) t V
    |exit id=>simp at h;obtain⟨rfl,rfl⟩:=h;exact d bK aZ g g1 g2 g3
    |goto id=>simp at h;obtain⟨rfl,rfl⟩:=h;exact d bK aZ g g1 g2 g3
    |ret=>simp at h;obtain⟨rfl,rfl⟩:=h;exact d bK aZ g g1 g2 g3
  |cond x y z =>
   simp only [dD]at h;have m:=r.eval x;split at h
   .rename_i A;rw [A]at m;simp only [aB]at m;exact wp_cond_true m (k h r d)
   .rename_i A;rw [A]at m;simp only [aB]at m;exact wp_cond_false m (k h r d)
   .cases h
  |block id c =>
   simp only [dD]at h;refine wp_block ?_;cases aa:dD E call n none c s with
   |none=>simp [aa]at h
   |some p =>
    obtain⟨aI,s1⟩:=p;rw [aa]at h;refine k aa r λbK aZ g g1 g2 g3=> ?_
    cases aI with
    |normal=>simp at h;obtain⟨rfl,rfl⟩:=h;exact d bK aZ g g1 g2 g3
    |exit j =>
     simp at h;obtain⟨rfl,rfl⟩:=h;simp only [rv,Exit.inBlock];by_cases C:j=id
     .rw [aE C]at d⊢; exact d bK aZ g g1 g2 g3
     .rw [ap C]at d⊢; exact d bK aZ g g1 g2 g3
    |goto l=>simp at h;obtain⟨rfl,rfl⟩:=h;exact d bK aZ g g1 g2 g3
    |ret=>simp at h;obtain⟨rfl,rfl⟩:=h;exact d bK aZ g g1 g2 g3
  |loop c=>exact Cf (D h r d)
  |scope c =>
   simp only [dD]at h;exact Cg (F h r d)
  |goto l=>simp [dD]at h;obtain⟨rfl,rfl⟩:=h;exact wp_goto (d a w φ (dH.refl _ _) r (Nat.le_refl _))
  |exit id=>simp [dD]at h;obtain⟨rfl,rfl⟩:=h;exact wp_exit (d a w φ (dH.refl _ _) r (Nat.le_refl _))
  |ret=>simp [dD]at h;obtain⟨rfl,rfl⟩:=h;exact wp_ret (d a w φ (dH.refl _ _) r (Nat.le_refl _))
  |rangeFunc f ps x y=>simp [dD]at h
  |refuse w=>simp [dD]at h
theorem xM(d:E.D.cx P){aM:Nat->Prop}{aS w:World}{s:dM}{a:Act}(r:eI φ aM aS s a w):∀{cW:List ResultVar}{l:List J},g' E.D cW s=some l ->
 ∃vs,(cW.mapM (fun(x:ResultVar)=>(match x with|.tmp t=>pure (a.tmps.getD t undef)|.cell b t=>do loadVar t (<-asAddr (a.tmps.getD b undef)):Sem Value))).run P w=.ok vs w/\bc φ l vs
 |[],l,h=>by simp [g']at h;subst h;exact⟨[],rfl,by simp [bc]⟩
 |.tmp t::cW,l,h=>by
  simp only [g',b4]at h;obtain⟨m,aa,rfl⟩:=h;obtain⟨vs,e,f⟩:=xM d r aa;refine⟨a.tmps.getD t undef::vs,?_,?_⟩
  .simp only [List.mapM_cons,Sem.run_bind,Sem.run_pure,Result.andThen_ok,e]
  .simp only [bc];exact⟨_,_,rfl,r.dA.xD t,f⟩
 |.cell b t::cW,l,h=>by
  simp only [g']at h;split at h
  .rename_i p ae;split at h
   .rename_i v m aa h2;simp at h;subst h;obtain⟨vs,e,f⟩:=xM d r h2;have c:=r.dA.xD b;rw [ae]at c;obtain⟨j,g1,g2⟩:=BF d r.heap c aa;simp only [aB]at c;obtain⟨k,g,n⟩:=c;rw [g]at g1;simp only [Instr.loadAt,Instr.sureAddr,Sem.run_bind,Sem.run_pure,Result.andThen_ok]at g1;refine⟨j::vs,?_,?_⟩
    .have i:(asAddr (a.tmps.getD b undef)).run P w=.ok k w:=by rw [g];rfl
     simp only [List.mapM_cons,Sem.run_bind,i,Sem.run_pure,Result.andThen_ok,g1,e]
    .simp only [bc];exact⟨_,_,rfl,g2,f⟩
   .cases h
  .cases h
theorem Ch(g:E.D.cx P){aM:Nat->Prop}{aS w:World}{s:dM}{a:Act}(r:eI φ aM aS s a w){fn:Func}{l:List J}(h:g' E.D fn.results.toList s=some l) :
 ∃d,(results fn a.tmps).run P w=.ok d w/\aB φ (jJ l) d:=by
 obtain⟨vs,aa,h2⟩:=xM g r h
 have hm:(fn.results.mapM (fun(x:ResultVar)=>(match x with|.tmp t=>pure (a.tmps.getD t undef)|.cell b t=>do loadVar t (<-asAddr (a.tmps.getD b undef)):Sem Value))).run P w=.ok vs.toArray w:=by rw [<-Array.toArray_toList (xs:=fn.results)];simp only [List.mapM_toArray,Sem.run_map,aa,Result.andThen_ok]
 have hlen:=h2.length;by_cases c:l.length=1
 .obtain⟨x,rfl⟩:=List.length_eq_one_iff.1 c;obtain⟨y,rfl⟩:=List.length_eq_one_iff.1 (by rw [hlen,c]);refine⟨y,?_,?_⟩
  .unfold results;rw [Sem.run_bind]
   erw [hm]
   rfl
  .simp only [bc]at h2;obtain⟨v,t,e,f,i⟩:=h2;simp at e;obtain⟨rfl,rfl⟩:=e;exact f
 .refine⟨.tuple vs.toArray,?_,?_⟩
  .unfold results;rw [Sem.run_bind]
   erw [hm]
   simp only [Result.andThen_ok,Sem.run_pure];rw [dif_neg (by simp;omega)]
  .have:jJ l=.tuple l:=by
    unfold jJ;split
    .simp at c
    .rfl
   rw [this];simp only [aB];exact⟨_,rfl,by simpa using h2⟩
theorem J1(k:e4 P E){aM:Nat->Prop}{aS:World}(t:dN aM aS.heap.size)(ef:E.cond aM aS)(A:P.follows .mixedOrders=true):∀n,iu P aM aS (iZ P E n):=by
 intro n;induction n with
 |zero=>intro f args h v ad al;simp [iZ]at al
 |succ n ih =>
  intro f args h v ad al φ w i q o j;simp only [iZ]at al;split at al
  .rename_i g ag;exact k.BT f g ag aM aS t ef args h v ad al φ w i q o j
  .rename_i G;split at al
   .rename_i fn x;split at al
    .rename_i c u;refine⟨⟨fn,c,x,u⟩,?_⟩;refine calls_of_wp x u ?_;have hlen:i.size=args.length:=by have:=j.length;rwa [gh]at this
     have r:eI φ aM aS ⟨args++List.replicate (fn.ntmps-args.length) eN,h⟩ {tmps:=i++Array.replicate (fn.ntmps-i.size) undef,defers:=[]} w:=by refine⟨?_,q,o,rfl⟩;simp only [lL,Array.toList_replicate,hlen];exact j.append (bc.replicate (aB.eN φ) _)
     cases m:dD E (iZ P E n) n none c ⟨args++List.replicate (fn.ntmps-args.length) eN,h⟩with
     |none=>simp [m]at al
     |some p =>
      obtain⟨e,s⟩:=p;rw [m]at al
      have fin:∀bK aZ a,dH φ a h.Y->eI a aM aS s bK aZ->h.Y<=s.heap.Y-> ∀{l},g' E.D fn.results.toList s=some l->v=jJ l->ad=s.heap ->
       bK.defers=[]/\∃y,(results fn bK.tmps).run P aZ=.ok y aZ/\∃d a,Ending.returned y=.returned d/\dH φ a h.Y/\aB a v d/\cg a aM ad aZ/\Safe aM aS aZ/\h.Y<=ad.Y:=by
       intro bK aZ a g1 g2 g3 l b B z;subst B z;obtain⟨d,C,F⟩:=Ch k.fM g2 b;exact⟨g2.defers,d,C,d,a,rfl,g1,F,g2.heap,g2.below,g3⟩
      refine(J0 k t ih A n).1 m r λbK aZ a g1 g2 g3=> ?_
      cases e with
      |normal =>
       simp only [b4,bo]at al;obtain⟨l,b,aa,h2⟩:=al;exact fin bK aZ a g1 g2 g3 b aa.symm h2.symm
      |ret =>
       simp only [b4,bo]at al;obtain⟨l,b,aa,h2⟩:=al;exact fin bK aZ a g1 g2 g3 b aa.symm h2.symm
      |exit id=>simp at al
      |goto id=>simp at al
    .cases al
   .cases al
end
end
noncomputable section
open Go.RowKit
section
variable {P:Program}{E:a'}
def uh:Option (J×T)->Bool
 |some (.bool true,_)=>true
 |_=>false
theorem J2{r:Option (J×T)}(h:uh r=true):∃ad,r=some (.bool true,ad):=by
 unfold uh at h;split at h
 .exact⟨_,rfl⟩
 .cases h
theorem cN.J3(P:Program):cN.cx (tN P) P:=λ_ _ h=>h
theorem J4{P:Program}(h:(P.funcs.toList.all λfn=> !(fn.name == "runtime.NumGoroutine"))=true):∀(f:Nat) fn,P.funcs[f]? =some fn->(fn.name == "runtime.NumGoroutine")=false:=by
 intro f fn a
 have hm:fn∈P.funcs.toList:=by rw [<-Array.getElem?_toList]at a;exact fR a
 have:=dV.1 h fn hm;simpa using this
theorem J5{P:Program}{E:a'}(h:(E.eqs.all λt=>xt P t)=true):∀t,E.fC t=true->mV P t:=by intro t a;exact dV.1 h t (by simpa [a'.fC]using a)
end
end
noncomputable section
open Go.RowKit
def aT.aK(r:Nat->Nat)(a:aT):aT:= {a with id:=r a.id}
mutual
def J.aK(r:Nat->Nat):J->J
 |.ptr (some a)=> .ptr (some (a.aK r))
 |.slice (some a) n c=> .slice (some (a.aK r)) n c
 |.func fn f c=> .func fn (J.fD r f) (J.fD r c)
 |.iface t v=> .iface t (J.aK r v)
 |.agg aX=> .agg (J.fD r aX)
 |.tuple vs=> .tuple (J.fD r vs)
 |.undef=> .undef
 |.bool b=> .bool b
 |.int k n=> .int k n
 |.str s=> .str s
 |.ptr none=> .ptr none
 |.slice none n c=> .slice none n c
 |.nilFunc=> .nilFunc
 |.nilIface=> .nilIface
def J.fD(r:Nat->Nat):List J->List J
 |[]=> []
 |a::l=>J.aK r a::J.fD r l
end
theorem J.xN(r:Nat->Nat):∀(l:List J),J.fD r l=l.map (J.aK r)
 |[]=>rfl
 |a::l=>by simp [J.fD,J.xN r l]
mutual
def bQ(D:Nat->Prop):J->Prop
 |.ptr (some a)=>D a.id
 |.slice (some a) _ _=>D a.id
 |.func _ f c=>dI D f/\dI D c
 |.iface _ v=>bQ D v
 |.agg aX=>dI D aX
 |.tuple vs=>dI D vs
 |.undef=>True
 |.bool _=>True
 |.int _ _=>True
 |.str _=>True
 |.ptr none=>True
 |.slice none _ _=>True
 |.nilFunc=>True
 |.nilIface=>True
def dI(D:Nat->Prop):List J->Prop
 |[]=>True
 |a::l=>bQ D a/\dI D l
end
theorem rz{D:Nat->Prop} :∀{l:List J},dI D l↔ ∀a∈l,bQ D a
 |[]=>by simp [dI]
 |a::l=>by simp [dI,rz (l:=l)]
mutual
theorem aB.aK{φ cc:Map}{r:Nat->Nat}(h:∀i v p,φ i v=some p->cc (r i) v=some p):∀{a:J}{v:Value},aB φ a v->aB cc (a.aK r) v
 |.undef,_,_=>by simp [aB,J.aK]
 |.bool b,v,k=>by simpa [aB,J.aK]using k
 |.int _ n,v,k=>by simpa [aB,J.aK]using k
 |.str s,v,k=>by simpa [aB,J.aK]using k
 |.ptr none,v,k=>by simpa [aB,J.aK]using k
 |.ptr (some a),v,k=>by simp only [aB,J.aK]at k⊢;obtain⟨x,e,p,ae,q⟩:=k;exact⟨x,e,p,h _ _ _ ae,q⟩
 |.slice none len cap,v,k=>by simpa [aB,J.aK]using k
 |.slice (some a) len cap,v,k=>by
  simp only [aB,J.aK]at k⊢;obtain⟨x,c,e,l,l2,q⟩:=k;refine⟨x,c,e,l,l2,?_⟩;rcases q with ⟨d,p,ae,q⟩|⟨f,d,p,ae,q⟩
  .exact .inl ⟨d,p,h _ _ _ ae,q⟩
  .exact .inr ⟨f,d,p,h _ _ _ ae,q⟩
 |.func fn f c,v,k=>by simp only [aB,J.aK]at k⊢;obtain⟨j,g,e,m,o⟩:=k;exact⟨j,g,e,bc.aK h m,bc.aK h o⟩
 |.nilFunc,v,k=>by simpa [aB,J.aK]using k
 |.iface t a,v,k=>by simp only [aB,J.aK]at k⊢;obtain⟨x,e,q⟩:=k;exact⟨x,e,aB.aK h q⟩
 |.nilIface,v,k=>by simpa [aB,J.aK]using k
 |.agg aX,v,k=>by simp only [aB,J.aK]at k⊢;obtain⟨x,e,q⟩:=k;exact⟨x,e,bc.aK h q⟩
 |.tuple aX,v,k=>by simp only [aB,J.aK]at k⊢;obtain⟨x,e,q⟩:=k;exact⟨x,e,bc.aK h q⟩
theorem bc.aK{φ cc:Map}{r:Nat->Nat}(h:∀i v p,φ i v=some p->cc (r i) v=some p):∀{l:List J}{t:List Value},bc φ l t->bc cc (J.fD r l) t
 |[],t,k=>by simpa [bc,J.fD]using k
 |a::l,t,k=>by simp only [bc,J.fD]at k⊢;obtain⟨v,d,e,b,c⟩:=k;exact⟨v,d,e,aB.aK h b,bc.aK h c⟩
end
mutual
theorem aB.iv{φ cc:Map}{r:Nat->Nat}{D:Nat->Prop}(h:∀i,D i-> ∀v p,cc (r i) v=some p->φ i v=some p):∀{a:J}{v:Value},bQ D a->aB cc (a.aK r) v->aB φ a v
 |.undef,_,_,_=>by simp [aB]
 |.bool b,v,_,k=>by simpa [aB,J.aK]using k
 |.int _ n,v,_,k=>by simpa [aB,J.aK]using k
 |.str s,v,_,k=>by simpa [aB,J.aK]using k
 |.ptr none,v,_,k=>by simpa [aB,J.aK]using k
 |.ptr (some a),v,c,k=>by simp only [aB,J.aK,bQ]at k c⊢;obtain⟨x,e,p,ae,q⟩:=k;exact⟨x,e,p,h _ c _ _ ae,q⟩
 |.slice none len cap,v,_,k=>by simpa [aB,J.aK]using k
 |.slice (some a) len cap,v,d,k=>by
  simp only [aB,J.aK,bQ]at k d⊢;obtain⟨x,c,e,m,l2,q⟩:=k;refine⟨x,c,e,m,l2,?_⟩;rcases q with ⟨g,p,ae,q⟩|⟨f,g,p,ae,q⟩
  .exact .inl ⟨g,p,h _ d _ _ ae,q⟩
  .exact .inr ⟨f,g,p,h _ d _ _ ae,q⟩
 |.func fn f c,v,d,k=>by simp only [aB,J.aK,bQ]at k d⊢;obtain⟨l,j,e,o,u⟩:=k;exact⟨l,j,e,bc.iv h d.1 o,bc.iv h d.2 u⟩
 |.nilFunc,v,_,k=>by simpa [aB,J.aK]using k
 |.iface t a,v,d,k=>by simp only [aB,J.aK,bQ]at k d⊢;obtain⟨x,e,q⟩:=k;exact⟨x,e,aB.iv h d q⟩
 |.nilIface,v,_,k=>by simpa [aB,J.aK]using k
 |.agg aX,v,d,k=>by simp only [aB,J.aK,bQ]at k d⊢;obtain⟨x,e,q⟩:=k;exact⟨x,e,bc.iv h d q⟩
 |.tuple aX,v,d,k=>by simp only [aB,J.aK,bQ]at k d⊢;obtain⟨x,e,q⟩:=k;exact⟨x,e,bc.iv h d q⟩
theorem bc.iv{φ cc:Map}{r:Nat->Nat}{D:Nat->Prop}(h:∀i,D i-> ∀v p,cc (r i) v=some p->φ i v=some p):∀{l:List J}{t:List Value},dI D l->bc cc (J.fD r l) t->bc φ l t
 |[],t,_,k=>by simpa [bc,J.fD]using k
 |a::l,t,c,k=>by simp only [bc,J.fD,dI]at k c⊢;obtain⟨v,f,e,b,d⟩:=k;exact⟨v,f,e,aB.iv h c.1 b,bc.iv h c.2 d⟩
end
def ac.aK(r:Nat->Nat)(b:ac):ac:= {b with aQ:=b.aQ.map (J.aK r)}
theorem ac.Ci(r:Nat->Nat)(b:ac)(v:Nat):(b.aK r).b0 v=b.b0 v:=by show(if v=b.ab then(b.aQ.map (J.aK r)).length else if b.eb<=v/\v<b.ab then b.eS else 0)=b.b0 v;rw [gy];rfl
theorem J.ui(r:Nat->Nat)(e:J):(e.aK r).cells=e.cells.map (J.aK r):=by
 cases e with
 |ptr o=>cases o<;>simp [J.aK,J.cells]
 |slice o n c=>cases o<;>simp [J.aK,J.cells]
 |agg l=>simp [J.aK,J.cells,J.xN]
 |_=>simp [J.aK,J.cells]
theorem Row.aK{φ cc:Map}{r:Nat->Nat}(h:∀i v p,φ i v=some p->cc (r i) v=some p){S d:Nat->Prop}{b:ac}{v:Nat}{p:Place}{w:World}(k:Row φ S b v p w)(f:p.ro=false-> ¬d p.bH):Row cc d (b.aK r) v p w where
 bH:=k.bH
 base:=f
 cells:=k.cells
 free:=k.free
 mark:=k.mark
 ha:=k.ha
 cont i e aa h2 a:=by rw [ac.Ci]at h2;simp only [ac.aK,fc,b4]at a;obtain⟨e0,a,rfl⟩:=a;obtain⟨g,l,m⟩:=k.cont i e0 aa h2 a;refine⟨by rw [J.ui,gy];exact g,l,λj bt c=> ?_⟩;rw [J.ui,fc,b4]at c;obtain⟨iw,c,rfl⟩:=c;obtain⟨x,g1,g2,g3⟩:=m j iw c;exact⟨x,g1,aB.aK h g2,g3⟩
theorem bQ.cells{D:Nat->Prop}{e:J}(h:bQ D e):∀x∈e.cells,bQ D x:=by
 intro x a;cases e with
 |agg l=>simp only [bQ]at h;exact rz.1 h x (by simpa [J.cells]using a)
 |ptr o=>cases o<;>(simp only [J.cells,cC]at a;subst a;exact h)
 |slice o n c=>cases o<;>(simp only [J.cells,cC]at a;subst a;exact h)
 |_=>simp only [J.cells,cC]at a;subst a;exact h
theorem Row.iv{φ cc:Map}{r:Nat->Nat}{D:Nat->Prop}(h:∀i,D i-> ∀v p,cc (r i) v=some p->φ i v=some p){S a:Nat->Prop}{b:ac}{v:Nat}{p:Place}{w:World}(al:∀e∈b.aQ,bQ D e)(k:Row cc S (b.aK r) v p w)
 (l:p.ro=false-> ¬a p.bH):Row φ a b v p w where
 bH:=k.bH
 base:=l
 cells:=k.cells
 free:=k.free
 mark:=k.mark
 ha:=k.ha
 cont i e aa h2 c:=by
  have g:(b.aK r).aQ[i]? =some (e.aK r):=by simp [ac.aK,c]
  obtain⟨f,m,n⟩:=k.cont i (e.aK r) aa (by rw [ac.Ci];exact h2) g;rw [J.ui,gy]at f;refine⟨f,m,λj bt d=> ?_⟩;obtain⟨x,g1,g2,g3⟩:=n j (bt.aK r) (by rw [J.ui,fc,d];rfl);exact⟨x,g1,aB.iv h ((al e (fR c)).cells bt (fR d)) g2,g3⟩
theorem Row.at{φ cc:Map}(h:φ.le cc){S:Nat->Prop}{b:ac}{v:Nat}{p:Place}{w aZ:World}(k:Row φ S b v p w)(hs:w.heap.size<=aZ.heap.size)(a:aZ.heap[p.bH]? =w.heap[p.bH]?):Row cc S b v p aZ where
 bH:=iN k.bH hs
 base:=k.base
 cells o c:=by have:=k.cells o c;simp only [World.cell?,a]at this⊢; exact this
 free d o c:=by have:=k.free d o c;simp only [World.frozen?,a]at this⊢; exact this
 mark d:=(k.mark d).of_eq (ol a)
 ha t g:=by rw [ol a];exact k.ha t g
 cont i e aa h2 f:=by obtain⟨m,n,q⟩:=k.cont i e aa h2 f;refine⟨m,n,λj bt l=> ?_⟩;obtain⟨x,g1,g2,g3⟩:=q j bt l;refine⟨x,?_,aB.mono h g2,g3⟩;simp only [World.cell?,Place.at,a]at g1⊢; exact g1
def In(h:T)(i:Nat):Prop:=(h.get i).isSome=true
structure uj(r:Nat->Nat)(h H:T):Prop where
 get:∀i b,h.get i=some b->i<h.Y/\H.get (r i)=some (b.aK r)
 inj:∀i j,In h i->In h j->r i=r j->i=j
 dh:∀i b,h.get i=some b-> ∀e∈b.aQ,bQ (In h) e
open Classical in
def gC(cc:Map)(r:Nat->Nat)(h:T):Map:=λi v=>if In h i then cc (r i) v else none
theorem ix{cc:Map}{r:Nat->Nat}{h:T}{i v:Nat}{p:Place}(k:gC cc r h i v=some p):In h i/\cc (r i) v=some p:=by
 unfold gC at k;split at k
 .rename_i ah;exact⟨ah,k⟩
 .cases k
theorem lU{cc:Map}{r:Nat->Nat}{h:T}{i v:Nat}(ah:In h i):gC cc r h i v=cc (r i) v:=by unfold gC;rw [aE ah]
theorem cg.gC{cc:Map}{S l:Nat->Prop}{H h:T}{w:World}{r:Nat->Nat}(k:cg cc S H w)(hw:uj r h H)(m:∀i v p,gC cc r h i v=some p->p.ro=false-> ¬l p.bH):cg (gC cc r h) l h w where
 cI i v p ae:=by obtain⟨ah,c⟩:=ix ae;obtain⟨b,a⟩:=tq.1 ah;obtain⟨aa,h2⟩:=hw.get i b a;obtain⟨C,B,g,s,t,x,y,z,A⟩:=k.cI _ _ _ c;rw [h2]at g;simp only [a6]at g;subst g;exact⟨aa,b,a,s,t,x,y,z,A.iv (λi ah v p ae=>by rw [lU ah];exact ae) (hw.dh i b a) (m i v p ae)⟩
 apart i v p j u q ae c a o:=by obtain⟨ah,d⟩:=ix ae;obtain⟨n,f⟩:=ix c;exact k.apart _ _ _ _ _ _ d f a λe=>o (hw.inj i j ah n e)
 same i v p u q ae c a:=by obtain⟨ah,d⟩:=ix ae;obtain⟨_,f⟩:=ix c;exact k.same _ _ _ _ _ d f a
class hM (C:(Nat->Prop)->World->Prop):Prop where
 mono:∀{aM rA:Nat->Prop}{aS w:World},dN aM aS.heap.size->C aM aS->Safe aM aS w->(∀x,aM x->rA x)->C rA w
def bl(P:Program)(C:(Nat->Prop)->World->Prop)(f:FuncId)(args:List J)(h:T)(v:J)(ad:T):Prop :=
 ∀(aM:Nat->Prop)(aS:World),dN aM aS.heap.size->C aM aS-> ∀(φ:Map)(w:World)(b:Array Value),cg φ aM h w->Safe aM aS w->bc φ args b.toList ->
  (∃fn c,P.funcs[f]? =some fn/\fn.body=some c) /\
  Calls P f b w λe aZ=> ∃d a,e=.returned d/\dH φ a h.Y/\aB a v d/\cg a aM ad aZ/\Safe aM aS aZ/\h.Y<=ad.Y
theorem bl.pP{P:Program}{E:a'}(d:e4 P E)(i:P.follows .mixedOrders=true){n:Nat}{f:FuncId}{args:List J}{h ad:T}{v:J}(al:iZ P E n f args h=some (v,ad)):bl P E.cond f args h v ad :=
 λaM aS g ef φ w a e c b=>J1 d g ef i n f args h v ad al φ w a e c b
open Classical in
def push(cc a:Map)(r:Nat->Nat):Map:=λj u=>if k:∃i p,r i=j/\a i u=some p then a k.choose u else cc j u
theorem bl.frame{P:Program}{C:(Nat->Prop)->World->Prop}[a4:hM C]{f:FuncId}{args:List J}{h ad:T}{v:J}(k:bl P C f args h v ad){r:Nat->Nat}{H H':T}(hw:uj r h H)(a9:dI (In h) args)
 (D:∀i,h.Y<=i->r i=H.Y+(i-h.Y)) (bv:∀i b,ad.get i=some b->(In h i\/h.Y<=i)->H'.get (r i)=some (b.aK r)) (ct:H'.Y=H.Y+(ad.Y-h.Y))
 (c0:∀j,j<H.Y->(∀i,In h i->r i≠j)->H'.get j=H.get j):bl P C f (args.map (J.aK r)) H (v.aK r) H':=by
 intro S aS X a5 cc w R s N W
 let φ:=gC cc r h
 let K:Nat->Prop:=λx=>S x\/(x<w.heap.size/\∀i v p,φ i v=some p->p.ro=false->p.bH≠x)
 have co:dN K w.heap.size:=by
  rintro x (n|n)
  .exact iN (X x n) N.size
  .exact n.1
 have bn:∀i v p,φ i v=some p->p.ro=false-> ¬K p.bH:=by
  rintro i v p ae z (n|n)
  .obtain⟨_,a⟩:=ix ae;obtain⟨_,B,_,_,_,_,_,_,M⟩:=s.cI _ _ _ a;exact M.base z n
  .exact n.2 i v p ae z rfl
 have c3:cg φ K h w:=s.gC hw bn
 have a3:bc φ args R.toList:=by rw [<-J.xN]at W;exact bc.iv (λi ah v p ae=>by show gC cc r h i v=some p;rw [lU ah];exact ae) a9 W
 obtain⟨l,al⟩:=k K w co (a4.mono X a5 N λx n=> .inl n) φ w R c3 (Safe.refl _ _) a3;refine⟨l,al.mono λe aZ ⟨c4,d,he,F,c2,L,hs,az⟩=> ?_⟩
 have E:∀i u p,d i u=some p->(In h i/\r i<H.Y)\/h.Y<=i:=by
  intro i u p ae;by_cases ah:i<h.Y
  .by_cases Z:In h i
   .left;refine⟨Z,?_⟩;by_cases hex:∃a2 av,φ i a2=some av
    .obtain⟨a2,av,aN⟩:=hex;exact(s.cI _ _ _ (ix aN).2).1
    .have:=F.new i ah (λu=>by
      cases a:φ i u with
      |none=>rfl
      |some q=>exact absurd ⟨u,q,a⟩ hex) u
     rw [this]at ae;cases ae
   .have:=F.new i ah (λu=>by show gC cc r h i u=none;unfold bh.gC;rw [ap Z]) u;rw [this]at ae;cases ae
  .exact .inr V
 have na:∀i j u t p q,d i u=some p->d j t=some q->r i=r j->i=j:=by
  intro i j u t p q ae a e;rcases E i u p ae with ⟨ah,O⟩|ah<;>rcases E j t q a with ⟨G,c5⟩|G
  .exact hw.inj i j ah G e
  .rw [D j G]at e;omega
  .rw [D i ah]at e;omega
  .rw [D i ah,D j G]at e;omega
 have cq:∀i u p,d i u=some p->push cc d r (r i) u=some p:=by
  intro i u p ae;have hex:∃c m,r c=r i/\d c u=some m:=⟨i,p,rfl,ae⟩
  unfold push;rw [dif_pos hex];obtain⟨m,aI,aO⟩:=hex.choose_spec;rw [na _ _ _ _ _ _ aO ae aI];exact ae
 have cn:∀j u,(¬∃i p,r i=j/\d i u=some p)->push cc d r j u=cc j u:=by intro j u hex;unfold push;rw [dif_neg hex]
 have ei:∀j u p,cc j u=some p->(¬∃i p,r i=j/\d i u=some p)-> ∀i,In h i->r i≠j:=by
  intro j u p ae hex i ah e;subst e;have aa:φ i u=some p:=by show gC cc r h i u=some p;rw [lU ah];exact ae
  exact hex ⟨i,p,rfl,F.le _ _ _ aa⟩
 have hE:(cc:Map).le (push cc d r):=by
  intro j u p ae;by_cases hex:∃i p,r i=j/\d i u=some p
  .obtain⟨i,q,rfl,a⟩:=hex;rw [cq i u q a];rcases E i u q a with ⟨ah,O⟩|ah
   .have aa:φ i u=some p:=by show gC cc r h i u=some p;rw [lU ah];exact ae
    rw [F.le _ _ _ aa]at a;exact a.symm
   .have:=(s.cI _ _ _ ae).1;rw [D i ah]at this;omega
  .rw [cn j u hex];exact ae
 have U:∀j u p,cc j u=some p->(∀i,In h i->r i≠j)->K p.bH:=by intro j u p ae A;obtain⟨_,B,_,_,_,_,_,_,M⟩:=s.cI _ _ _ ae;refine .inr ⟨M.bH,λi v q a z e=> ?_⟩;obtain⟨ah,y⟩:=ix a;have:=(s.apart _ _ _ _ _ _ y ae e (A i ah)).1;rw [z]at this;cases this
 refine⟨c4,push cc d r,he,⟨hE,?_,?_⟩,aB.aK cq c2,⟨?_,?_,?_⟩,N.trans (hs.less λi ah=> .inl ah),V⟩
 .intro j G am u;by_cases hex:∃i p,r i=j/\d i u=some p
  .obtain⟨i,q,rfl,a⟩:=hex;rcases E i u q a with ⟨ah,O⟩|ah
   .have b2:i<h.Y:=by obtain⟨b,l⟩:=tq.1 ah;exact(hw.get i b l).1
    have:=F.new i b2 (λu=>by show gC cc r h i u=none;rw [lU ah];exact am u) u;rw [this]at a;cases a
   .rw [D i ah]at G;omega
  .rw [cn j u hex];exact am u
 .intro j u p ae z;by_cases hex:∃i p,r i=j/\d i u=some p
  .obtain⟨i,q,rfl,a⟩:=hex;rw [cq i u q a]at ae;simp only [a6]at ae;subst ae;exact(ix (F.ro i u q a z)).2
  .rw [cn j u hex]at ae;exact ae
 .intro j u p ae;by_cases hex:∃i p,r i=j/\d i u=some p
  .obtain⟨i,q,rfl,a⟩:=hex;rw [cq i u q a]at ae;simp only [a6]at ae;subst ae;obtain⟨d1,b,d2,d3,d4,d5,d6,d7,d8⟩:=L.cI _ _ _ a
   have ce:In h i\/h.Y<=i:=by
    rcases E i u q a with ⟨ah,_⟩|ah
    .exact .inl ah
    .exact .inr ah
   refine⟨?_,b.aK r,bv i b d2 ce,d3,d4,d5,d6,d7,d8.aK cq λz n=>d8.base z (.inl n)⟩;rcases E i u q a with ⟨_,O⟩|ah
   .omega
   .rw [D i ah,ct];omega
  .rw [cn j u hex]at ae;obtain⟨d1,B,d2,d3,d4,d5,d6,d7,d8⟩:=s.cI _ _ _ ae;have A:=ei j u p ae hex;exact⟨V,B,by rw [c0 j d1 A];exact d2,d3,d4,d5,d6,d7,d8.at hE hs.size (hs.block _ (U j u p ae A))⟩
 .have mixed:∀i u p j t q,d i u=some p->cc j t=some q->(∀i,In h i->r i≠j)->p.bH=q.bH->p.ro=true/\q.ro=true:=by
   intro i u p j t q ae a A l;have n:=U j t q a A;by_cases z:p.ro=true
   .obtain⟨ah,g⟩:=ix (F.ro i u p ae z);exact s.apart _ _ _ _ _ _ g a l (A i ah)
   .obtain⟨_,b,_,_,_,_,_,_,d8⟩:=L.cI _ _ _ ae;exact absurd (l▸n) (d8.base (by simpa using z))
  intro i u p j t q ae a l A;by_cases hex:∃c p,r c=i/\d c u=some p<;>by_cases o:∃c p,r c=j/\d c t=some p
  .obtain⟨c,m,rfl,g⟩:=hex;obtain⟨I,a0,rfl,y⟩:=o;rw [cq _ _ _ g]at ae;rw [cq _ _ _ y]at a;simp only [a6]at ae a;subst ae;subst a;exact L.apart _ _ _ _ _ _ g y l λe=>A (by rw [e])
  .obtain⟨c,m,rfl,g⟩:=hex;rw [cq _ _ _ g]at ae;rw [cn _ _ o]at a;simp only [a6]at ae;subst ae;exact mixed _ _ _ _ _ _ g a (ei j t q a o) l
  .obtain⟨I,a0,rfl,y⟩:=o;rw [cn _ _ hex]at ae;rw [cq _ _ _ y]at a;simp only [a6]at a;subst a;exact(mixed _ _ _ _ _ _ y ae (ei i u p ae hex) l.symm).symm
  .rw [cn _ _ hex]at ae;rw [cn _ _ o]at a;exact s.apart _ _ _ _ _ _ ae a l A
 .intro i u p t q ae a l
  have both:∀c m,r c=i-> ∀Q,d c Q=some m-> ∀t q,push cc d r i t=some q->d c t=some q:=by
   intro c m e Q g t q a;by_cases o:∃I p,r I=i/\d I t=some p
   .obtain⟨I,a0,aO,y⟩:=o;have:=na c I _ _ _ _ g y (by rw [e,aO]);subst this;rw [<-aO,cq _ _ _ y]at a;rw [y];exact a
   .rw [cn _ _ o]at a;rcases E c Q m g with ⟨ah,_⟩|ah
    .exact absurd e (ei i t q a o c ah)
    .have:=(s.cI _ _ _ a).1;rw [<-e,D c ah]at this;omega
  by_cases hex:∃c p,r c=i/\d c u=some p
  .obtain⟨c,m,e,g⟩:=hex;exact L.same c _ _ _ _ (both c m e u g u p ae) (both c m e u g t q a) l
  .by_cases o:∃c p,r c=i/\d c t=some p
   .obtain⟨c,m,e,g⟩:=o;exact L.same c _ _ _ _ (both c m e t g u p ae) (both c m e t g t q a) l
   .rw [cn _ _ hex]at ae;rw [cn _ _ o]at a;exact s.same _ _ _ _ _ ae a l
end
noncomputable section
section
variable {β:Type}
def e6(n:Nat)(k:Nat->β):β:=Nat.rec (motive:=λ_=>β) (k 0) (λm _=>k (Nat.succ m)) n
theorem jL(n:Nat)(k:Nat->β):e6 n k=k n:=by cases n<;>rfl
def xO(n:Int)(k:Int->β):β :=
 match n with
 |.ofNat m=>e6 m λm=>k (.ofNat m)
 |.negSucc m=>e6 m λm=>k (.negSucc m)
theorem J6(n:Int)(k:Int->β):xO n k=k n:=by cases n<;>simp [xO,jL]
def Cj(d:IntKind)(k:IntKind->β):β :=
 match d with
 |.i8=>k .i8|.i16=>k .i16|.i32=>k .i32|.i64=>k .i64|.u8=>k .u8|.u16=>k .u16|.u32=>k .u32|.u64=>k .u64
theorem J7(d:IntKind)(k:IntKind->β):Cj d k=k d:=by cases d<;>rfl
def pQ(b:Bool)(k:Bool->β):β :=
 match b with
 |true=>k true
 |false=>k false
theorem Ck(b:Bool)(k:Bool->β):pQ b k=k b:=by cases b<;>rfl
def uk(a:aT)(k:aT->β):β :=
 match a with
 |⟨a,b,c,d,e⟩=>e6 a λa=>e6 b λb=>e6 c λc=>e6 d λd=>e6 e λe=>k ⟨a,b,c,d,e⟩
theorem Cl(a:aT)(k:aT->β):uk a k=k a:=by cases a;simp [uk,jL]
def xP(b:UInt8)(k:UInt8->β):β :=
 match b with
 |⟨⟨⟨n,h⟩⟩⟩=>e6 n λm=>k (UInt8.ofNat m)
theorem J8(b:UInt8)(k:UInt8->β):xP b k=k b:=by
 obtain⟨⟨⟨n,h⟩⟩⟩:=b;simp only [xP,jL]
 congr 1
 apply fq.1;simp [UInt8.toNat,UInt8.ofNat];omega
def ul:List UInt8->(List UInt8->β)->β
 |[],k=>k []
 |b::r,k=>xP b λb=>ul r λr=>k (b::r)
theorem Cm:∀(l:List UInt8)(k:List UInt8->β),ul l k=k l
 |[],k=>rfl
 |b::r,k=>by simp only [ul,J8,Cm r]
def oy(v:J)(k:J->β):β :=
 match v with
 |.undef=>k .undef
 |.bool b=>pQ b λb=>k (.bool b)
 |.int d n=>Cj d λd=>xO n λn=>k (.int d n)
 |.str s=>ul s λs=>k (.str s)
 |.ptr none=>k (.ptr none)
 |.ptr (some a)=>uk a λa=>k (.ptr (some a))
 |.slice none n c=>e6 n λn=>e6 c λc=>k (.slice none n c)
 |.slice (some a) n c=>uk a λa=>e6 n λn=>e6 c λc=>k (.slice (some a) n c)
 |.nilFunc=>k .nilFunc
 |.nilIface=>k .nilIface
 |.func a b c=>k (.func a b c)
 |.iface t v=>k (.iface t v)
 |.agg l=>k (.agg l)
 |.tuple l=>k (.tuple l)
theorem Cn(v:J)(k:J->β):oy v k=k v:=by
 cases v with
 |ptr o=>cases o<;>simp [oy,Cl]
 |slice o n c=>cases o<;>simp [oy,Cl,jL]
 |_=>simp [oy,Ck,J7,J6,Cm]
def oz:List J->(List J->β)->β
 |[],k=>k []
 |a::r,k=>oy a λa=>oz r λr=>k (a::r)
theorem Co:∀(l:List J)(k:List J->β),oz l k=k l
 |[],k=>rfl
 |a::r,k=>by simp only [oz,Cn,Co r]
def rB(v:J)(k:J->β):β :=
 match v with
 |.agg l=>oz l λl=>k (.agg l)
 |.iface t v=>e6 t λt=>oy v λv=>k (.iface t v)
 |.func a b c=>oz b λb=>oz c λc=>k (.func a b c)
 |.tuple l=>oz l λl=>k (.tuple l)
 |v=>oy v k
theorem Cp(v:J)(k:J->β):rB v k=k v:=by unfold rB;split<;>simp [Cn,Co,jL]
def pR:List J->(List J->β)->β
 |[],k=>k []
 |a::r,k=>rB a λa=>pR r λr=>k (a::r)
theorem xQ:∀(l:List J)(k:List J->β),pR l k=k l
 |[],k=>rfl
 |a::r,k=>by simp only [pR,Cp,xQ r]
def rC(v:J)(k:J->β):β :=
 match v with
 |.tuple l=>pR l λl=>k (.tuple l)
 |.iface t v=>e6 t λt=>rB v λv=>k (.iface t v)
 |v=>rB v k
theorem xR(v:J)(k:J->β):rC v k=k v:=by unfold rC;split<;>simp [Cp,xQ,jL]
def xS(b:ac)(k:ac->β):β :=
 match b with
 |⟨l,es,ex,ro,v,m,f,none⟩=>pR l λl=>e6 es λes=>pQ ex λex=>pQ ro λro=>e6 v λv=>e6 m λm=>e6 f λf=>k ⟨l,es,ex,ro,v,m,f,none⟩
 |⟨l,es,ex,ro,v,m,f,some (t,n)⟩=>pR l λl=>e6 es λes=>pQ ex λex=>pQ ro λro=>e6 v λv=>e6 m λm=>e6 f λf=>k ⟨l,es,ex,ro,v,m,f,some (t,n)⟩
theorem J9(b:ac)(k:ac->β):xS b k=k b:=by obtain⟨l,es,ex,ro,v,m,f,ty⟩:=b;cases ty<;>simp [xS,xQ,jL,Ck]
def eC(n:Nat)(t:aF J):List J:=(List.range n).map λi=>(t.get i).getD eN
theorem um(n:Nat)(t:aF J)(i:Nat):(eC n t)[i]? =if i<n then some ((t.get i).getD eN)else none:=by
 simp only [eC,fc];by_cases h:i<n
 .rw [tr h,aE h];rfl
 .rw [hV (by simpa using h),ap h];rfl
def uo(n:Nat)(t:aF J)(i:Nat):Option J:=cond (Nat.blt i n) (some (Option.rec (motive:=λ_=>J) eN (λv=>v) (t.get i))) none
theorem Cq(n:Nat)(t:aF J)(i:Nat):uo n t i=(eC n t)[i]? :=by
 rw [um];unfold uo;by_cases h:i<n
 .rw [show Nat.blt i n=true by simpa [eH]using h,aE h];cases t.get i<;>rfl
 .rw [show Nat.blt i n=false by cases a:Nat.blt i n with|false=>rfl|true=>exact absurd (eH.mp a) h,ap h];rfl
def jc(n:Nat)(t:aF J)(o:Operand):J :=
 match o with
 |.tmp i=>cond (Nat.blt i n) (Option.rec (motive:=λ_=>J) eN (λv=>v) (t.get i)) .undef
 |.const v=>mM v
 |.global _=> .undef
 |.func f=> .func (.func f) [] []
theorem rD(n:Nat)(t:aF J):jc n t=cp (eC n t):=by
 funext o
 cases o with
 |tmp i =>
  have:=Cq n t i;simp only [cp,gf,<-this];unfold uo;show cond (Nat.blt i n) (Option.rec (motive:=λ_=>J) eN (λv=>v) (t.get i)) .undef=_;cases Nat.blt i n<;>rfl
 |const v=>rfl
 |global g=>rfl
 |func f=>rfl
theorem J'(n:Nat)(t:aF J)(d:Nat)(v:J):eC n (t.set d v)=(eC n t).set d v:=by
 apply pn;intro i;rw [um,List.getElem?_set,um];by_cases h:i<n
 .simp only [h,dy,aF.h4];by_cases a:d=i
  .subst a;simp [eC,h]
  .simp [a]
 .simp only [h,ey];by_cases a:d=i
  .subst a;simp [eC,h]
  .simp [a]
section
variable {α:Type}
def uq(f:Nat):Nat->α->(aF α->β)->β :=
 Nat.rec (motive:=λ_=>Nat->α->(aF α->β)->β) (λ_ v c=>c (.node (some v) .nil .nil))
  (λ_ ih k v c=>cond (Nat.beq k 0) (c (.node (some v) .nil .nil)) (cond (Nat.beq (Nat.mod k 2) 1) (ih (Nat.div k 2) v λu=>c (.node none u .nil)) (ih (Nat.sub (Nat.div k 2) 1) v λu=>c (.node none .nil u)))) f
theorem xT:∀(f k:Nat)(v:α)(c:aF α->β),uq f k v c=c (aF.fW f k v)
 |0,k,v,c=>rfl
 |f +1,k,v,c=>by
  show cond (Nat.beq k 0) (c (.node (some v) .nil .nil)) (cond (Nat.beq (k%2) 1) (uq f (k/2) v λu=>c (.node none u .nil)) (uq f (k/2-1) v λu=>c (.node none .nil u))) =
   c (cond (Nat.beq k 0) (.node (some v) .nil .nil) (cond (Nat.beq (k%2) 1) (.node none (aF.fW f (k/2) v) .nil) (.node none .nil (aF.fW f (k/2-1) v))))
  rw [xT f,xT f];cases Nat.beq k 0<;>cases Nat.beq (k%2) 1<;>rfl
def rE(t:aF α):Nat->α->(aF α->β)->β :=
 aF.rec (motive:=λ_=>Nat->α->(aF α->β)->β) (λk v c=>uq k k v c)
  (λo l r ez a k v c=>cond (Nat.beq k 0) (c (.node (some v) l r)) (cond (Nat.beq (Nat.mod k 2) 1) (ez (Nat.div k 2) v λu=>c (.node o u r)) (a (Nat.sub (Nat.div k 2) 1) v λu=>c (.node o l u)))) t
theorem ur:∀(t:aF α)(k:Nat)(v:α)(c:aF α->β),rE t k v c=c (t.set k v)
 |.nil,k,v,c=>xT k k v c
 |.node o l r,k,v,c=>by
  show cond (Nat.beq k 0) (c (.node (some v) l r)) (cond (Nat.beq (k%2) 1) (rE l (k/2) v λu=>c (.node o u r)) (rE r (k/2-1) v λu=>c (.node o l u))) =
   c (cond (Nat.beq k 0) (.node (some v) l r) (cond (Nat.beq (k%2) 1) (.node o (l.set (k/2) v) r) (.node o l (r.set (k/2-1) v))))
  rw [ur l,ur r];cases Nat.beq k 0<;>cases Nat.beq (k%2) 1<;>rfl
def us(f:α->(α->β)->β)(t:aF α):Nat->(aF α->β)->β :=
 aF.rec (motive:=λ_=>Nat->(aF α->β)->β) (λ_ c=>c .nil)
  (λo l r a b6 k c=>cond (Nat.beq k 0) (Option.rec (motive:=λ_=>β) (c (.node none l r)) (λb=>f b λb=>c (.node (some b) l r)) o) (cond (Nat.beq (Nat.mod k 2) 1) (a (Nat.div k 2) λu=>c (.node o u r)) (b6 (Nat.sub (Nat.div k 2) 1) λu=>c (.node o l u)))) t
theorem xU{f:α->(α->β)->β}(d:∀a k,f a k=k a):∀(t:aF α)(k:Nat)(c:aF α->β),us f t k c=c t
 |.nil,k,c=>rfl
 |.node o l r,k,c=>by show cond (Nat.beq k 0) (Option.rec (motive:=λ_=>β) (c (.node none l r)) (λb=>f b λb=>c (.node (some b) l r)) o) (cond (Nat.beq (k%2) 1) (us f l (k/2) λu=>c (.node o u r)) (us f r (k/2-1) λu=>c (.node o l u)))=_;rw [xU d l,xU d r];cases o<;>cases Nat.beq k 0<;>cases Nat.beq (k%2) 1<;>simp [d]
end
def pS(s:aF J)(d:Option Tmp)(v:J)(k:aF J->β):β:=Option.rec (motive:=λ_=>β) (k s) (λd=>rE s d v k) d
theorem Ka(n:Nat)(s:aF J)(d:Option Tmp)(v:J)(k:aF J->β):pS s d v k=k (Option.rec (motive:=λ_=>aF J) s (λd=>s.set d v) d):=by cases d<;>simp [pS,ur]
theorem uu(n:Nat)(s:aF J)(d:Option Tmp)(v:J):eC n (Option.rec (motive:=λ_=>aF J) s (λd=>s.set d v) d)=fJ (eC n s) d v:=by cases d<;>simp [fJ,J']
def xV(id:Nat)(h:T)(k:T->β):β :=
 match h with
 |⟨n,l⟩=>us xS l id λl=>k ⟨n,l⟩
theorem Kb(id:Nat)(h:T)(k:T->β):xV id h k=k h:=by cases h;simp [xV,xU J9]
def xW(h:T)(k:T->β):β :=
 match h with
 |⟨n,l⟩=>e6 n λn=>k ⟨n,l⟩
theorem Kc(h:T)(k:T->β):xW h k=k h:=by cases h;simp [xW,jL]
inductive xX where
 |no|at (id:Nat)|all
def uv(t:xX)(h:T)(k:T->β):β :=
 match t with
 |.no=>k h
 |.at id=>xV id h k
 |.all=>xW h k
theorem Kd(t:xX)(h:T)(k:T->β):uv t h k=k h:=by cases t<;>simp [uv,Kb,Kc]
def Cr(v:J)(k:J->β):β :=
 match v with
 |.undef=>k .undef
 |.bool b=>k (.bool b)
 |.int d n=>k (.int d n)
 |.str s=>k (.str s)
 |.ptr a=>k (.ptr a)
 |.slice a n c=>k (.slice a n c)
 |.nilFunc=>k .nilFunc
 |.nilIface=>k .nilIface
 |.func a b c=>k (.func a b c)
 |.iface t v=>k (.iface t v)
 |.agg l=>k (.agg l)
 |.tuple l=>k (.tuple l)
theorem Ke(v:J)(k:J->β):Cr v k=k v:=by cases v<;>rfl
def shallow(o:Op):Bool :=
 match o with
 |.move (.tmp _)|.assign (.tmp _)|.pick _ (.tmp _) (.tmp _)|.extract _ _|.load _ _=>true
 |.call c=>match c.callee with|.value _=>true|_=>false
 |_=>false
def uw(o:Op)(v:J)(k:J->β):β:=cond (shallow o) (Cr v k) (rC v k)
theorem Kf(o:Op)(v:J)(k:J->β):uw o v k=k v:=by unfold uw;cases shallow o<;>simp [Ke,xR]
end
def Cs(nid:Nat)(ρ:Operand->J)(o:Op)(v:J):xX :=
 match o with
 |.alloc _|.box _ _|.buildSlice _ _ _|.makeSlice _ _ _=> .at nid
 |.store _ a _=>match ρ a with|.ptr (some a)=> .at a.id|_=> .no
 |.call c =>
  match c.callee with
  |.value _=> .all
  |.builtin .append=>match v with|.slice (some a) _ _=> .at a.id|_=> .no
  |_=> .no
 |.convert _ _ _=>match v with|.slice (some a) _ _=> .at a.id|_=> .no
 |_=> .no
section
variable {E:a'}
def rF(ops:Array Oper)(n:Nat)(s:aF J)(o:Oper):Option Bool :=
 match o.guard with
 |none=>some true
 |some (j,want) =>
  match (ops[j]?).bind (·.dst)with
  |some d =>
   match uo n s d with
   |some (.bool b)=>some (b == want)
   |some (.tuple [])=>some false
   |_=>none
  |none=>none
theorem Ct(ops:Array Oper)(n:Nat)(s:aF J)(o:Oper):rF ops n s o=gZ ops (eC n s) o:=by unfold rF gZ;simp only [Cq];rfl
structure gm where
 dA:aF J
 heap:T
def gm.to(n:Nat)(s:gm):dM:=⟨eC n s.dA,s.heap⟩
def nb(E:a')(call:cJ)(ops:Array Oper)(draw:Bool)(n a:Nat)(l:List Oper):Nat->aF J->T->Option gm :=
 List.rec (motive:=λ_=>Nat->aF J->T->Option gm) (λ_ s h=>some ⟨s,h⟩)
  (λo _ ih i s h =>
   match rF ops n s o with
   |some true =>
    match (cond draw (dU E call ops a i (jc n s) h o.op) (gY E call (Nat.add a i) (jc n s) h o.op))with
    |some (v,ad)=>uw o.op v λv=>uv (Cs (Nat.add a i) (jc n s) o.op v) ad λad=>pS s o.dst v λb=>ih (Nat.succ i) b ad
    |none=>none
   |some false=>pS s o.dst eN λb=>ih (Nat.succ i) b h
   |none=>none) l
theorem Cu(call:cJ)(ops:Array Oper)(draw:Bool)(n a i:Nat)(s:aF J)(h:T)(o:Oper)(r:List Oper):nb E call ops draw n a (o::r) i s h =
 match rF ops n s o with
 |some true =>
  match (cond draw (dU E call ops a i (jc n s) h o.op) (gY E call (a+i) (jc n s) h o.op))with
  |some (v,ad)=>nb E call ops draw n a r (i+1) (Option.rec (motive:=λ_=>aF J) s (λd=>s.set d v) o.dst) ad
  |none=>none
 |some false=>nb E call ops draw n a r (i+1) (Option.rec (motive:=λ_=>aF J) s (λd=>s.set d eN) o.dst) h
 |none=>none:=by
 show (match rF ops n s o with
  |some true =>
   match (cond draw (dU E call ops a i (jc n s) h o.op) (gY E call (a+i) (jc n s) h o.op))with
   |some (v,ad)=>uw o.op v λv=>uv (Cs (a+i) (jc n s) o.op v) ad λad=>pS s o.dst v λb=>nb E call ops draw n a r (i+1) b ad
   |none=>none
  |some false=>pS s o.dst eN λb=>nb E call ops draw n a r (i+1) b h
  |none=>none)=_
 simp only [Kf,Kd,Ka n]
theorem xY{call:cJ}{ops:Array Oper}{n a:Nat} :∀(l:List Oper)(i:Nat)(s:aF J)(h:T),(∀j,l[j]? =ops[i+j]?) ->
 (nb E call ops false n a l i s h).map (gm.to n)=k2 E call ops a (List.range' i l.length) ⟨eC n s,h⟩
 |[],i,s,h,_=>rfl
 |o ::r,i,s,h,c=>by
  have e:ops[i]? =some o:=by have:=c 0;simpa using this.symm
  have d:∀j,r[j]? =ops[i+1+j]? :=λj=>by have:=c (j+1);simp at this;rw [this];congr 1;omega
  rw [Cu];simp only [b',qW,k2,mR,e,Ct,rD,cond_false];cases hw:gZ ops (eC n s) o with
  |none=>rfl
  |some b =>
   cases b with
   |true =>
    simp only;cases f:gY E call (a+i) (cp (eC n s)) h o.op with
    |none=>rfl
    |some p =>
     obtain⟨v,ad⟩:=p;simp only;rw [xY r (i+1) _ _ d,uu]
   |false =>
    simp only;rw [xY r (i+1) _ _ d,uu]
theorem xZ{call:cJ}{ops:Array Oper}{n a:Nat} :∀(l:List Oper)(i:Nat)(s:aF J)(h:T),(∀j,l[j]? =ops[i+j]?) ->
 (nb E call ops true n a l i s h).map (gm.to n)=hl E call ops a (List.range' i l.length) ⟨eC n s,h⟩
 |[],i,s,h,_=>rfl
 |o ::r,i,s,h,c=>by
  have e:ops[i]? =some o:=by have:=c 0;simpa using this.symm
  have d:∀j,r[j]? =ops[i+1+j]? :=λj=>by have:=c (j+1);simp at this;rw [this];congr 1;omega
  rw [Cu];simp only [b',qW,hl,iY,e,Ct,rD,cond_true];cases hw:gZ ops (eC n s) o with
  |none=>rfl
  |some b =>
   cases b with
   |true =>
    simp only;cases f:dU E call ops a i (cp (eC n s)) h o.op with
    |none=>rfl
    |some p =>
     obtain⟨v,ad⟩:=p;simp only;rw [xZ r (i+1) _ _ d,uu]
   |false =>
    simp only;rw [xZ r (i+1) _ _ d,uu]
def rG(E:a')(call:cJ)(ops:Array Oper)(draw:Bool)(n:Nat)(s:gm):Option gm :=
 match s with
 |⟨s,⟨a,l⟩⟩=>cond (!draw || lQ ops) (e6 (Nat.add a ops.size) λm=>nb E call ops draw n a ops.toList 0 s ⟨m,l⟩) none
theorem Kg(call:cJ)(ops:Array Oper)(draw:Bool)(n:Nat)(s:gm):(rG E call ops draw n s).map (gm.to n)=oj E call ops draw (s.to n):=by
 obtain⟨s,d,l⟩:=s;have a:∀j:Nat,ops.toList[j]? =ops[0+j]? :=λj=> an
 have b:List.range ops.size=List.range' 0 ops.toList.length:=by rw [qX,gh]
 unfold rG oj;cases draw with
 |false=>simp only [Bool.not_false,Bool.true_or,cond_true,jL,ew,ey,xY _ _ _ _ a,b,gm.to,Nat.add_eq]
 |true =>
  cases c:lQ ops with
  |false=>simp
  |true=>simp only [Bool.not_true,Bool.false_or,c,cond_true,dy,jL,xZ _ _ _ _ a,b,gm.to,Nat.add_eq]
def hn(E:a')(call:cJ)(n e:Nat):Option Code->Code->gm->Option (bW×gm) :=
 Nat.rec (motive:=λ_=>Option Code->Code->gm->Option (bW×gm)) (λ_ _ _=>none)
 (λm ih b c s =>
 match b with
 |some body =>
  match ih none c s with
  |some (.goto l,d) =>
   match findLabel body l with
   |some rest=>ih (some body) rest d
   |none=>some (.goto l,d)
  |r=>r
 |none =>
  match c with
  |.skip=>some (.normal,s)
  |.label _=>some (.normal,s)
  |.region _ ops draw =>
   match rG E call ops draw n s with
   |some d=>some (.normal,d)
   |none=>none
  |.seq a b =>
   match ih none a s with
   |some (.normal,d)=>ih none b d
   |r=>r
  |.cond x a b =>
   match jc n s.dA x with
   |.bool true=>ih none a s
   |.bool false=>ih none b s
   |_=>none
  |.block id c =>
   match ih none c s with
   |some (.exit j,d)=>some (if j=id then .normal else .exit j,d)
   |r=>r
  |.loop c =>
   match ih none c s with
   |some (.normal,d)=>ih none (.loop c) d
   |r=>r
  |.scope c=>ih (some c) c s
  |.goto l=>some (.goto l,s)
  |.exit id=>some (.exit id,s)
  |.ret=>some (.ret,s)
  |_=>none) e
def lV(n:Nat)(p:bW×gm):bW×dM:=(p.1,p.2.to n)
theorem Kh(call:cJ)(k:Nat):∀(n:Nat)(b:Option Code)(c:Code)(s:gm),(hn E call k n b c s).map (lV k)=dD E call n b c (s.to k):=by
 intro n;induction n with
 |zero=>intro b c s;rfl
 |succ n ih =>
  intro b c s;cases b with
  |some body =>
   show Option.map (lV k) (match hn E call k n none c s with
    |some (.goto l,d) =>
     match findLabel body l with
     |some rest=>hn E call k n (some body) rest d
     |none=>some (.goto l,d)
    |r=>r)=_
   simp only [dD,<-ih];cases f:hn E call k n none c s with
   |none=>rfl
   |some p =>
    obtain⟨e,d⟩:=p;cases e with
    |goto l =>
     simp only [ev,lV];cases g:findLabel body l with
     |none=>rfl
     |some rest=>simp only [g];exact ih (some body) rest d
    |_=>rfl
  |none =>
   cases c
   case region id ops draw =>
    show Option.map (lV k) (match rG E call ops draw k s with
     |some d=>some (.normal,d)
     |none=>none)=_
    simp only [dD,<-Kg];cases rG E call ops draw k s<;>rfl
   case seq a b =>
    show Option.map (lV k) (match hn E call k n none a s with
     |some (.normal,d)=>hn E call k n none b d
     |r=>r)=_
    simp only [dD,<-ih];cases f:hn E call k n none a s with
    |none=>rfl
    |some p=>obtain⟨e,d⟩:=p;cases e<;>first|exact ih none b d|rfl
   case cond x a b =>
    show Option.map (lV k) (match jc k s.dA x with
     |.bool true=>hn E call k n none a s
     |.bool false=>hn E call k n none b s
     |_=>none)=_
    simp only [dD,<-ih,rD];have he:cp (s.to k).dA x=cp (eC k s.dA) x:=rfl;rw [he];cases cp (eC k s.dA) x with
    |bool t=>cases t<;>rfl
    |_=>rfl
   case block id c =>
    show Option.map (lV k) (match hn E call k n none c s with
     |some (.exit j,d)=>some (if j=id then .normal else .exit j,d)
     |r=>r)=_
    simp only [dD,<-ih];cases f:hn E call k n none c s with
    |none=>rfl
    |some p=>obtain⟨e,d⟩:=p;cases e<;>rfl
   case loop c =>
    show Option.map (lV k) (match hn E call k n none c s with
     |some (.normal,d)=>hn E call k n none (.loop c) d
     |r=>r)=_
    simp only [dD,<-ih];cases f:hn E call k n none c s with
    |none=>rfl
    |some p=>obtain⟨e,d⟩:=p;cases e<;>first|exact ih none (.loop c) d|rfl
   case scope c=>exact ih (some c) c s
   all_goals rfl
def rH:List J->Nat->aF J->(aF J->Option (J×T))->Option (J×T)
 |[],_,t,k=>k t
 |v::r,i,t,k=>rC v λv=>rE t i v λt=>rH r (Nat.succ i) t k
theorem Cv:∀(l:List J)(i:Nat)(t:aF J) (k:aF J->Option (J×T)),
 ∃a,rH l i t k=k a/\∀j,a.get j=if j<i then t.get j else if h:j-i<l.length then some l[j-i]else t.get j
 |[],i,t,k=>⟨t,rfl,λj=> an⟩
 |v ::r,i,t,k=>by
  obtain⟨a,aa,h2⟩:=Cv r (i+1) (t.set i v) k;refine⟨a,by simp only [rH,xR,ur];exact aa,λj=> ?_⟩;rw [h2 j,aF.h4];by_cases b:j<i
  .rw [aE V,ap V,aE b]
  .rw [ap b];by_cases he:i=j
   .subst he;rw [aE V,aE rfl];simp
   .rw [ap V,ap he];by_cases c:j- (i+1)<r.length
    .rw [dif_pos c,dif_pos (by simp;omega)];obtain⟨m,hm⟩:∃m,j-i=m+1:=⟨j-i-1,V⟩
     have d:j- (i+1)=m:= V;simp only [hm,d,List.getElem_cons_succ]
    .rw [dif_neg c,dif_neg (by simp;omega)]
theorem Ki{l:List J}{m:Nat}{t:aF J}(h:∀j,t.get j=if j<0 then(aF.nil:aF J).get j else if h:j-0<l.length then some l[j-0]else(aF.nil:aF J).get j) :
 eC (l.length+(m-l.length)) t=l++List.replicate (m-l.length) eN:=by
 apply pn;intro i;rw [um,h i,ap (Nat.not_lt_zero i)];simp only [n8,aF.k0];by_cases ah:i<l.length
 .rw [aE V,dif_pos ah,hW ah,c7 ah];rfl
 .rw [dif_neg ah,hX V,w7];by_cases az:i<l.length+(m-l.length)
  .rw [aE az,aE V];rfl
  .rw [ap az,ap V]
def nc(D:cN)(n:Nat)(cW:List ResultVar)(s:gm):Option (List J) :=
 match cW with
 |[]=>some []
 |.tmp t::r=>(nc D n r s).map λl=>jc n s.dA (.tmp t)::l
 |.cell a t::r =>
  match jc n s.dA (.tmp a)with
  |.ptr (some p) =>
   match a1 D t p s.heap,nc D n r s with
   |some v,some l=>some (v::l)
   |_,_=>none
  |_=>none
theorem ux(D:cN)(n:Nat)(s:gm):∀(cW:List ResultVar),nc D n cW s=g' D cW (s.to n)
 |[]=>rfl
 |.tmp t::r=>by simp only [nc,g',ux D n s r,rD];rfl
 |.cell a t::r=>by simp only [nc,g',ux D n s r,rD];rfl
def uy(r:Option (J×T)):Option (J×T) :=
 match r with
 |some (v,⟨n,l⟩)=>e6 n λn=>rC v λv=>some (v,⟨n,l⟩)
 |none=>none
theorem Kj(r:Option (J×T)):uy r=r:=by
 cases r with
 |none=>rfl
 |some p=>obtain⟨v,n,l⟩:=p;simp [uy,jL,xR]
def nd(P:Program)(E:a')(a:Nat):cJ :=
 Nat.rec (motive:=λ_=>cJ) (λ_ _ _=>none)
 (λn ih f args h =>
  match E.pD f with
  |some g=>g args h
  |none =>
  match P.funcs[f]? with
  |some fn =>
   match fn.body with
   |some c =>
    e6 (args.length+(fn.ntmps-args.length)) λk=>rH args 0 .nil λez =>
    match hn E ih k n none c ⟨ez,h⟩with
    |some (.exit _,_)=>none
    |some (.goto _,_)=>none
    |some (_,s) =>
     match nc E.D k fn.results.toList s with
     |some l=>uy (some (jJ l,s.heap))
     |none=>none
    |none=>none
   |none=>none
  |none=>none) a
theorem rI(P:Program)(E:a'):∀(n:Nat),nd P E n=iZ P E n:=by
 intro n;induction n with
 |zero=>rfl
 |succ n ih =>
  funext f args h
  show(match E.pD f with
  |some g=>g args h
  |none =>
  match P.funcs[f]? with
  |some fn =>
   match fn.body with
   |some c =>
    e6 (args.length+(fn.ntmps-args.length)) λk=>rH args 0 .nil λez =>
    match hn E (nd P E n) k n none c ⟨ez,h⟩with
    |some (.exit _,_)=>none
    |some (.goto _,_)=>none
    |some (_,s) =>
     match nc E.D k fn.results.toList s with
     |some l=>uy (some (jJ l,s.heap))
     |none=>none
    |none=>none
   |none=>none
  |none=>none)=_
  simp only [iZ,ih,jL,Kj];cases E.pD f with
  |some g=>rfl
  |none =>
  simp only;cases b:P.funcs[f]? with
  |none=>rfl
  |some fn =>
   simp only;cases fn.body with
   |none=>rfl
   |some c =>
    simp only
    obtain⟨t,aa,h2⟩:=Cv args 0 .nil λez =>
     match hn E (iZ P E n) (args.length+(fn.ntmps-args.length)) n none c ⟨ez,h⟩with
     |some (.exit _,_)=>none
     |some (.goto _,_)=>none
     |some (_,s) =>
      match nc E.D (args.length+(fn.ntmps-args.length)) fn.results.toList s with
      |some l=>some (jJ l,s.heap)
      |none=>none
     |none=>none
    rw [aa]
    have hs:(gm.mk t h).to (args.length+(fn.ntmps-args.length))=⟨args++List.replicate (fn.ntmps-args.length) eN,h⟩:=by simp only [gm.to,Ki h2]
    have a:=Kh (E:=E) (iZ P E n) (args.length+(fn.ntmps-args.length)) n none c ⟨t,h⟩;rw [hs]at a;rw [<-a];cases d:hn E (iZ P E n) (args.length+(fn.ntmps-args.length)) n none c ⟨t,h⟩with
    |none=>rfl
    |some p =>
     obtain⟨e,s⟩:=p;simp only [ev,lV];cases e with
     |exit id=>rfl
     |goto l=>rfl
     |normal=>simp only [ux];cases g' E.D fn.results.toList (s.to (args.length+(fn.ntmps-args.length)))<;>rfl
     |ret=>simp only [ux];cases g' E.D fn.results.toList (s.to (args.length+(fn.ntmps-args.length)))<;>rfl
theorem Kk{P:Program}{E:a'}{n:Nat}{f:FuncId}{args:List J}{h:T}(k:uh (nd P E n f args h)=true):∃ad,iZ P E n f args h=some (.bool true,ad):=by rw [rI]at k;exact J2 k
end
end
noncomputable section
abbrev a8:=List (Nat×J)
def fh:a8->Nat->Option J
 |[],_=>none
 |(k,v)::r,t=>cond (Nat.beq k t) (some v) (fh r t)
def rJ(t:Nat):a8->a8
 |[]=> []
 |(k,v)::r=>cond (Nat.beq k t) (rJ t r) ((k,v)::rJ t r)
def uz(F:a8)(d:Option Tmp)(v:J):a8 :=
 match d with
 |some d=>(d,v)::rJ d F
 |none=>F
def nf(F:a8):List Nat->a8
 |[]=> []
 |t::r=>match fh F t with|some v=>(t,v)::nf F r|none=>nf F r
def Has(F:a8)(s:List J):Prop:= ∀t v,fh F t=some v->s[t]? =some v
theorem ku(a b:Nat):(a=b/\Nat.beq a b=true)\/(a≠b/\Nat.beq a b=false):=by
 by_cases h:a=b
 .exact .inl ⟨h,beq_true h⟩
 .exact .inr ⟨h,beq_false h⟩
theorem gH(k:Nat)(v:J)(r:a8)(t:Nat):fh ((k,v)::r) t=if k=t then some v else fh r t:=by simp only [fh];rcases ku k t with ⟨h,e⟩|⟨h,e⟩<;>simp [h,e]
theorem x0(d t:Nat)(h:d≠t):∀(F:a8),fh (rJ d F) t=fh F t
 |[]=>rfl
 |(k,v)::r=>by
  simp only [rJ];rcases ku k d with ⟨a,e⟩|⟨a,e⟩
  .rw [e,cond_true,gH,ap V,x0 d t h r]
  .rw [e,cond_false,gH,gH,x0 d t h r]
theorem Has.set{F:a8}{s:List J}(hs:Has F s){d:Option Tmp}(a:∀t,d=some t->t<s.length)(v:J):Has (uz F d v) (fJ s d v):=by
 cases d with
 |none=>exact hs
 |some d =>
  intro t u hu;have b:=a d rfl;simp only [uz,gH]at hu;simp only [fJ,List.getElem?_set];by_cases h:d=t
  .subst h;rw [aE rfl]at hu;rw [aE rfl,aE b];exact hu
  .rw [ap h,x0 d t h]at hu;rw [ap h];exact hs t u hu
theorem uA{F:a8}{t:Nat}{v:J} :∀{l:List Nat},fh (nf F l) t=some v->fh F t=some v
 |[],h=>by cases h
 |k ::r,h=>by
  simp only [nf]at h;split at h
  .rename_i u hu;rw [gH]at h;split at h
   .rename_i e;subst e;rw [hu];exact h
   .exact uA h
  .exact uA h
def bf(F:a8):Operand->J
 |.tmp t=>match fh F t with|some v=>v|none=> .undef
 |.const v=>mM v
 |.global _=> .undef
 |.func f=> .func (.func f) [] []
def pT(F:a8):Operand->Bool
 |.tmp t=>match fh F t with|some _=>true|none=>false
 |_=>true
theorem Has.get{F:a8}{s:List J}(hs:Has F s){o:Operand}(a:pT F o=true):bf F o=cp s o:=by
 cases o with
 |tmp t =>
  simp only [pT]at a;split at a
  .rename_i v b;simp only [bf,cp,b,gf,hs t v b,ob]
  .cases a
 |const v=>rfl
 |global g=>rfl
 |func f=>rfl
def x1(ops:Array Oper)(F:a8)(o:Oper):Option Bool :=
 match o.guard with
 |none=>some true
 |some (j,want) =>
  match (ops[j]?).bind (·.dst)with
  |some d =>
   match fh F d with
   |some (.bool b)=>some (b == want)
   |some (.tuple [])=>some false
   |_=>none
  |none=>none
theorem Cw{ops:Array Oper}{F:a8}{s:List J}(hs:Has F s){o:Oper}{b:Bool}(h:x1 ops F o=some b):gZ ops s o=some b:=by
 unfold x1 at h;unfold gZ;split at h
 .rename_i ag;simp only [ag];exact h
 .rename_i j want ag;simp only [ag];split at h
  .rename_i d c;simp only [c];split at h
   .rename_i e a;simp only [hs _ _ a];exact h
   .rename_i a;simp only [hs _ _ a];exact h
   .cases h
  .cases h
inductive Hint where
 |val (i:Nat) (v:J)
 |act (i:Nat) (v:J) (g:T->T)
 |lW (i:Nat) (v:J) (g:T->T)
 |ej (i:Nat) (v:J)
 |go (i:Nat)
 |cD (i:Nat) (e:J)
 |e7 (i:Nat) (e:J)
 |guard (i:Nat) (b:Bool)
 |test (t:Nat) (b:Bool)
 |keep (l:List Nat)
 |loop (F:a8) (h:T) (e:bW)
 |cut (F:a8) (h:T) (e:bW)
 |cell (v:J)
 |x2 (i:Nat) (v:J) (g:T->T)
 |ng (i:Nat) (v:J) (g:T->T)
 |run (i m:Nat)
 |Cx (i m:Nat)
 |rounds (n:Nat)
 |enter (i:Nat)
def cr:cJ:=λ_ _ _=>none
structure uB(P:Program)(C:(Nat->Prop)->World->Prop)(f:FuncId)(args:List J)(h:T)(v:J)(ad:T):Prop where
 Cy:bl P C f args h v ad
structure eU where
 f:FuncId
 args:List J
 h:T
 v:J
 ad:T
def eU.holds(call:cJ)(k:eU):Prop:=call k.f k.args k.h=some (k.v,k.ad)
abbrev uC(n:Int):Prop:= -9223372036854775808<=n/\n<=9223372036854775807
def jM(k:IntKind)(n:Int):Prop :=
 match k with
 |.i64=>uC n
 |.i8=> -128<=n/\n<=127
 |.i32=> -2147483648<=n/\n<=2147483647
 |.u8=>0<=n/\n<=255
 |k=>k.min<=n/\n<=k.max
theorem lX{k:IntKind}{n:Int}(h:jM k n):k.wrap n=n:=by cases k<;>simp only [jM,uC,IntKind.min,IntKind.max,IntKind.signed,IntKind.bits,IntKind.wrap]at h⊢ <;>simp at h⊢ <;>omega
def be(k:IntKind)(x y:Int):Int:=k.wrap (BitVec.ofInt k.bits x &&& BitVec.ofInt k.bits y).toNat
def cf(k:IntKind)(x y:Int):Int:=k.wrap (BitVec.ofInt k.bits x ||| BitVec.ofInt k.bits y).toNat
def uD(k:IntKind)(x y:Int):Int:=k.wrap (BitVec.ofInt k.bits x ^^^ BitVec.ofInt k.bits y).toNat
def dc(k:IntKind)(x y:Int):Int:=k.wrap (BitVec.ofInt k.bits x &&& ~~~(BitVec.ofInt k.bits y)).toNat
def eD(k:IntKind)(x y:Int):Int:=k.wrap (x*2^(min y.toNat k.bits))
def bz(k:IntKind)(x y:Int):Int:=x.fdiv (2^(min y.toNat k.bits))
section
variable(P:Program)(E:a')
def x3(nid:Nat)(ρ:Operand->J)(h:T)(o:Op):Option (J×T×Prop) :=
 match o with
 |.binOp op t x y _ =>
  match ρ x,ρ y with
  |.int k a,.int k' b =>
   match op with
   |.shl=>some (.int k (eD k a b),h,0<=b)
   |.shr=>some (.int k (bz k a b),h,0<=b)
   |_ =>
   match decEq k k' with
   |isTrue _ =>
    match op with
    |.and=>some (.int k (be k a b),h,True)
    |.or=>some (.int k (cf k a b),h,True)
    |.xor=>some (.int k (uD k a b),h,True)
    |.andNot=>some (.int k (dc k a b),h,True)
    |.add=>some (.int k (a+b),h,jM k (a+b))
    |.sub=>some (.int k (a-b),h,jM k (a-b))
    |.mul=>some (.int k (a*b),h,jM k (a*b))
    |.quo=>some (.int k (a.tdiv b),h,b≠0/\jM k (a.tdiv b))
    |.rem=>some (.int k (a.tmod b),h,b≠0)
    |_=>none
   |isFalse _=>none
  |.str a,.str b =>
   match op with
   |.add=>some (.str (a++b),h,a.length+b.length<2^62)
   |_=>none
  |_,_=>none
 |.unOp op t x =>
  match op,ρ x with
  |.xor,.int k n=>some (.int k (uD k (if k.signed then-1 else k.max) n),h,True)
  |.neg,.int k n=>some (.int k (0-n),h,jM k (0-n))
  |_,_=>none
 |.index t x i =>
  match E.D t,ρ x,ρ i with
  |some d,.str s,.int _ i =>
   match d.kind with
   |.string=>some (.int .u8 (s.getD i.toNat 0).toNat,h,0<=i/\i<s.length)
   |_=>none
  |_,_,_=>none
 |.slice t x aD ah mx =>
  match mx with
  |some _=>none
  |none =>
   match E.D t,ρ x with
   |some d,.str s =>
    match d.kind with
    |.string =>
     match aD.map ρ,ah.map ρ with
     |none,none=>some (.str s,h,True)
     |some (.int _ l),none=>some (.str (s.drop l.toNat),h,0<=l/\l<=s.length)
     |none,some (.int _ u)=>some (.str (s.take u.toNat),h,0<=u/\u<=s.length)
     |some (.int _ l),some (.int _ u)=>some (.str ((s.take u.toNat).drop l.toNat),h,0<=l/\l<=u/\u<=s.length)
     |_,_=>none
    |_=>none
   |some d,.slice (some a) len cap =>
    match d.kind with
    |.slice e =>
     match E.D e with
     |some b9 =>
      cond (Nat.beq a.fld 0&&Nat.beq a.es b9.size)
      (match aD.map ρ,ah.map ρ with
      |none,none=>some (.slice (some a) len cap,h,len<=cap)
      |some (.int _ l),none=>some (.slice (some {a with idx:=a.idx+l.toNat}) (len-l.toNat) (cap-l.toNat),h,0<=l/\l<=len/\len<=cap)
      |none,some (.int _ u)=>some (.slice (some a) u.toNat cap,h,0<=u/\u<=cap)
      |some (.int _ l),some (.int _ u)=>some (.slice (some {a with idx:=a.idx+l.toNat}) (u.toNat-l.toNat) (cap-l.toNat),h,0<=l/\l<=u/\u<=cap)
      |_,_=>none) none
     |none=>none
    |_=>none
   |_,_=>none
 |.indexAddr t x i =>
  match E.D t,ρ x,ρ i with
  |some d,.slice (some a) len _,.int _ i =>
   match d.kind with
   |.slice e =>
    match E.D e with
    |some b9=>cond (Nat.beq a.fld 0&&Nat.beq a.es b9.size) (some (.ptr (some {a with idx:=a.idx+i.toNat}),h,0<=i/\i<len)) none
    |none=>none
   |_=>none
  |_,_,_=>none
 |.convert s d x =>
  match E.D s,E.D d,ρ x with
  |some _,some g,.int _ n=>match g.kind with|.int k=>some (.int k n,h,jM k n)|_=>none
  |_,_,_=>none
 |.call c =>
  match c.callee with
  |.builtin .append =>
   match c.args.toList.map ρ,c.argTypes[0]?,c.argTypes[1]? with
   |[.slice (some a) len cap,x],some t,some u =>
    match E.D u,E.D t,h.get a.id with
    |some j,some d,some b =>
     match d.kind with
     |.slice e =>
      match E.D e with
      |some b9 =>
       match dF b9.size x h with
       |some (f::bb) =>
        cond ((match j.kind with|.slice _=>true|.string=>true|_=>false)&&Nat.blt 0 b9.size&&b9.mQ&&Nat.beq a.fld 0&&Nat.beq a.es b9.size&&!b.exact&&!b.ro&&(match b.ty with|none=>true|some q=>Nat.beq q.1 e&&Nat.beq q.2 0))
         (some (.slice (some {a with ab:=a.ab+1}) (len+(f::bb).length) (len+(f::bb).length),h.set a.id (b.grow (f::bb)),
          a.ab=b.ab/\a.idx+len=b.aQ.length/\cap<len+(f::bb).length/\(len+(f::bb).length+(len+(f::bb).length)/4+512)*b9.bytes<=2^48/\len+(f::bb).length<2^62)) none
       |_=>none
      |none=>none
     |_=>none
    |_,_,_=>none
   |_,_,_=>none
  |_=>none
 |.makeSlice t l c =>
  match E.D t,ρ l,ρ c with
  |some d, .int _ l,.int _ c =>
   match d.kind with
   |.slice e =>
    match E.D e with
    |some x =>
     match x.zero with
     |some z =>
      cond (Nat.blt 0 x.size&&z.fits x.kind.isAgg x.size)
       (some (h5 nid x.size l.toNat c.toNat,h.set nid (.aj (List.replicate c.toNat z) x.size true),0<=l/\l<=c/\c<2^62/\x.bytes*c<=2^48)) none
     |none=>none
    |none=>none
   |_=>none
  |_,_,_=>none
 |_=>none
theorem Kl{nid:Nat}{ρ:Operand->J}{h ad:T}{o:Op}{v:J}{p:Prop}(k:x3 E nid ρ h o=some (v,ad,p))(ae:p)(call:cJ):bd E call nid ρ h o=some (v,ad):=by
 cases o<;>simp only [x3]at k<;>try (cases k;done)
 case binOp op t x y ty =>
  split at k
  .rename_i A a F b f B;split at k
   .simp only [a6,bo]at k;obtain⟨rfl,rfl,rfl⟩:=k;simp only [bd,f,B,iV,q4];rw [ap V];rfl
   .simp only [a6,bo]at k;obtain⟨rfl,rfl,rfl⟩:=k;simp only [bd,f,B,iV,q4];rw [ap V];rfl
   split at k
   .rename_i j _;subst j;simp only [bd,f,B,iV];split at k<;>first|(cases k;done)|(simp only [a6,bo]at k)
    all_goals (obtain⟨rfl,rfl,rfl⟩:=k)
    .simp [hK,be]
    .simp [hK,cf]
    .simp [hK,uD]
    .simp [hK,dc]
    .simp [hK,lX ae]
    .simp [hK,lX ae]
    .simp [hK,lX ae]
    .simp [hK,lX ae.2,ae.1]
    .simp [hK,ae]
   .cases k
  .rename_i a b f B;split at k
   .simp only [a6,bo]at k;obtain⟨rfl,rfl,rfl⟩:=k;simp only [bd,f,B,iV,q5];rw [aE ae];rfl
   .cases k
  .cases k
 case unOp op t x =>
  split at k
  .rename_i G n f;simp only [a6,bo]at k;obtain⟨rfl,rfl,rfl⟩:=k;simp [bd,f,q6,hK,uD]
  .rename_i G n f;simp only [a6,bo]at k;obtain⟨rfl,rfl,rfl⟩:=k;simp only [bd,f,q6,lX ae];rfl
  .cases k
 case index t x i =>
  split at k
  .rename_i d s G i g f ah;split at k
   .rename_i j;simp only [a6,bo]at k;obtain⟨rfl,rfl,rfl⟩:=k;simp only [bd,f,ah,c8,g,j];rw [aE ae.1];have R:i.toNat<s.length:=by have:=ae.2;omega
    simp [gf,c7 R]
   .cases k
  .cases k
 case slice t x aD ah mx =>
  split at k
  .cases k
  .split at k
   .rename_i d s g f;split at k
    .rename_i j;split at k<;>first|(cases k;done)|(simp only [a6,bo]at k)
     all_goals (obtain⟨rfl,rfl,rfl⟩:=k)
     .rename_i aa h2;simp [bd,f,aa,h2,ec,g,j,eh]
     .rename_i A l aa h2;simp only [bd,f,aa,h2,ec,g,j,eh,pu,mH,ew,ey];rw [aE ⟨ae.1,ae.2⟩];simp
     .rename_i A u aa h2;simp only [bd,f,aa,h2,ec,g,j,eh,pu,mH,ew,ey];rw [aE ⟨ae.1,ae.2⟩];simp
     .rename_i A l F u aa h2;simp only [bd,f,aa,h2,ec,g,j,eh,pu,mH,ew,ey];rw [aE ⟨V,ae.2.2⟩];simp only;rw [aE ⟨ae.1,V⟩];simp
    .cases k
   .rename_i d a len cap g f;split at k
    .rename_i e j;split at k
     .rename_i b9 r;cases m:(Nat.beq a.fld 0&&Nat.beq a.es b9.size)with
      |false=>rw [m]at k;cases k
      |true =>
       rw [m,cond_true]at k;simp only [cS]at m;have cq:=ij m.1;have cn:=ij m.2;split at k<;>first|(cases k;done)|(simp only [a6,bo]at k)
       all_goals (obtain⟨rfl,rfl,rfl⟩:=k)
       .rename_i aa h2;have:len<=cap:=ae;cases a;simp only at cq cn;simp [bd,f,aa,h2,ec,g,j,eh,r,cq,cn]
       .rename_i A l aa h2;simp only [bd,f,aa,h2,ec,g,j,eh,r,pu,mH,ew,ey];rw [aE ⟨ae.1,ae.2.1⟩];simp [cq,cn]
       .rename_i A u aa h2;simp only [bd,f,aa,h2,ec,g,j,eh,r,pu,mH,ew,ey];rw [aE ⟨ae.1,ae.2⟩];cases a;simp only at cq cn;simp [cq,cn]
       .rename_i A l F u aa h2;simp only [bd,f,aa,h2,ec,g,j,eh,r,pu,mH,ew,ey];rw [aE ⟨V,ae.2.2⟩];simp only;rw [aE ⟨ae.1,V⟩];simp [cq,cn]
     .cases k
    .cases k
   .cases k
 case indexAddr t x i =>
  split at k
  .rename_i d a len c G i g f ah;split at k
   .rename_i e he;split at k
    .rename_i b9 r;cases m:(Nat.beq a.fld 0&&Nat.beq a.es b9.size)with
     |false=>rw [m]at k;cases k
     |true =>
      rw [m,cond_true]at k;simp only [cS]at m;simp only [a6,bo]at k;obtain⟨rfl,rfl,rfl⟩:=k;simp only [bd,f,ah,dL,g,he,r];rw [aE ⟨ae.1,ae.2,ij m.2,ij m.1⟩];rfl
    .cases k
   .cases k
  .cases k
 case convert s d x =>
  split at k
  .rename_i co bv G n hs g f;split at k
   .rename_i F P;simp only [a6,bo]at k;obtain⟨rfl,rfl,rfl⟩:=k;simp [bd,f,q8,hs,g,P,lX ae]
   .cases k
  .cases k
 case call c =>
  split at k
  .rename_i w;split at k
   .rename_i a len cap x t u N W hu;split at k
    .rename_i I d b Z g ag;split at k
     .rename_i e j;split at k
      .rename_i b9 r;split at k
       .rename_i a0 bb H;generalize U:a0::bb=new at k H;have S:new≠[]:=by rw [<-U];simp
        generalize m:((match I.kind with|.slice _=>true|.string=>true|_=>false)&&Nat.blt 0 b9.size&&b9.mQ&&Nat.beq a.fld 0&&Nat.beq a.es b9.size&&!b.exact&&!b.ro&&(match b.ty with|none=>true|some q=>Nat.beq q.1 e&&Nat.beq q.2 0))=a9 at k;cases a9 with
        |false=>cases k
        |true =>
         rw [cond_true]at k;simp only [a6,bo]at k;obtain⟨rfl,rfl,rfl⟩:=k;simp only [cS,hi]at m;obtain⟨⟨⟨⟨⟨⟨⟨cs,c2⟩,c3⟩,c4⟩,c5⟩,K⟩,L⟩,C⟩:=m;obtain⟨a2,a3,ce,a4,a5⟩:=ae;have cq:=ij c4;have cn:=ij c5
         have X:b.ty=none\/b.ty=some (e,0):=by
          cases O:b.ty with
          |none=>exact .inl rfl
          |some q =>
           rw [O]at C;simp only [cS]at C;exact .inr (by rw [<-ij C.1,<-ij C.2])
         have M:gz E.D t (.slice (some a) len cap) x nid h=some (.slice (some {a with ab:=a.ab+1}) (len+new.length) (len+new.length),h.set a.id (b.grow new)):=by simp only [gz,g,j,r,H];rw [aE ⟨eH.mp c2,a4,a5,c3⟩,aE ⟨cn,cq⟩];simp only [ag];rw [ap V,ap (by rw [K];simp),aE ⟨L,a2,a3,S,X⟩]
         simp only [bd,w,N,eB,W,hu,Z];cases am:I.kind<;>rw [am]at cs<;>simp only [ew]at cs<;>exact M
       .cases k
      .cases k
     .cases k
    .cases k
   .cases k
  .cases k
 case makeSlice t l c =>
  split at k
  .rename_i d A b2 F bn g Q al;split at k
   .rename_i e he;split at k
    .rename_i x f;split at k
     .rename_i z av;cases w:(Nat.blt 0 x.size&&z.fits x.kind.isAgg x.size)with
      |false=>rw [w]at k;cases k
      |true =>
       rw [w,cond_true]at k;simp only [a6,bo]at k;obtain⟨rfl,rfl,rfl⟩:=k;simp only [cS]at w;simp only [bd,Q,al,q7,g,he,f,av];rw [aE ⟨ae.1,ae.2.1,ae.2.2.1,ae.2.2.2,eH.mp w.1,w.2⟩]
     .cases k
    .cases k
   .cases k
  .cases k
def x4(ρ:Operand->J)(h:T)(o:Op)(e:J):Option (J×Prop) :=
 match o with
 |.load t x =>
  match ρ x with
  |.ptr (some a) =>
   match E.D t,h.get a.id with
   |some d,some b =>
    match ft d.kind.isAgg d.size a.fld e with
    |some v=>some (v,b.elem? a.ab a.idx=some e)
    |none=>none
   |_,_=>none
  |_=>none
 |_=>none
theorem Km{nid:Nat}{ρ:Operand->J}{h:T}{o:Op}{e v:J}{p:Prop}(k:x4 E ρ h o e=some (v,p))(ae:p)(call:cJ):bd E call nid ρ h o=some (v,h):=by
 unfold x4 at k;split at k
 .rename_i t x;split at k
  .rename_i a c;split at k
   .rename_i d b g f;split at k
    .rename_i j i;simp only [a6,bo]at k;obtain⟨rfl,rfl⟩:=k;simp [bd,c,a1,g,f,ae,i]
    .cases k
   .cases k
  .cases k
 .cases k
def stOp(ρ:Operand->J)(h:T)(o:Op)(e:J):Option (T×Prop) :=
 match o with
 |.store t x y =>
  match ρ x with
  |.ptr (some a) =>
   match E.D t,h.get a.id with
   |some d,some b =>
    cond ((ρ y).fits d.kind.isAgg d.size&&!b.ro)
     (match kn a.fld (ρ y) e with
     |some e'=>some (h.set a.id {b with aQ:=b.aQ.set a.idx e',eb:=b.ab},a.ab=b.ab/\b.aQ[a.idx]? =some e)
     |none=>none) none
   |_,_=>none
  |_=>none
 |_=>none
theorem Kn{nid:Nat}{ρ:Operand->J}{h ad:T}{o:Op}{e:J}{p:Prop}(k:stOp E ρ h o e=some (ad,p))(ae:p)(call:cJ):bd E call nid ρ h o=some (eN,ad):=by
 unfold stOp at k;split at k
 .rename_i t x y;split at k
  .rename_i a c;split at k
   .rename_i d b g f;cases al:((ρ y).fits d.kind.isAgg d.size&&!b.ro)with
    |false=>rw [al]at k;cases k
    |true =>
     rw [al,cond_true]at k;split at k
     .rename_i e' he;simp only [a6,bo]at k;obtain⟨rfl,rfl⟩:=k;simp [bd,c,eA,g,f,ae.1,ae.2,he,al]
     .cases k
   .cases k
  .cases k
 .cases k
def jN(nid:Nat)(ρ:Operand->J)(h:T)(o:Op)(v:J)(ad:T):Prop×List eU :=
 match o with
 |.call c =>
  match c.callee with
  |.value f=>match ρ f with|.func (.func g) fs aX=>(uB P E.cond g (fs++c.args.toList.map ρ++aX) h v ad,[⟨g,fs++c.args.toList.map ρ++aX,h,v,ad⟩])|_=>(False,[])
  |.builtin b=>(eB E b c.argTypes (c.args.toList.map ρ) nid h=some (v,ad),[])
  |_=>(False,[])
 |o=>(bd E cr nid ρ h o=some (v,ad),[])
def ho(nid:Nat)(ρ:Operand->J)(h:T)(o:Op)(v:J):Prop×List eU :=
 match o with
 |.load t x=>(match ρ x with|.ptr (some a)=>a1 E.D t a h=some v|_=>False,[])
 |.indexAddr t x i=>(dL E.D t (ρ x) (ρ i)=some v,[])
 |.index t x i=>(c8 E.D t (ρ x) (ρ i)=some v,[])
 |.slice t x aD ah mx=>(ec E.D t (ρ x) (aD.map ρ) (ah.map ρ) (mx.map ρ)=some v,[])
 |.binOp op t x y _=>(iV E.D E.fC (jI x || jI y) op t (ρ x) (ρ y)=some v,[])
 |o=>jN P E nid ρ h o v h
def oA:Op->Bool
 |.call c=>match c.callee with|.value _=>false|_=>true
 |_=>true
theorem rK{nid:Nat}{ρ:Operand->J}{h:T}{o:Op}(ae:oA o=true)(call:cJ):bd E cr nid ρ h o=bd E call nid ρ h o:=by
 cases o
 case call c =>
  simp only [oA]at ae;cases al:c.callee<;>simp only [al]at ae<;>simp only [bd,al];cases ae
 case makeFunc f a b=>cases f<;>rfl
 all_goals rfl
theorem x5{nid:Nat}{ρ:Operand->J}{h:T}{o:Op}{v:J}{ad:T}(k:(jN P E nid ρ h o v ad).1){call:cJ}(al:∀c∈(jN P E nid ρ h o v ad).2,c.holds call) :
 bd E call nid ρ h o=some (v,ad):=by
 cases o
 case call c =>
  simp only [jN]at k al;split at k
  .rename_i f a;simp only [a]at al;split at k
   .rename_i g fs aX ag;simp only [ag]at al;simp only [bd,a,ag,kp];exact al _ (cC.2 rfl)
   .exact k.elim
  .rename_i b d;simp only [bd,d];exact k
  .exact k.elim
 all_goals exact(rK E rfl call).symm.trans k
theorem Cz{nid:Nat}{ρ:Operand->J}{h:T}{o:Op}{v:J}(k:(ho P E nid ρ h o v).1){call:cJ}(al:∀c∈(ho P E nid ρ h o v).2,c.holds call) :
 bd E call nid ρ h o=some (v,h):=by
 cases o
 case load t x =>
  simp only [ho]at k;split at k
  .rename_i a b;simp only [bd,b,k];rfl
  .exact k.elim
 case indexAddr t x i=>simp only [ho]at k;simp only [bd,k];rfl
 case index t x i=>simp only [ho]at k;simp only [bd,k];rfl
 case slice t x aD ah mx=>simp only [ho]at k;simp only [bd,k];rfl
 case binOp op t x y z=>simp only [ho]at k;simp only [bd,k];rfl
 all_goals exact x5 P E k al
theorem x6{nid:Nat}{ρ:Operand->J}{h:T}{o:Op}{v:J}{ad:T}(k:(jN P E nid ρ h o v ad).1):∀c∈(jN P E nid ρ h o v ad).2,bl P E.cond c.f c.args c.h c.v c.ad:=by
 cases o
 case call c0 =>
  simp only [jN]at k⊢;cases a:c0.callee with
  |value f =>
   rw [a]at k;simp only at k⊢;cases d:ρ f with
   |func fn fs aX =>
    rw [d]at k;cases fn with
    |func g =>
     simp only at k⊢;intro c al;simp only [cC]at al;subst al;exact k.Cy
    |_=>exact k.elim
   |_=>rw [d]at k;exact k.elim
  |invoke r m=>rw [a]at k;exact k.elim
  |builtin b=>intro c al;simp at al
 all_goals (intro c al;simp [jN]at al)
theorem CA{nid:Nat}{ρ:Operand->J}{h:T}{o:Op}{v:J}(k:(ho P E nid ρ h o v).1):∀c∈(ho P E nid ρ h o v).2,bl P E.cond c.f c.args c.h c.v c.ad:=by
 cases o;case load t x=>intro c al;simp [ho]at al
 case indexAddr t x i=>intro c al;simp [ho]at al
 case index t x i=>intro c al;simp [ho]at al
 case slice t x aD ah mx=>intro c al;simp [ho]at al
 case binOp op t x y z=>intro c al;simp [ho]at al
 all_goals exact x6 P E k
def a7(l:List Prop):Prop:= ∀p∈l,p
theorem a7.head{p:Prop}{l:List Prop}(h:a7 (p::l)):p:=h p an
theorem a7.tail{p:Prop}{l:List Prop}(h:a7 (p::l)):a7 l:=λq a=>h q (by simp [a])
theorem a7.left{a b:List Prop}(h:a7 (a++b)):a7 a:=λp ae=>h p (by simp [ae])
theorem a7.right{a b:List Prop}(h:a7 (a++b)):a7 b:=λp ae=>h p (by simp [ae])
def gD(ops:Array Oper)(a i:Nat)(ρ:Operand->J)(h:T)(o:Op)(ad:T):List Prop :=
 match cA o with
 |.load=>match hL ρ o with|some b=>cond (mT ops i || (Nat.blt b a || (Nat.blt b (a+ops.size)&&(ordered (cO ops) (b-a) i&&!lR ops (cO ops) i)))) [] [False]|none=> [False]
 |.store=>match kq ρ o with|some b=>cond (iX ops (cO ops) i&&Nat.blt b a) [False] []|none=> [False]
 |.call=>cond (iX ops (cO ops) i) [mS (a+ops.size) h ad=true] []
 |.fu=>cond (lS ops a i (fX ρ o)) [] [False]
 |_=> []
def x7(a N:Nat):List Nat->List Prop
 |[]=> []
 |b::r=>(b<a\/N<=b)::x7 a N r
def uE(ops:Array Oper)(a:Nat)(ρ:Operand->J)(o:Op):List Prop :=
 match cA o with
 |.load=>match hL ρ o with|some b=> [b<a]|none=> [False]
 |.fu=>x7 a (a+ops.size) (fX ρ o)
 |_=> [False]
theorem CB{d N:Nat} :∀{l:List Nat},a7 (x7 d N l)-> ∀b∈l,b<d\/N<=b
 |[],_,b,c=>by cases c
 |a::r,h,b,c=>by
  rcases cM.1 c with rfl|c
  .exact h.head
  .exact CB h.tail b c
theorem CC{ops:Array Oper}{a i:Nat}{ρ:Operand->J}{h ad:T}{o:Op}(k:a7 (uE ops a ρ o)):a7 (gD ops a i ρ h o ad):=by
 unfold uE at k;unfold gD;split at k
 .rename_i al;rw [al];simp only;split at k
  .rename_i b c;have:Nat.blt b a=true:=eH.mpr k.head;rw [this,Bool.true_or,Bool.or_true];intro p ae;cases ae
  .exact k.head.elim
 .rename_i al;rw [al];simp only
  have:lS ops a i (fX ρ o)=true:=by
   unfold lS;rw [dV];intro b c;rcases CB k b c with h|h
   .simp [h]
   .simp [h]
  rw [this];intro p ae;cases ae
 .exact k.head.elim
def x8(ops:Array Oper)(a i:Nat)(ρ:Operand->J)(o:Op):List Prop :=
 match kr ρ o with
 |some x=>cond ((List.range ops.size).all λk=>(k == i) || ordered (cO ops) k i || ordered (cO ops) i k ||
  match ops[k]? with
  |some y=>decide (cA y.op=.pure) || decide (cA y.op=.load) || decide (cA y.op=.alloc)
  |none=>true) ((fK x).map λb=>b<a) [False]
 |none=> [False]
theorem Ko{ops:Array Oper}{a i:Nat}{ρ:Operand->J}{o:Op}(k:a7 (x8 ops a i ρ o)):gl ops a i ρ o=true:=by
 unfold x8 at k;unfold gl;split at k
 .rename_i x e
  cases c:((List.range ops.size).all λk=>(k == i) || ordered (cO ops) k i || ordered (cO ops) i k ||
   match ops[k]? with
   |some y=>decide (cA y.op=.pure) || decide (cA y.op=.load) || decide (cA y.op=.alloc)
   |none=>true)with
  |false=>rw [c]at k;exact k.head.elim
  |true =>
   rw [c,cond_true]at k;rw [e];simp only;rw [cS];refine⟨dV.2 λb d=> ?_,rfl⟩;have:b<a:=k _ (dz.2 ⟨b,d,rfl⟩);simp [this]
 .exact k.head.elim
abbrev x9:=Option (J×T×List Hint×List Prop×List eU)
def k4(draw:Bool)(ops:Array Oper)(a i:Nat)(F:a8)(h:T)(o:Op)(hs:List Hint):x9 :=
 cond (oA o)
  (match bd E cr (a+i) (bf F) h o with
  |some (v,ad)=>some (v,ad,hs,cond draw (gD ops a i (bf F) h o ad) [],[])
  |none=>cond (!draw || (fL o&&(im ops i || gl ops a i (bf F) o))) (match er E (a+i) (bf F) h o with|some (v,ad)=>some (v,ad,hs,[],[])|none=>none) none) none
abbrev pU:=FuncId->List J->T->List Hint->Option (J×T×List Hint×List Prop)
def rL(b:pU)(draw:Bool)(ops:Array Oper)(a i:Nat)(F:a8)(h:T)(o:Op)(x:Hint)(hs:List Hint):x9 :=
 match x with
 |.enter _ =>
  match o with
  |.call c =>
   match c.callee with
   |.value f =>
    match bf F f with
    |.func (.func g) fs aX =>
     match b g (fs++c.args.toList.map (bf F)++aX) h hs with
     |some (v,ad,d,bN)=>some (v,ad,d,cond draw (gD ops a i (bf F) h o ad) []++bN,[⟨g,fs++c.args.toList.map (bf F)++aX,h,v,ad⟩])
     |none=>none
    |_=>none
   |_=>none
  |_=>none
 |.val _ v=>some (v,h,hs,(ho P E (a+i) (bf F) h o v).1::cond draw (gD ops a i (bf F) h o h) [],(ho P E (a+i) (bf F) h o v).2)
 |.act _ v g=>some (v,g h,hs,(jN P E (a+i) (bf F) h o v (g h)).1::cond draw (gD ops a i (bf F) h o (g h)) [],(jN P E (a+i) (bf F) h o v (g h)).2)
 |.lW _ v g=>some (v,g h,hs,(jN P E (a+i) (bf F) h o v (g h)).1::cond draw (uE ops a (bf F) o) [],(jN P E (a+i) (bf F) h o v (g h)).2)
 |.ej _ v=>some (v,h,hs,(ho P E (a+i) (bf F) h o v).1::cond draw (uE ops a (bf F) o) [],(ho P E (a+i) (bf F) h o v).2)
 |.go _ =>
  match x3 E (a+i) (bf F) h o with
  |some (v,ad,p)=>some (v,ad,hs,p::cond draw (gD ops a i (bf F) h o ad) [],[])
  |none=>none
 |.cD _ e =>
  match x4 E (bf F) h o e with
  |some (v,p)=>some (v,h,hs,p::cond draw (gD ops a i (bf F) h o h) [],[])
  |none=>none
 |.e7 _ e =>
  match stOp E (bf F) h o e with
  |some (ad,p)=>some (eN,ad,hs,p::cond draw (gD ops a i (bf F) h o ad) [],[])
  |none=>none
 |.x2 _ v g =>
  cond (fL o&&(!draw || (im ops i || gl ops a i (bf F) o)))
  (match bd E cr (a+i) (bf F) h o with
  |none=>some (v,g h,hs,[er E (a+i) (bf F) h o=some (v,g h)],[])
  |some _=>none) none
 |.ng _ v g =>
  cond (fL o)
  (match bd E cr (a+i) (bf F) h o with
  |none=>some (v,g h,hs,(er E (a+i) (bf F) h o=some (v,g h))::cond draw (x8 ops a i (bf F) o) [],[])
  |some _=>none) none
 |.run _ m =>
  match o with
  |.call c =>
   match c.callee with
   |.value f =>
    match bf F f with
    |.func (.func g) fs aX =>
     match iZ P E m g (fs++c.args.toList.map (bf F)++aX) h with
     |some (v,ad)=>some (v,ad,hs,cond draw (gD ops a i (bf F) h o ad) [],[⟨g,fs++c.args.toList.map (bf F)++aX,h,v,ad⟩])
     |none=>none
    |_=>none
   |_=>none
  |_=>none
 |.Cx _ m =>
  match o with
  |.call c =>
   match c.callee with
   |.value f =>
    match bf F f with
    |.func (.func g) fs aX =>
     match nd P E m g (fs++c.args.toList.map (bf F)++aX) h with
     |some (v,ad)=>some (v,ad,hs,cond draw (gD ops a i (bf F) h o ad) [],[⟨g,fs++c.args.toList.map (bf F)++aX,h,v,ad⟩])
     |none=>none
    |_=>none
   |_=>none
  |_=>none
 |_=>none
def Hint.at:Hint->Option Nat
 |.val i _=>some i
 |.act i _ _=>some i
 |.lW i _ _=>some i
 |.ej i _=>some i
 |.go i=>some i
 |.cD i _=>some i
 |.e7 i _=>some i
 |.x2 i _ _=>some i
 |.ng i _ _=>some i
 |.run i _=>some i
 |.Cx i _=>some i
 |.enter i=>some i
 |_=>none
def pop(b:pU)(q:Nat)(ops:Array Oper)(draw:Bool)(a i:Nat)(F:a8)(h:T)(o:Op)(hs:List Hint):x9 :=
 match hs with
 |x::r =>
  match x.at with
  |some j=>cond (Nat.beq (1000*q+i) j) (rL P E b draw ops a i F h o x r) (k4 E draw ops a i F h o hs)
  |none=>k4 E draw ops a i F h o hs
 |[]=>k4 E draw ops a i F h o hs
def h7(call:cJ)(ops:Array Oper)(draw:Bool)(a i:Nat)(ρ:Operand->J)(h:T)(o:Op):Option (J×T) :=
 if draw then dU E call ops a i ρ h o else gY E call (a+i) ρ h o
theorem Kp{nid:Nat}{ρ ρ':Operand->J}{h:T}{o:Op}(a:∀x∈o.operands.toList,ρ x=ρ' x):er E nid ρ h o=er E nid ρ' h o:=by
 cases o
 case call c =>
  simp only [Op.operands,Call.operands,lL,eG]at a;simp only [er];have e:=pM (xs:=c.args) (λx i=>a x (.inr i));cases g:c.callee with
  |value f =>
   rw [g]at a;simp only [e,a f (.inl an)]
  |invoke r m=>rfl
  |builtin b=>rfl
 case convert s d x =>
  simp only [Op.operands]at a;simp only [er];rw [a x an]
 all_goals rfl
theorem Kq{o:Op}(h:fL o=true):cA o=.pure:=by cases o<;>simp only [fL,ew]at h<;>rfl
theorem uF{call:cJ}{ops:Array Oper}{draw:Bool}{a i:Nat}{ρ:Operand->J}{h ad:T}{o:Op}{v:J}(b:bd E call (a+i) ρ h o=none)(c:er E (a+i) ρ h o=some (v,ad))
 (d:draw=true->fL o=true/\(im ops i=true\/gl ops a i ρ o=true)):h7 E call ops draw a i ρ h o=some (v,ad):=by
 unfold h7;cases draw with
 |false=>simp only [ew,ey,gY,b,c]
 |true =>
  obtain⟨aa,h2⟩:=d rfl;simp only [dy];unfold dU;simp only [Kq aa,b,aa,h2,and_self,dy,c]
theorem hp{call:cJ}{ops:Array Oper}{draw:Bool}{d i:Nat}{ρ:Operand->J}{h ad:T}{o:Op}{v:J}(e:bd E call (d+i) ρ h o=some (v,ad))(a:a7 (cond draw (gD ops d i ρ h o ad) [])) :
 h7 E call ops draw d i ρ h o=some (v,ad):=by
 unfold h7;cases draw with
 |false=>simp only [ew,ey,gY,e]
 |true =>
  have a:a7 (gD ops d i ρ h o ad):=a;simp only [dy];unfold dU;unfold gD at a;cases g:cA o<;>simp only [g]at a⊢ <;>try exact e
  .rw [e]
  .split
   .rename_i b f;rw [f]at a;simp only at a;cases c:(mT ops i || (Nat.blt b d || (Nat.blt b (d+ops.size)&&(ordered (cO ops) (b-d) i&&!lR ops (cO ops) i))))with
    |false=>rw [c]at a;exact a.head.elim
    |true =>
     simp only [fI,cS,hi]at c;rw [aE]
     .exact e
     .rcases c with c|c|⟨c,k,l⟩
      .exact .inl c
      .exact .inr (.inl (eH.mp c))
      .exact .inr (.inr ⟨eH.mp c,k,l⟩)
   .rename_i f;rw [f]at a;exact a.head.elim
  .split
   .rename_i b f;rw [f]at a;simp only at a;cases c:(iX ops (cO ops) i&&Nat.blt b d)with
    |true=>rw [c]at a;exact a.head.elim
    |false =>
     rw [ap]
     .exact e
     .rintro ⟨aa,h2⟩;rw [aa,eH.mpr h2]at c;cases c
   .rename_i f;rw [f]at a;exact a.head.elim
  .simp only [e];cases j:iX ops (cO ops) i with
   |false=>simp
   |true =>
    rw [j,cond_true]at a;simp only [dy];rw [aE a.head]
  .cases c:lS ops d i (fX ρ o)with
   |true=>simp [e]
   |false=>rw [c]at a;exact a.head.elim
theorem x'{ops:Array Oper}{draw:Bool}{d i:Nat}{F:a8}{h ad:T}{o:Op}{hs f:List Hint}{v:J}{aX:List Prop}{ks:List eU}(ae:k4 E draw ops d i F h o hs=some (v,ad,f,aX,ks))(al:a7 aX)(call:cJ) :
 h7 E call ops draw d i (bf F) h o=some (v,ad):=by
 unfold k4 at ae;cases a:oA o
 .rw [a]at ae;cases ae
 .rw [a,cond_true]at ae;split at ae
  .rename_i v1 aa c;simp only [a6,bo]at ae;obtain⟨rfl,rfl,_,rfl,_⟩:=ae;exact hp E ((rK E a call).symm.trans c) al
  .rename_i c;cases b:(!draw || (fL o&&(im ops i || gl ops d i (bf F) o)))with
   |false=>rw [b]at ae;cases ae
   |true =>
    rw [b,cond_true]at ae;split at ae
    .rename_i v1 aa g;simp only [a6,bo]at ae;obtain⟨rfl,rfl,_,rfl,_⟩:=ae;refine uF E ((rK E a call).symm.trans c) g λe=> ?_
     rw [e]at b;simpa using b
    .cases ae
theorem Kr{r:pU}{ops:Array Oper}{draw:Bool}{m i:Nat}{F:a8}{h ad:T}{o:Op}{x:Hint}{hs s:List Hint}{v:J}{aX:List Prop}{ks:List eU}(ae:rL P E r draw ops m i F h o x hs=some (v,ad,s,aX,ks))(al:a7 aX){call:cJ}
 (b:∀c∈ks,c.holds call):h7 E call ops draw m i (bf F) h o=some (v,ad):=by
 unfold rL at ae;split at ae
 .split at ae
  .rename_i c;split at ae
   .rename_i f e;split at ae
    .rename_i g fs n ag;split at ae
     .rename_i v1 aa t bN q;simp only [a6,bo]at ae;obtain⟨rfl,rfl,_,rfl,rfl⟩:=ae;refine hp E ?_ al.left;simp only [bd,e,ag,kp];exact b _ (cC.2 rfl)
     .cases ae
    .cases ae
   .cases ae
  .cases ae
 .simp only [a6,bo]at ae;obtain⟨rfl,rfl,_,rfl,rfl⟩:=ae;exact hp E (Cz P E al.head b) al.tail
 .simp only [a6,bo]at ae;obtain⟨rfl,rfl,_,rfl,rfl⟩:=ae;exact hp E (x5 P E al.head b) al.tail
 .simp only [a6,bo]at ae;obtain⟨rfl,rfl,_,rfl,rfl⟩:=ae;refine hp E (x5 P E al.head b) ?_;have d:=al.tail;cases draw with
  |false=>intro p ae;cases ae
  |true=>exact CC d
 .simp only [a6,bo]at ae;obtain⟨rfl,rfl,_,rfl,rfl⟩:=ae;refine hp E (Cz P E al.head b) ?_;have d:=al.tail;cases draw with
  |false=>intro p ae;cases ae
  |true=>exact CC d
 .split at ae
  .rename_i v1 aa p ag;simp only [a6,bo]at ae;obtain⟨rfl,rfl,_,rfl,_⟩:=ae;exact hp E (Kl E ag al.head call) al.tail
  .cases ae
 .split at ae
  .rename_i v1 p ag;simp only [a6,bo]at ae;obtain⟨rfl,rfl,_,rfl,_⟩:=ae;exact hp E (Km E ag al.head call) al.tail
  .cases ae
 .split at ae
  .rename_i aa p ag;simp only [a6,bo]at ae;obtain⟨rfl,rfl,_,rfl,_⟩:=ae;exact hp E (Kn E ag al.head call) al.tail
  .cases ae
 .cases a:(fL o&&(!draw || (im ops i || gl ops m i (bf F) o)))with
  |false=>rw [a]at ae;cases ae
  |true =>
   rw [a,cond_true]at ae;simp only [cS]at a;split at ae
   .rename_i j;simp only [a6,bo]at ae;obtain⟨rfl,rfl,_,rfl,_⟩:=ae
    have l:oA o=true:=by cases o<;>first|rfl|(simp [fL]at a)
    refine uF E ((rK E l call).symm.trans j) al.head λk=>⟨a.1,?_⟩
    have:=a.2;rw [k]at this;simpa using this
   .cases ae
 .cases a:fL o with
  |false=>rw [a]at ae;cases ae
  |true =>
   rw [a,cond_true]at ae;split at ae
   .rename_i j;simp only [a6,bo]at ae;obtain⟨rfl,rfl,_,rfl,_⟩:=ae
    have l:oA o=true:=by cases o<;>first|rfl|(simp [fL]at a)
    refine uF E ((rK E l call).symm.trans j) al.head λk=>⟨a,.inr ?_⟩
    have d:=al.tail;rw [k]at d;exact Ko d
   .cases ae
 .split at ae
  .rename_i c;split at ae
   .rename_i f e;split at ae
    .rename_i g fs n ag;split at ae
     .rename_i v1 aa q;simp only [a6,bo]at ae;obtain⟨rfl,rfl,_,rfl,rfl⟩:=ae;refine hp E ?_ al;simp only [bd,e,ag,kp];exact b _ (cC.2 rfl)
     .cases ae
    .cases ae
   .cases ae
  .cases ae
 .split at ae
  .rename_i c;split at ae
   .rename_i f e;split at ae
    .rename_i g fs n ag;split at ae
     .rename_i v1 aa q;simp only [a6,bo]at ae;obtain⟨rfl,rfl,_,rfl,rfl⟩:=ae;refine hp E ?_ al;simp only [bd,e,ag,kp];exact b _ (cC.2 rfl)
     .cases ae
    .cases ae
   .cases ae
  .cases ae
 .cases ae
theorem CD{d:pU}{q:Nat}{ops:Array Oper}{draw:Bool}{b i:Nat}{F:a8}{h ad:T}{o:Op}{hs f:List Hint}{v:J}{aX:List Prop}{ks:List eU}(ae:pop P E d q ops draw b i F h o hs=some (v,ad,f,aX,ks))(al:a7 aX){call:cJ}
 (e:∀c∈ks,c.holds call):h7 E call ops draw b i (bf F) h o=some (v,ad):=by
 unfold pop at ae;split at ae
 .split at ae
  .rename_i j g;cases a:Nat.beq (1000*q+i) j
   .rw [a,cond_false]at ae;exact x' E ae al call
   .rw [a,cond_true]at ae;exact Kr P E ae al e
  .exact x' E ae al call
 .exact x' E ae al call
def ya(a:pU):Prop:= ∀f args h hs v ad b aX,a f args h hs=some (v,ad,b,aX)->a7 aX->bl P E.cond f args h v ad
theorem CE(k:e4 P E)(l:P.follows .mixedOrders=true){g:pU}(p:ya P E g){q:Nat}{ops:Array Oper}{draw:Bool}{e i:Nat}{F:a8}{h ad:T}{o:Op}{hs m:List Hint}{v:J}{aX:List Prop}{ks:List eU}(ae:pop P E g q ops draw e i F h o hs=some (v,ad,m,aX,ks))(al:a7 aX) :
 ∀c∈ks,bl P E.cond c.f c.args c.h c.v c.ad:=by
 have plain:∀{n:List Hint},k4 E draw ops e i F h o n=some (v,ad,m,aX,ks)-> ∀c∈ks,bl P E.cond c.f c.args c.h c.v c.ad:=by
  intro n ae;unfold k4 at ae;cases d:oA o
  .rw [d]at ae;cases ae
  .rw [d,cond_true]at ae;split at ae
   .simp only [a6,bo]at ae;obtain⟨_,_,_,_,rfl⟩:=ae;intro c al;simp at al
   .cases a:(!draw || (fL o&&(im ops i || gl ops e i (bf F) o)))with
    |false=>rw [a]at ae;cases ae
    |true =>
     rw [a,cond_true]at ae;split at ae
     .simp only [a6,bo]at ae;obtain⟨_,_,_,_,rfl⟩:=ae;intro c al;simp at al
     .cases ae
 unfold pop at ae;split at ae
 .split at ae
  .rename_i j r;cases d:Nat.beq (1000*q+i) j
   .rw [d,cond_false]at ae;exact plain ae
   .rw [d, cond_true]at ae;unfold rL at ae;split at ae
    .split at ae
     .split at ae
      .split at ae
       .split at ae
        .rename_i b;simp only [a6,bo]at ae;obtain⟨_,_,_,rfl,rfl⟩:=ae;intro c hm;simp only [cC]at hm;subst hm;exact p _ _ _ _ _ _ _ _ b al.right
        .cases ae
       .cases ae
      .cases ae
     .cases ae
    .simp only [a6,bo]at ae;obtain⟨rfl,rfl,_,rfl,rfl⟩:=ae;exact CA P E al.head
    .simp only [a6,bo]at ae;obtain⟨rfl,rfl,_,rfl,rfl⟩:=ae;exact x6 P E al.head
    .simp only [a6,bo]at ae;obtain⟨rfl,rfl,_,rfl,rfl⟩:=ae;exact x6 P E al.head
    .simp only [a6,bo]at ae;obtain⟨rfl,rfl,_,rfl,rfl⟩:=ae;exact CA P E al.head
    all_goals first
     |(split at ae
       .simp only [a6,bo]at ae;obtain⟨_,_,_,_,rfl⟩:=ae;intro c al;simp at al
       .cases ae
       done)
     |(cases ae;done)
     |skip
    .cases a:(fL o&&(!draw || (im ops i || gl ops e i (bf F) o)))with
     |false=>rw [a]at ae;cases ae
     |true =>
      rw [a,cond_true]at ae;split at ae
      .simp only [a6,bo]at ae;obtain⟨_,_,_,_,rfl⟩:=ae;intro c al;simp at al
      .cases ae
    .cases a:fL o with
     |false=>rw [a]at ae;cases ae
     |true =>
      rw [a,cond_true]at ae;split at ae
      .simp only [a6,bo]at ae;obtain⟨_,_,_,_,rfl⟩:=ae;intro c al;simp at al
      .cases ae
    .split at ae
     .split at ae
      .split at ae
       .split at ae
        .rename_i b;simp only [a6,bo]at ae;obtain⟨_,_,_,_,rfl⟩:=ae;intro c al;simp only [cC]at al;subst al;exact bl.pP k l b
        .cases ae
       .cases ae
      .cases ae
     .cases ae
    .split at ae
     .split at ae
      .split at ae
       .split at ae
        .rename_i b;simp only [a6,bo]at ae;obtain⟨_,_,_,_,rfl⟩:=ae;intro c al;simp only [cC]at al;subst al;rw [rI]at b;exact bl.pP k l b
        .cases ae
       .cases ae
      .cases ae
     .cases ae
  .exact plain ae
 .exact plain ae
def yb(n:Nat)(o:Oper):Bool :=
 match o.dst with
 |some d=>Nat.blt d n
 |none=>true
def k5(E:a')(call:cJ)(ops:Array Oper)(draw:Bool)(a:Nat)(l:List Nat)(s:dM):Option dM :=
 if draw then hl E call ops a l s else k2 E call ops a l s
theorem Ks{call:cJ}{ops:Array Oper}{draw:Bool}{b i:Nat}{l:List Nat}{s:List J}{h ad:T}{o:Oper}{v:J}(c:ops[i]? =some o)(hw:gZ ops s o=some true)
 (a:h7 E call ops draw b i (cp s) h o.op=some (v,ad)):k5 E call ops draw b (i::l) ⟨s,h⟩=k5 E call ops draw b l ⟨fJ s o.dst v,ad⟩:=by
 unfold k5 h7 at *;cases draw with
 |false=>simp only [ew,ey]at a⊢; simp only [k2,mR,c,hw,a]
 |true=>simp only [dy]at a⊢; simp only [hl,iY,c,hw,a]
theorem Kt{call:cJ}{ops:Array Oper}{draw:Bool}{b i:Nat}{l:List Nat}{s:List J}{h:T}{o:Oper}(a:ops[i]? =some o)(hw:gZ ops s o=some false) :
 k5 E call ops draw b (i::l) ⟨s,h⟩=k5 E call ops draw b l ⟨fJ s o.dst eN,h⟩:=by
 unfold k5;cases draw with
 |false=>simp only [ew,ey,k2,mR,a,hw]
 |true=>simp only [dy,hl,iY,a,hw]
theorem CF(s:List J)(d:Option Tmp)(v:J):(fJ s d v).length=s.length:=by cases d<;>simp [fJ]
structure nh(a b:List J)(h k:T)(v u:J)(ad k':T):Prop where
 agree:a=b->h=k->v=u/\ad=k'
def CG(a b:eU):List Prop:=cond (Nat.beq a.f b.f) [nh a.args b.args a.h b.h a.v b.v a.ad b.ad] []
def uG:List eU->List Prop
 |[]=> []
 |a::r=>r.flatMap (CG a)++uG r
open Classical in
def ni:List eU->cJ
 |[],_,_,_=>none
 |k::r,f,args,h=>if k.f=f/\k.args=args/\k.h=h then some (k.v,k.ad)else ni r f args h
theorem CH:∀{ks:List eU}{f:FuncId}{args:List J}{h:T}{v:J}{ad:T},ni ks f args h=some (v,ad)-> ∃k∈ks,k.f=f/\k.args=args/\k.h=h/\k.v=v/\k.ad=ad
 |[],f,args,h,v,ad,al=>by cases al
 |k ::r,f,args,h,v,ad,al=>by
  simp only [ni]at al;split at al
  .rename_i e;simp only [a6,bo]at al;exact⟨k,an,e.1,e.2.1,e.2.2,al.1,al.2⟩
  .obtain⟨k',hm,q⟩:=CH al;exact⟨k',by simp [hm],q⟩
theorem CI:∀{ks:List eU},a7 (uG ks)-> ∀c∈ks,c.holds (ni ks)
 |[],_,c,al=>by simp at al
 |k ::r,hu,c,al=>by
  simp only [uG]at hu;unfold eU.holds;simp only [ni];split
  .rename_i e;rcases cM.1 al with rfl|hm
   .rfl
   .have:=hu.left
    have a:k.v=c.v/\k.ad=c.ad:=by have aa:nh k.args c.args k.h c.h k.v c.v k.ad c.ad:=this _ (List.mem_flatMap.2 ⟨c,hm,by unfold CG;rw [beq_true e.1];simp⟩);exact aa.agree e.2.1 e.2.2
    rw [a.1,a.2]
  .rename_i e;rcases cM.1 al with rfl|hm
   .exact absurd ⟨rfl,rfl,rfl⟩ e
   .exact CI hu.right c hm
theorem Ku{ks:List eU}(i:∀c∈ks,bl P E.cond c.f c.args c.h c.v c.ad){aM:Nat->Prop}{aS:World}(g:dN aM aS.heap.size)(ef:E.cond aM aS):iu P aM aS (ni ks):=by intro f args h v ad al φ w a e d b;obtain⟨k,hm,rfl,rfl,rfl,rfl,rfl⟩:=CH al;exact i k hm aM aS g ef φ w a e d b
def oB:Nat->List J->a8
 |_,[]=> []
 |i,v::r=>(i,v)::oB (i+1) r
def jd(D:cN)(F:a8)(h:T):List ResultVar->List Hint->Option (List J×List Prop)
 |[],[]=>some ([],[])
 |[],_=>none
 |.tmp t::r,hs=>match fh F t,jd D F h r hs with|some v,some (l,aX)=>some (v::l,aX)|_,_=>none
 |.cell a t::r,.cell v::hs=>match fh F a,jd D F h r hs with|some (.ptr (some p)),some (l,aX)=>some (v::l,(a1 D t p h=some v)::aX)|_,_=>none
 |.cell a t::r,hs =>
  match fh F a with
  |some (.ptr (some p)) =>
   match a1 D t p h with
   |some v=>match jd D F h r hs with|some (l,aX)=>some (v::l,aX)|none=>none
   |none=>none
  |_=>none
end
end
end Go.bh
