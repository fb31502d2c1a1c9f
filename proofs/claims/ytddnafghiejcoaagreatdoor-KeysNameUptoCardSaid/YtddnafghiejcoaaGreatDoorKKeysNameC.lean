/-
  Parts of the proof of KeysName.
-/
import Derived.Test.YtddnafghiejcoaaGreatDoorRows
import Derived.Shelf.Strconv.Itoa1
import Derived.Shelf.Strings.Fields
import Derived.Test.YtddnafghiejcoaaGreatDoorKKeysNameB
set_option maxRecDepth 1000000
set_option linter.unusedVariables false
set_option linter.defProp false
set_option linter.unusedSimpArgs false
namespace Go.br
noncomputable section
open Go.RowKit
section
variable {P:Program}{E:bi}
def wh(φ:Map)(S:Nat->Prop)(aV:World)(n:Nat)(F:bc)(h:T)(a:Act)(w:World):Prop:= ∃s:List J,s.length=n/\Has F s/\eL φ S aV ⟨s,h⟩ a w
def iP(P:Program)(C:(Nat->Prop)->World->Prop)(base n:Nat)(g:(Exit->Act->World->Prop)->Act->World->Prop)(F:bc)(h:T)(e:b8)(f:bc)(Z:T):Prop :=
 ∀(S:Nat->Prop)(aV:World),dS S aV.heap.size->C S aV-> ∀(b φ:Map)(a:Act)(w:World),(∀i v p,b i v=some p->i<base)->dM b φ base->wh φ S aV n F h a w ->
  ∀Q:Exit->Act->World->Prop,(∀d c a7,dM b d base->wh d S aV n f Z c a7->Q (sS e) c a7)->g Q a w
def cO(P:Program)(C:(Nat->Prop)->World->Prop)(base n:Nat)(c:Code)(F:bc)(h:T)(e:b8)(b:bc)(Z:T):Prop:=iP P C base n (λQ a w=>c.wp P Q a w) F h e b Z
def b2(P:Program)(C:(Nat->Prop)->World->Prop)(base n:Nat)(c:Code)(F:bc)(h:T)(e:b8)(b:bc)(Z:T):Prop:=iP P C base n (λQ a w=>pu P c Q a w) F h e b Z
def pB(P:Program)(body:Option Code)(c:Code):(Exit->Act->World->Prop)->Act->World->Prop :=
 match body with
 |none=>λQ a w=>c.wp P Q a w
 |some b=>λQ a w=>qS P b c Q a w
variable {F:bc}{C:(Nat->Prop)->World->Prop}
def cO.dn{base n:Nat}{c:Code}{b:bc}{h Z:T}{e:b8}(k:b2 P C base n c F h e b Z):cO P C base n (.loop c) F h e b Z :=
 λS aV f eh i φ a w aM g r Q d=>EN (k S aV f eh i φ a w aM g r Q d)
def b2.step{base n:Nat}{c:Code}{b d:bc}{h Y ag:T}{e:b8}(m:cO P C base n c F h .normal b Y)(o:b2 P C base n c b Y e d ag):b2 P C base n c F h e d ag :=
 λS aV f eh g φ a w aM k r Q j=>zq (m S aV f eh g φ a w aM k r _ λq i a7 l p=>o S aV f eh g q i a7 aM l p Q j)
def b2.last{base n:Nat}{c:Code}{b:bc}{h Y:T}{e:b8}(he:e≠ .normal)(k:cO P C base n c F h e b Y):b2 P C base n c F h e b Y :=
 λS aV g eh o φ a w aM i r Q f=>zq (k S aV g eh o φ a w aM i r _ λm d a7 j l=>by
  have:=f m d a7 j l;cases e with
  |normal=>exact absurd rfl he
  |_=>exact this)
def bW(base n:Nat)(F:bc)(h:T)(d:bc)(Y:T):Prop :=
 ∀(S:Nat->Prop)(aV:World)(b φ:Map)(a:Act)(w:World),(∀i v p,b i v=some p->i<base)->dM b φ base->wh φ S aV n F h a w-> ∃c,dM b c base/\wh c S aV n d Y a w
def iP.pre{base n:Nat}{c:(Exit->Act->World->Prop)->Act->World->Prop}{G b:bc}{h g Z:T}{e:b8}(k:iP P C base n c F h e b Z)(i:bW base n G g F h):iP P C base n c G g e b Z :=
 λS aV j eh d φ a w aM l r Q f=>by obtain⟨p,m,o⟩:=i S aV d φ a w aM l r;exact k S aV j eh d p a w aM m o Q f
def iP.post{base n:Nat}{g:(Exit->Act->World->Prop)->Act->World->Prop}{b c:bc}{h Z f:T}{e:b8}(k:iP P C base n g F h e b Z)(i:bW base n b Z c f):iP P C base n g F h e c f :=
 λS aV m eh j φ a w aM o r Q l=>k S aV m eh j φ a w aM o r Q λu d a7 p s=>by obtain⟨v,q,t⟩:=i S aV j u d a7 aM p s;exact l v d a7 q t
def bc.le(G F:bc):Prop:= ∀t v,fp G t=some v->fp F t=some v
def bc.qY(F:bc)(l:List Nat):bc.le (n1 F l) F:=λ_ _ h=>v7 h
def bW.facts{base n:Nat}{G:bc}{h:T}(k:bc.le G F):bW base n F h G h :=
 λS aV e φ a w aM c ⟨s,aw,b,r⟩=>⟨φ,c,s,aw,λt v d=>b t v (k t v d),r⟩
def Fh:∀(l:List J)(i t:Nat)(v:J),fp (pA i l) t=some v->i<=t/\l[t-i]? =some v
 |[],i,t,v,h=>by cases h
 |a ::r,i,t,v,h=>by
  simp only [pA,gX]at h;split at h
  .rename_i e;subst e;exact⟨Nat.le_refl _,by simpa using h⟩
  .rename_i e;obtain⟨Y,ag⟩:=Fh r (i+1) t v h;refine⟨A,?_⟩;rw [show t-i=(t- (i+1))+1 by omega,hj];exact ag
def wi{D:cV}{h:T}{s:List J}(b:Has F s):∀{c8:List ResultVar}{hs:List Hint}{l:List J}{cs:List Prop},jN D F h c8 hs=some (l,cs)->aX cs->hq D c8 ⟨s,h⟩=some l
 |[],hs,l,cs,ae,aj=>by
  cases hs with
  |nil=>simp only [jN,a8,bC]at ae;obtain⟨rfl,_⟩:=ae;rfl
  |cons a r=>simp [jN]at ae
 |.tmp t::r,hs,l,cs,ae,aj=>by
  simp only [jN]at ae;split at ae
  .rename_i v f e c d;simp only [a8,bC]at ae;obtain⟨rfl,rfl⟩:=ae;simp only [hq,wi b d aj,hC,b t v c];rfl
  .cases ae
 |.cell a t::r,hs,l,cs,ae,aj=>by
  have go :∀{hs:List Hint}{l:List J}{cs:List Prop},(match fp F a with
   |some (.ptr (some p)) =>
    match a6 D t p h with
    |some v=>match jN D F h r hs with|some (l,cs)=>some (v::l,cs)|none=>none
    |none=>none
   |_=>none)=some (l,cs)->aX cs->hq D (.cell a t::r) ⟨s,h⟩=some l:=by
   intro hs l cs ae aj;split at ae
   .rename_i p c;split at ae
    .rename_i v g;split at ae
     .rename_i f e d;simp only [a8,bC]at ae;obtain⟨rfl,rfl⟩:=ae;simp only [hq,wi b d aj,hC,b a _ c,pa,g]
     .cases ae
    .cases ae
   .cases ae
  cases hs with
  |nil=>exact go (hs:=[]) ae aj
  |cons q hs =>
   cases q with
   |cell v =>
    simp only [jN]at ae;split at ae
    .rename_i p f e c d;simp only [a8,bC]at ae;obtain⟨rfl,rfl⟩:=ae;have i:aX e:=λp ae=>aj p (by simp [ae])
     simp only [hq,wi b d i,hC,b a _ c,pa,aj.head]
    .cases ae
   |_=>exact go (hs:=_::hs) ae aj
def bj.N0(z:fa P E){f:FuncId}{fn:Func}{c:Code}(n:P.funcs[f]? =some fn)(m:fn.body=some c){args:List J}{h Z:T}{e:b8}(he:e=.normal\/e=.ret){g:bc}{c8:List Hint}{l:List J}{cs:List Prop}
 (H:cO P E.cond h.M (args.length+(fn.ntmps-args.length)) c (pA 0 args) h e g Z) (ae:jN E.D g Z fn.results.toList c8=some (l,cs)) (aj:aX cs) (aw:h.M<=Z.M):bj P E.cond f args h (kk l) Z:=by
 intro S aV C y φ w d k I j;refine⟨⟨fn,c,n,m⟩,calls_of_wp n m ?_⟩;have hlen:d.size=args.length:=by have:=j.length;rwa [fy]at this
 have B:Has (pA 0 args) (args++List.replicate (fn.ntmps-args.length) eR):=by intro t u hu;obtain⟨_,ag⟩:=Fh args 0 t u hu;simp only [o6]at ag;obtain⟨G,_⟩:=e4.1 ag;rw [mq G];exact ag
 have r:eL φ S aV ⟨args++List.replicate (fn.ntmps-args.length) eR,h⟩ {tmps:=d++Array.replicate (fn.ntmps-d.size) undef,defers:=[]} w:=by refine⟨?_,k,I,rfl⟩;simp only [mr,Array.toList_replicate,hlen];exact j.append (bo.replicate (aA.eR φ) _)
 refine H S aV C y φ φ _ w (λi v p ae=>(k.cN i v p ae).1) (dM.refl _ _) ⟨_,au,B,r⟩ _ λx K a7 o ⟨N,L,f1,a⟩=> ?_
 have F:=wi f1 ae aj;obtain⟨b,q,s⟩:=EP z.fW a F;rcases he with rfl|rfl
 .exact⟨a.defers,b,q,b,x,rfl,o,s,a.heap,a.below,aw⟩
 .exact⟨a.defers,b,q,b,x,rfl,o,s,a.heap,a.below,aw⟩
def bW.trans{base n:Nat}{G K:bc}{h g k:T}(i:bW base n F h G g)(j:bW base n G g K k):bW base n F h K k :=
 λS aV b φ a w aM c r=>by obtain⟨f,d,e⟩:=i S aV b φ a w aM c r;exact j S aV b f a w aM d e
def bW.refl(base n:Nat)(F:bc)(h:T):bW base n F h F h:=λS aV c φ a w aM b r=>⟨φ,b,r⟩
def bW.aO{base n:Nat}{f:bc}{h Y:T}{r:Nat->Nat}(hw:vM r Y h)(m:∀t v,fp f t=some v->t<n/\fp F t=some (v.aO r)/\bR (In Y) v)
 (aN:∀i,i<base->In h i->In Y i) (bx:∀i,i<base->In Y i->r i=i) (q:∀i,In Y i->r i<base->i<base):bW base n F h f Y:=by
 intro S aV K φ a w aM g ⟨s,aw,y,mH⟩;have G:a.tmps.toList.length=n:=by rw [mH.dH.length];exact aw
 refine⟨gN φ r Y,⟨?_,?_,?_⟩,(List.range n).map (λt=>(fp f t).getD .undef),au,?_,⟨?_,mH.heap.gN hw ?_,mH.below,mH.defers⟩⟩
 .intro i v p ae;have ah:=aM i v p ae;have e:=g.le i v p ae;obtain⟨_,b,C,_⟩:=mH.heap.cN i v p e;have d:=aN i ah (by unfold In;rw [C];rfl);rw [mD d,bx i ah d];exact e
 .intro i ah D u;have:=g.new i ah D;unfold gN;split
  .rename_i d;rw [bx i ah d];exact this u
  .rfl
 .intro i v p ae k;obtain⟨d,e⟩:=jk ae;have Y:=g.ro _ _ _ e k;have ag:=q i d (aM _ _ _ Y);rw [bx i ag d]at Y;exact Y
 .intro t v o;obtain⟨l,_,_⟩:=m t v o;simp [l,o]
 .refine bo.dI (by simp [G]) λt x H c z=> ?_
  have l:t<n:=by have:=(e4.1 c).1;simpa using this
  simp only [hD,u9 l,eE,a8]at c;cases j:fp f t with
  |none=>rw [j]at c;simp at c;subst c;simp [aA]
  |some v =>
   rw [j]at c;simp at c;subst c;obtain⟨_,g1,g2⟩:=m t v j;obtain⟨I,aQ,aZ⟩:=mH.dH.get (y t _ g1);rw [z]at aQ;simp at aQ;subst aQ;exact aA.jj (λi ah v p ae=>by rw [mD ah];exact ae) g2 aZ
 .intro i v p ae k;obtain⟨_,e⟩:=jk ae;obtain⟨_,B,_,_,_,_,_,_,E⟩:=mH.heap.cN _ _ _ e;exact E.base k
def loops:Code->List Code
 |.seq a b=>loops a++loops b
 |.cond _ a b=>loops a++loops b
 |.block _ c=>loops c
 |.scope c=>loops c
 |.loop c=>c::loops c
 |_=> []
def N1(P:Program)(f:FuncId):Code :=
 match P.funcs[f]? with
 |some fn=>match fn.body with|some c=>c|none=> .skip
 |none=> .skip
def N2(P:Program)(f:FuncId)(k:Nat):Code:=(loops (N1 P f))[k]?.getD .skip
def bj.aO{f:FuncId}{args:List J}{h Z ag:T}{v v2:J}{r:Nat->Nat}(k:bj P C f args h v Z)(hw:vM r ag Z)(l:v=v2.aO r)(y:bR (In ag) v2)
 (aN:∀i,i<h.M->In Z i->In ag i) (bx:∀i,i<h.M->In ag i->r i=i) (o:∀i,In ag i->r i<h.M->i<h.M) (aw:h.M<=ag.M):bj P C f args h v2 ag:=by
 subst l;intro S aV t s φ w n d E q;obtain⟨g1,g2⟩:=k S aV t s φ w n d E q;refine⟨g1,g2.mono λe a7 ⟨F,G,he,m,l,g,hs,hn'⟩=> ?_⟩;refine⟨F,gN G r ag,he,⟨?_,?_,?_⟩,aA.jj (λi ah v p ae=>by rw [mD ah];exact ae) y l,g.gN hw ?_,hs,aw⟩
 .intro i u p ae;have ah:=(d.cN i u p ae).1;have c:=m.le i u p ae;obtain⟨_,b,x,_⟩:=g.cN i u p c;have a:=aN i ah (by unfold In;rw [x];rfl);rw [mD a,bx i ah a];exact c
 .intro i ah z u;have:=m.new i ah z;unfold gN;split
  .rename_i a;rw [bx i ah a];exact this u
  .rfl
 .intro i u p ae j;obtain⟨a,c⟩:=jk ae;have Y:=m.ro _ _ _ c j;have ag:=o i a (d.cN _ _ _ Y).1;rw [bx i ag a]at Y;exact Y
 .intro i u p ae j;obtain⟨_,c⟩:=jk ae;obtain⟨_,B,_,_,_,_,_,_,D⟩:=g.cN _ _ _ c;exact D.base j
def aX.nil:aX []:=λp ae=>by simp at ae
def aX.cons{p:Prop}{l:List Prop}(h:p)(k:aX l):aX (p::l):=λq a=>by
 rcases dR.1 a with rfl|a
 .exact h
 .exact k q a
def okF{p:Prop}[Decidable p](c:¬p):some (J.bool (decide p))=some (J.bool false):=by rw [ie c]
def b0(v:J):Prop:=(∀r,v.aO r=v)/\bR (λ_=>False) v
def b0.bool(b:Bool):b0 (.bool b):=⟨λ_=>rfl,trivial⟩
def b0.int(k:IntKind)(n:Int):b0 (.int k n):=⟨λ_=>rfl,trivial⟩
def b0.str(s:List UInt8):b0 (.str s):=⟨λ_=>rfl,trivial⟩
mutual
def bR.mono{D b:Nat->Prop}(h:∀i,D i->b i):∀{v:J},bR D v->bR b v
 |.ptr (some a),k=>by simp only [bR]at k⊢; exact h _ k
 |.slice (some a) _ _,k=>by simp only [bR]at k⊢; exact h _ k
 |.func _ f c,k=>by simp only [bR]at k⊢; exact⟨dO.mono h k.1,dO.mono h k.2⟩
 |.iface _ v,k=>by simp only [bR]at k⊢; exact bR.mono h k
 |.agg cs,k=>by simp only [bR]at k⊢; exact dO.mono h k
 |.tuple vs,k=>by simp only [bR]at k⊢; exact dO.mono h k
 |.undef,_=>by simp [bR]
 |.bool _,_=>by simp [bR]
 |.int _ _,_=>by simp [bR]
 |.str _,_=>by simp [bR]
 |.ptr none,_=>by simp [bR]
 |.slice none _ _,_=>by simp [bR]
 |.nilFunc,_=>by simp [bR]
 |.nilIface,_=>by simp [bR]
def dO.mono{D b:Nat->Prop}(h:∀i,D i->b i):∀{l:List J},dO D l->dO b l
 |[],_=>by simp [dO]
 |a::l,k=>by simp only [dO]at k⊢; exact⟨bR.mono h k.1,dO.mono h k.2⟩
end
def bj.bare[ik C]{f:FuncId}{args:List J}{v:J}{Z:T}(k:bj P C f args ⟨0,.nil⟩ v Z)(g:∀a∈args,b0 a)(d:b0 v)(H:T):bj P C f args H v H:=by
 have h:bj P C f args ⟨0,.nil⟩ v ⟨0,.nil⟩:=by
  refine k.aO (r:=λi=>i) (v2:=v) ⟨?_,?_,?_⟩ (d.1 _).symm (bR.mono (λi ah=>ah.elim) d.2) ?_ ?_ ?_ (Nat.le_refl _)
  .intro i b c;cases c
  .intro i j ah;cases ah
  .intro i b c;cases c
  .intro i ah;simp at ah
  .intro i ah;simp at ah
  .intro i ah;cases ah
 have e:=h.frame (r:=λi=>H.M+i) (H:=H) (H':=H) ⟨?_,?_,?_⟩ (pw.2 λa hm=>bR.mono (λi ah=>ah.elim) (g a hm).2) (λi _=> au) ?_ au (λ_ _ _=>rfl)
 .rw [d.1]at e
  have:args.map (J.aO λi=>H.M+i)=args:=by
   conv=>rhs;rw [<-pb args]
   exact i' λa hm=>(g a hm).1 _
  rw [this]at e;exact e
 .intro i b c;cases c
 .intro i j ah;cases ah
 .intro i b c;cases c
 .intro i b c;cases c
mutual
def J.jl:J->Bool
 |.ptr (some _)=>false
 |.slice (some _) _ _=>false
 |.func _ f c=>J.lK f&&J.lK c
 |.iface _ v=>J.jl v
 |.agg cs=>J.lK cs
 |.tuple vs=>J.lK vs
 |_=>true
def J.lK:List J->Bool
 |[]=>true
 |a::l=>J.jl a&&J.lK l
end
mutual
def zT:∀{v:J},v.jl=true->(∀r,v.aO r=v)/\bR (λ_=>False) v
 |.ptr (some a),k=>by simp [J.jl]at k
 |.slice (some a) _ _,k=>by simp [J.jl]at k
 |.func fn f c,k=>by simp only [J.jl,cC]at k;have Y:=s7 k.1;have ag:=s7 k.2;exact⟨λr=>by simp only [J.aO,Y.1 r,ag.1 r],by simp only [bR];exact⟨Y.2,ag.2⟩⟩
 |.iface t v,k=>by simp only [J.jl]at k;have Y:=zT k;exact⟨λr=>by simp only [J.aO,Y.1 r],by simp only [bR];exact Y.2⟩
 |.agg cs,k=>by simp only [J.jl]at k;have Y:=s7 k;exact⟨λr=>by simp only [J.aO,Y.1 r],by simp only [bR];exact Y.2⟩
 |.tuple vs,k=>by simp only [J.jl]at k;have Y:=s7 k;exact⟨λr=>by simp only [J.aO,Y.1 r],by simp only [bR];exact Y.2⟩
 |.undef,_=>⟨λ_=>rfl,by simp [bR]⟩
 |.bool _,_=>⟨λ_=>rfl,by simp [bR]⟩
 |.int _ _,_=>⟨λ_=>rfl,by simp [bR]⟩
 |.str _,_=>⟨λ_=>rfl,by simp [bR]⟩
 |.ptr none,_=>⟨λ_=>rfl,by simp [bR]⟩
 |.slice none _ _,_=>⟨λ_=>rfl,by simp [bR]⟩
 |.nilFunc,_=>⟨λ_=>rfl,by simp [bR]⟩
 |.nilIface,_=>⟨λ_=>rfl,by simp [bR]⟩
def s7:∀{l:List J},J.lK l=true->(∀r,J.fc r l=l)/\dO (λ_=>False) l
 |[],_=>⟨λ_=>rfl,by simp [dO]⟩
 |a::l,k=>by simp only [J.lK,cC]at k;have Y:=zT k.1;have ag:=s7 k.2;exact⟨λr=>by simp only [J.fc,Y.1 r,ag.1 r],by simp only [dO];exact⟨Y.2,ag.2⟩⟩
end
def b0.of{v:J}(h:v.jl=true):b0 v:=zT h
end
end
noncomputable section
open Go.RowKit
def T.rows(n:Nat)(l:List (Nat×aa)):T:=l.foldl (λh p=>h.set p.1 p.2) ⟨n,.nil⟩
def T.N3(l:List (Nat×aa)):∀(h:T)(i:Nat)(b:aa),(l.foldl (λh p=>h.set p.1 p.2) h).get i=some b->h.get i=some b\/(i,b)∈l:=by
 induction l with
 |nil=>intro h i b k;exact .inl k
 |cons p r ih =>
  intro h i b k;rcases ih _ i b k with k|k
  .rw [T.iK]at k;split at k
   .rename_i e;simp only [a8]at k;exact .inr (by rw [<-e,<-k];exact kQ ..)
   .exact .inl k
  .exact .inr (by simp [k])
def T.N4(l:List (Nat×aa)):∀(h:T)(i:Nat),(In h i\/i∈l.map (·.1))->In (l.foldl (λh p=>h.set p.1 p.2) h) i:=by
 induction l with
 |nil=>intro h i k;rcases k with k|k;exact k;simp at k
 |cons p r ih =>
  intro h i k;refine ih _ i ?_;by_cases e:p.1=i
  .left;unfold In;rw [T.iK,az e];rfl
  .rcases k with k|k
   .left;unfold In;rw [T.iK,ai e];exact k
   .simp only [ei,dR]at k;rcases k with k|k
    .exact absurd k.symm e
    .exact .inr k
def T.N5(l:List (Nat×aa)):∀(h:T),(l.foldl (λh p=>h.set p.1 p.2) h).M=h.M:=by
 induction l with
 |nil=>intro h;rfl
 |cons p r ih=>intro h;rw [hT,ih];rfl
@[simp] theorem T.wj(n:Nat)(l:List (Nat × aa)) : (T.rows n l).M = n := T.N5 _ _
variable {b:aa}{i j n off:Nat}
def T.pC{l:List (Nat×aa)}(h:(T.rows n l).get i=some b):(i,b)∈l:=by
 rcases T.N3 l _ i b h with k|k
 .cases k
 .exact k
def T.qZ{l:List (Nat×aa)}(h:i∈l.map (·.1)):In (T.rows n l) i:=T.N4 l _ i (.inr h)
def T.q0{l:List (Nat×aa)}(h:In (T.rows n l) i):i∈l.map (·.1):=by obtain⟨b,a⟩:=nF.1 h;exact dV.2 ⟨_,T.pC a,rfl⟩
mutual
def J.q1:∀(v:J),v.aO (λi=>i)=v
 |.ptr (some a)=>rfl
 |.slice (some a) _ _=>rfl
 |.func fn f c=>by simp only [J.aO,J.wk]
 |.iface t v=>by simp only [J.aO,J.q1 v]
 |.agg cs=>by simp only [J.aO,J.wk]
 |.tuple vs=>by simp only [J.aO,J.wk]
 |.undef=>rfl
 |.bool _=>rfl
 |.int _ _=>rfl
 |.str _=>rfl
 |.ptr none=>rfl
 |.slice none _ _=>rfl
 |.nilFunc=>rfl
 |.nilIface=>rfl
def J.wk:∀(l:List J),J.fc (λi=>i) l=l
 |[]=>rfl
 |a::l=>by simp only [J.fc,J.q1 a,J.wk l]
end
def aa.q1(b:aa):b.aO (λi=>i)=b:=by
 unfold aa.aO
 have:b.bg.map (J.aO λi=>i)=b.bg:=by
  conv=>rhs;rw [<-pb b.bg]
  exact i' λe he=>J.q1 e
 rw [this]
def cu(b:aa):Prop:= ∀e∈b.bg,b0 e
def cu.aO(h:cu b)(r:Nat->Nat):b.aO r=b:=by
 unfold aa.aO
 have:b.bg.map (J.aO r)=b.bg:=by
  conv=>rhs;rw [<-pb b.bg]
  exact i' λe he=>(h e he).1 r
 rw [this]
def cu.dj(h:cu b)(D:Nat->Prop):∀e∈b.bg,bR D e:=λe he=>bR.mono (λ_ k=>k.elim) (h e he).2
def b0.ints{α:Type}(l:List α)(k:IntKind)(f:α->Int):∀e∈l.map (λx=>J.int k (f x)),b0 e:=by intro e he;obtain⟨x,_,rfl⟩:=dV.1 he;exact b0.int k _
def b0.dj{v:J}(h:b0 v)(D:Nat->Prop):bR D v:=bR.mono (λ_ k=>k.elim) h.2
def b3(l:List Nat):Nat->Prop:=λi=>i∈l
def bW.drop{base:Nat}{F:bc}{h:T}{K:Nat}{l:List (Nat×aa)}(q:l.map (λp=>h.get p.1)=l.map (λp=>some p.2))(g:l.all (λp=>Nat.blt p.1 K)=true)
 (m:(List.range base).all (λi=>(l.map (·.1)).contains i)=true) (aw:F.all (λp=>Nat.blt p.1 n)=true) (c:aX (F.map λp=>bR (b3 (l.map (·.1))) p.2))
 (aj:aX (l.map λp=> ∀e∈p.2.bg,bR (b3 (l.map (·.1))) e)):bW base n F h F (T.rows K l):=by
 have d:∀i b,(T.rows K l).get i=some b->i<K/\h.get i=some b:=by intro i b k;have hm:=T.pC k;refine⟨eG.mp (ea.1 g _ hm),?_⟩;obtain⟨j,o,e⟩:=ly.1 hm;have Y:=dm (fun(x:List (Option aa))=>x[j]?) q;simp only [hD,ds o,eE,e,a8]at Y;exact Y
 have f:∀{v:J},bR (b3 (l.map (·.1))) v->bR (In (T.rows K l)) v:=bR.mono λi ah=>T.qZ ah
 refine bW.aO (r:=λi=>i) ⟨λi b k=>⟨by rw [T.wj];exact(d i b k).1,by rw [aa.q1];exact(d i b k).2⟩,λi j _ _ e=>e,?_⟩ ?_ ?_ ?_ ?_
 .intro i b k e he;have hm:=T.pC k;exact f (aj _ (dV.2 ⟨_,hm,rfl⟩) e he)
 .intro t v a
  have hm:(t,v)∈F:=by
   clear aw c
   induction F with
   |nil=>cases a
   |cons p r ih =>
    obtain⟨k,u⟩:=p;rw [gX]at a;split at a
    .rename_i e;simp only [a8]at a;subst e;subst a;simp
    .exact kh _ (ih a)
  exact⟨eG.mp (ea.1 aw _ hm),by rw [J.q1];exact a,f (c _ (dV.2 ⟨_,hm,rfl⟩))⟩
 .intro i ah _;exact T.qZ (by simpa using ea.1 m i (er.2 ah))
 .intro i _ _;rfl
 .intro i _ k;exact k
variable {C:(Nat->Prop)->World->Prop}
def bj.N6{P:Program}[ik C]{f:FuncId}{args:List J}{h Z:T}{v:J}(k:bj P C f args h v Z)(r:Nat->Nat)(v2:J)(K:Nat)(l:List (Nat×aa))
 (s:l.map (λp=>Z.get (r p.1))=l.map (λp=>some (p.2.aO r))) (w:v=v2.aO r) (n:l.all (λp=>Nat.blt p.1 K)=true) (u:((l.map (·.1)).map r).Nodup)
 (d:(List.range h.M).all (λi=>(l.map (·.1)).contains i&&Nat.beq (r i) i)=true) (t:l.all (λp=>Nat.blt p.1 h.M || Nat.ble h.M (r p.1))=true) (aw:Nat.ble h.M K=true)
 (y:bR (b3 (l.map (·.1))) v2) (aj:aX (l.map λp=> ∀e∈p.2.bg,bR (b3 (l.map (·.1))) e)):bj P C f args h v2 (T.rows K l):=by
 have g:∀i b,(T.rows K l).get i=some b->i<K/\Z.get (r i)=some (b.aO r):=by intro i b k;have hm:=T.pC k;refine⟨eG.mp (ea.1 n _ hm),?_⟩;obtain⟨j,c,e⟩:=ly.1 hm;have Y:=dm (fun(x:List (Option aa))=>x[j]?) s;simp only [hD,ds c,eE,e,a8]at Y;exact Y
 have m:∀{v:J},bR (b3 (l.map (·.1))) v->bR (In (T.rows K l)) v:=bR.mono λi ah=>T.qZ ah
 refine k.aO (r:=r) ⟨λi b k=>⟨by rw [T.wj];exact(g i b k).1,(g i b k).2⟩,?_,?_⟩ w (m y) ?_ ?_ ?_ (by rw [T.wj];exact hU aw)
 .intro i j ah c e;have ah:=T.q0 ah;have c:=T.q0 c;obtain⟨a,o,rfl⟩:=ly.1 ah;obtain⟨b,q,rfl⟩:=ly.1 c;have Y:((l.map (·.1)).map r)[a]'(by simpa using o)=((l.map (·.1)).map r)[b]'(by simpa using q):=by simpa using e
  have:=(sq u).1 Y;subst this;rfl
 .intro i b k e he;have hm:=T.pC k;exact m (aj _ (dV.2 ⟨_,hm,rfl⟩) e he)
 .intro i ah _;have:=ea.1 d i (er.2 ah);simp only [cC]at this;exact T.qZ (by simpa using this.1)
 .intro i ah _;have:=ea.1 d i (er.2 ah);simp only [cC]at this;exact iZ this.2
 .intro i ah z;have ah:=T.q0 ah;obtain⟨p,hm,rfl⟩:=dV.1 ah;have:=ea.1 t p hm;simp only [eC]at this;rcases this with Y|Y
  .exact eG.mp Y
  .have:=hU Y;omega
def T.lL:Nat->List aa->T->T
 |_,[],h=>h
 |i,b::r,h=>T.lL (i+1) r (h.set i b)
def T.of(l:List aa):T:=T.lL 0 l ⟨l.length,.nil⟩
def T.wl:∀(l:List aa)(i:Nat)(h:T)(j:Nat),(T.lL i l h).get j=if i<=j/\j<i+l.length then l[j-i]? else h.get j
 |[],i,h,j=>by simp only [T.lL,cq];rw [ai A]
 |b ::r,i,h,j=>by
  simp only [T.lL,T.wl r,bK,T.iK];by_cases e:i=j
  .subst e;rw [ai A,az rfl,az A];simp
  .by_cases c:i+1<=j/\j<i+1+r.length
   .rw [az c,az A,show j-i=(j- (i+1))+1 by omega];simp
   .rw [ai c,ai e,ai A]
def T.zU:∀(l:List aa)(i:Nat)(h:T),(T.lL i l h).M=h.M
 |[],i,h=>rfl
 |b::r,i,h=>by simp only [T.lL,T.zU r];rfl
@[simp] theorem T.of_next(l:List aa) : (T.of l).M = l.length := T.zU _ _ _
def T.dI(l:List aa)(j:Nat):(T.of l).get j=l[j]? :=by
 unfold T.of;rw [T.wl];split
 .simp
 .rw [ib A];rfl
def T.q2{l:List aa} :In (T.of l) j↔j<l.length:=by unfold In;rw [T.dI];simp
def cP(ids:List Nat)(n i:Nat):Nat :=
 match ids[i]? with
 |some j=>j
 |none=>n+(i-ids.length)
def T.jO:List Nat->List aa->T->T
 |j::ids,b::r,h=>T.jO ids r (h.set j b)
 |[],r,h=>T.lL h.M r {h with M:=h.M+r.length}
 |_::_,[],h=>h
def T.dY(h:T)(ids:List Nat)(l:List aa):T:=T.jO ids l h
def T.zV:∀(ids:List Nat)(l:List aa)(h:T),ids.length<=l.length->(T.jO ids l h).M=h.M+(l.length-ids.length)
 |[],l,h,_=>by simp [T.jO,T.zU]
 |j::ids,[],h,k=>by simp at k
 |j::ids,b::r,h,k=>by simp only [T.jO];rw [T.zV ids r _ (by simpa using k)];simp
def T.s8:∀(ids:List Nat)(l:List aa)(h:T)(j:Nat),ids.length<=l.length->j<h.M->j ∉ ids->(T.jO ids l h).get j=h.get j
 |[],l,h,j,_,a,_=>by simp only [T.jO];rw [T.wl,ai A];rfl
 |i::ids,[],h,j,k,_,_=>by simp at k
 |i::ids,b::r,h,j,k,a,hm=>by simp only [dR,not_or]at hm;simp only [T.jO];rw [T.s8 ids r (h.set i b) j (by simpa using k) a hm.2,T.dN _ _ (lA hm.1)]
def T.zW:∀(ids:List Nat)(l:List aa)(h:T)(i:Nat),ids.length<=l.length->ids.Nodup->(∀j∈ids,j<h.M)->i<l.length->(T.jO ids l h).get (cP ids h.M i)=l[i]?
 |[],l,h,i,_,_,_,ah=>by simp only [T.jO,cP,List.getElem?_nil,cq,o6];rw [T.wl,az A];congr 1;omega
 |j::ids,[],h,i,k,_,_,_=>by simp at k
 |j ::ids,b::r,h,i,k,a,c,ah=>by
  simp only [qx]at a;simp only [T.jO];cases i with
  |zero =>
   simp only [cP,fR];rw [T.s8 ids r (h.set j b) j (by simpa using k) (c j au) a.1,T.eD]
  |succ i =>
   have e:cP (j::ids) h.M (i+1)=cP ids (h.set j b).M i:=by
    simp only [cP,hj,bK,T.Mg];cases ids[i]? with
    |some x=>rfl
    |none=>simp only;omega
   rw [e,T.zW ids r (h.set j b) i (by simpa using k) a.2 (λx d=>c x (by simp [d])) (by simpa using ah)];simp
def bj.up{P:Program}[ik C]{f:FuncId}{args:List J}{v:J}{l a:List aa}(k:bj P C f args (T.of l) v (T.of a))(g:∀b∈l,cu b)(o:∀b∈a,cu b)(t:l.length<=a.length)(m:dO (λi=>i<l.length) args)
 {H H':T} (ids:List Nat) (aw:ids.Nodup) (u:∀j∈ids,j<H.M) (h:ids.map H.get=l.map some) (q:H'.M=H.M+(a.length-l.length)) (n:∀i,i<a.length->H'.get (cP ids H.M i)=a[i]?)
 (s:∀j,j<H.M->j ∉ ids->H'.get j=H.get j):bj P C f (args.map (J.aO (cP ids H.M))) H (v.aO (cP ids H.M)) H':=by
 have hlen:ids.length=l.length:=by have:=dm List.length h;simpa using this
 have c:∀i (ah:i<ids.length),cP ids H.M i=ids[i]:=λi ah=>by simp [cP,ds ah]
 refine k.frame (r:=cP ids H.M) ⟨?_,?_,?_⟩ ?_ ?_ ?_ ?_ ?_
 .intro i b ab;rw [T.dI]at ab;have ah:=(e4.1 ab).1;refine⟨by rw [T.of_next];exact ah,?_⟩;rw [(g b (gx ab)).aO,c i A];have Y:=dm (fun(x:List (Option aa))=>x[i]?) h;simp only [hD,ds (show i<ids.length by omega),eE,ab,a8]at Y;exact Y
 .intro i j ah d e;rw [T.q2]at ah d;rw [c i A,c j A]at e;exact(sq aw).1 e
 .intro i b ab e he;rw [T.dI]at ab;exact(g b (gx ab) e he).dj _
 .exact dO.mono (λi ah=>T.q2.2 ah) m
 .intro i ah;rw [T.of_next]at ah;simp only [cP,ib (show ids.length<=i by omega),T.of_next,hlen]
 .intro i b ab _;rw [T.dI]at ab;rw [(o b (gx ab)).aO,n i (e4.1 ab).1,ab]
 .rw [q];simp
 .intro j d p;refine s j d λhm=> ?_
  obtain⟨i,ah,e⟩:=ly.1 hm;exact p i (T.q2.2 A) (by rw [c i ah];exact e)
def bj.N7{P:Program}[ik C]{f:FuncId}{args:List J}{v:J}{l:List aa}(k:bj P C f args (T.of l) v (T.of l))(c:∀b∈l,cu b)(d:dO (λi=>i<l.length) args)
 {H:T} (ids:List Nat) (aw:ids.Nodup) (e:∀j∈ids,j<H.M) (a:ids.map H.get=l.map some):bj P C f (args.map (J.aO (cP ids H.M))) H (v.aO (cP ids H.M)) H:=by
 have hlen:ids.length=l.length:=by have:=dm List.length a;simpa using this
 refine k.up c c (Nat.le_refl _) d ids aw e a au (λi ah=> ?_) λ_ _ _=>rfl
 have Y:=dm (fun(x:List (Option aa))=>x[i]?) a;simp only [hD,ds (show i<ids.length by omega),ds ah,eE,a8]at Y;simp only [cP,ds (show i<ids.length by omega),Y,ds ah]
def bj.N8{P:Program}[ik C]{f:FuncId}{args:List J}{v:J}{l a:List aa}(k:bj P C f args (T.of l) v (T.of a))(g:∀b∈l,cu b)(h:∀b∈a,cu b)(n:l.length<=a.length)(e:dO (λi=>i<l.length) args)
 {H:T} (ids:List Nat) (aw:ids.Nodup) (d:∀j∈ids,j<H.M) (c:ids.map H.get=l.map some):bj P C f (args.map (J.aO (cP ids H.M))) H (v.aO (cP ids H.M)) (H.dY ids a):=by
 have hlen:ids.length=l.length:=by have:=dm List.length c;simpa using this
 refine k.up g h n e ids aw d c ?_ ?_ ?_
 .rw [<-hlen];exact T.zV ids a H A
 .intro i ah;exact T.zW ids a H i A aw d ah
 .intro j m hm;exact T.s8 ids a H j A m hm
def bj.zX{P:Program}[ik C]{f:FuncId}{args:List J}{v:J}{l l2:List aa}(k:bj P C f args (T.of l) v (T.of (l++l2)))(d:∀b∈l,cu b)(m:∀b∈l2,cu b)(h:dO (λi=>i<l.length) args)
 {H:T} (ids:List Nat) (aw:ids.Nodup) (g:∀j∈ids,j<H.M) (a:ids.map H.get=l.map some):bj P C f (args.map (J.aO (cP ids H.M))) H (v.aO (cP ids H.M)) (H.dY [] l2):=by
 have hlen:ids.length=l.length:=by have:=dm List.length a;simpa using this
 refine k.up d (λb hm=>(hi.1 hm).elim (d b) (m b)) au h ids aw g a ?_ ?_ ?_
 .show(T.jO [] l2 H).M=_;rw [T.zV [] l2 H au];simp
 .intro i ah;show(T.jO [] l2 H).get _=_;by_cases c:i<ids.length
  .have Y:=dm (fun(x:List (Option aa))=>x[i]?) a;simp only [hD,ds c,ds (show i<l.length by omega),eE,a8]at Y;simp only [cP,ds c];rw [T.s8 [] l2 H _ au (g _ (ic c)) au,Y,mq A,ds (show i<l.length by omega)]
  .have e:cP ids H.M i=cP [] H.M (i-ids.length):=by simp [cP,ib (show ids.length<=i by omega)]
   rw [dt]at ah;rw [e,T.zW [] l2 H (i-ids.length) au au au A,o5 A,hlen]
 .intro j n hm;exact T.s8 [] l2 H j au n au
def hZ:Nat->List aa->List (Nat×aa)
 |_,[]=> []
 |i,b::r=>(i,b)::hZ (i+1) r
def T.Fi:∀(l:List aa)(i:Nat)(h:T),T.lL i l h=(hZ i l).foldl (λh p=>h.set p.1 p.2) h
 |[],i,h=>rfl
 |b::r,i,h=>by simp only [T.lL,hZ,hT];exact T.Fi r _ _
def T.N9(l:List aa):T.of l=T.rows l.length (hZ 0 l):=T.Fi _ _ _
def Fj:∀(l:List aa)(i:Nat),(hZ i l).map (·.1)=List.range' i l.length
 |[],i=>rfl
 |b::r,i=>by simp only [hZ,ei,Fj r,bK,sj]
def zY:∀(l:List aa)(i:Nat),(hZ i l).map (·.2)=l
 |[],i=>rfl
 |b::r,i=>by simp only [hZ,ei,zY r]
def List.Nodup.N'{f:Nat->Nat}(h:∀a∈List.range n,∀b∈List.range n,f a=f b->a=b):((List.range n).map f).Nodup:=by rw [sr,List.pairwise_map];refine List.Pairwise.imp_of_mem ?_ (vc (n:=n));intro a b c d g e;exact g (h a c b d e)
def e1(k:Nat)(a:List Nat)(i:Nat):Nat:=if i<k then i else(a[i-k]?).getD 0
def bj.fin{P:Program}[ik C]{f:FuncId}{args:List J}{Z:T}{v:J}{l:List aa}(k:bj P C f args (T.of l) v Z)(g:List Nat)(d:List aa)(v2:J)(w:∀b∈d,cu b)
 (hlen:d.length=l.length+g.length) (y:(List.range d.length).map (λi=>Z.get (e1 l.length g i))=d.map some) (G:v=v2.aO (e1 l.length g)) (H:bR (λi=>i<d.length) v2)
 (B:g.all (λj=>Nat.ble l.length j)=true) (E:g.Nodup):bj P C f args (T.of l) v2 (T.of d):=by
 have o:(hZ 0 d).map (·.1)=List.range d.length:=by rw [Fj,sk]
 have u:∀j∈g,l.length<=j:=λj z=>hU (ea.1 B j z)
 have r:∀i,l.length<=i->i<d.length-> ∃(h:i-l.length<g.length),e1 l.length g i=g[i-l.length]:=by intro i Y ag;have m:i-l.length<g.length:= A;exact⟨m,by simp only [e1,ai (show ¬i<l.length by omega),ds m,pa]⟩
 rw [T.N9 d];refine k.N6 (e1 l.length g) v2 d.length (hZ 0 d) ?_ G ?_ ?_ ?_ ?_ (Nat.ble_eq.mpr ?_) ?_ ?_
 .have Y:(hZ 0 d).map (λp=>Z.get (e1 l.length g p.1))=((hZ 0 d).map (·.1)).map (λi=>Z.get (e1 l.length g i)):=by rw [o8];rfl
  have ag:(hZ 0 d).map (λp=>some (p.2.aO (e1 l.length g)))=((hZ 0 d).map (·.2)).map (λb=>some (b.aO (e1 l.length g))):=by rw [o8];rfl
  rw [Y,ag,o,zY,y];exact i' λb hm=>by rw [(w b hm).aO]
 .rw [ea];intro p ae;have:p.1∈(hZ 0 d).map (·.1):=dV.2 ⟨p,ae,rfl⟩;rw [o]at this;exact eG.mpr (er.1 this)
 .rw [o];refine List.Nodup.N' ?_;intro a s b t e;have s:=er.1 s;have t:=er.1 t;by_cases cL:a<l.length<;>by_cases c2:b<l.length
  .simpa [e1,cL,c2]using e
  .obtain⟨m,n⟩:=r b A t;rw [n,show e1 l.length g a=a by simp [e1,cL]]at e;have:=u _ (ic m);omega
  .obtain⟨m,n⟩:=r a A s;rw [n,show e1 l.length g b=b by simp [e1,c2]]at e;have:=u _ (ic m);omega
  .obtain⟨m,n⟩:=r a A s;obtain⟨I,x⟩:=r b A t;rw [n,x]at e;have:=(sq E).1 e;omega
 .rw [ea,T.of_next];intro i ah;have ah:=er.1 ah;rw [o,cC];exact⟨by simp;omega,beq_true (by simp [e1,ah])⟩
 .rw [ea,T.of_next];intro p ae;have:p.1∈(hZ 0 d).map (·.1):=dV.2 ⟨p,ae,rfl⟩;rw [o]at this;have D:=er.1 this;rw [eC];by_cases c:p.1<l.length
  .exact .inl (eG.mpr c)
  .obtain⟨m,n⟩:=r p.1 A D;exact .inr (Nat.ble_eq.mpr (by rw [n];exact u _ (ic m)))
 .rw [T.of_next];omega
 .rw [o];exact bR.mono (λi ah=>er.2 ah) H
 .intro p ae;obtain⟨q,F,rfl⟩:=dV.1 ae;intro e he;exact(w q.2 (by have:q.2∈(hZ 0 d).map (·.2):=dV.2 ⟨q,F,rfl⟩;rwa [zY]at this) e he).dj _
def bj.pure{P:Program}[ik C]{f:FuncId}{args:List J}{Z:T}{v:J}{l:List aa}(k:bj P C f args (T.of l) v Z)(c:∀b∈l,cu b)(e:(List.range l.length).map Z.get=l.map some)(a:b0 v)
 (d:dO (λi=>i<l.length) args) {H:T} (ids:List Nat) (aw:ids.Nodup) (h:∀j∈ids,j<H.M) (g:ids.map H.get=l.map some):bj P C f (args.map (J.aO (cP ids H.M))) H v H:=by
 have m:=k.fin [] l v c au (by
  rw [<-e]
  exact i' λi ah=>by rw [show e1 l.length [] i=i by simp [e1,er.1 ah]]) (a.1 _).symm (a.dj _) rfl au
 have n:=m.N7 c d ids aw h g
 rwa [a.1]at n
def bj.zZ{P:Program}[ik C]{f:FuncId}{args:List J}{Z:T}{j es n c ad:Nat}{l:List aa}{bn:aa}(k:bj P C f args (T.of l) (.slice (some ⟨j,ad,0,0,es⟩) n c) Z)(a:∀b∈l,cu b)(d:cu bn)
 (o:(List.range l.length).map Z.get=l.map some) (r:Z.get j=some bn) (p:l.length<=j) (m:dO (λi=>i<l.length) args) {H:T} (ids:List Nat) (aw:ids.Nodup) (q:∀j∈ids,j<H.M) (g:ids.map H.get=l.map some) :
 bj P C f (args.map (J.aO (cP ids H.M))) H (.slice (some ⟨H.M,ad,0,0,es⟩) n c) (H.dY [] [bn]):=by
 have hlen:ids.length=l.length:=by have:=dm List.length g;simpa using this
 have s:=k.fin [j] (l++[bn]) (.slice (some ⟨l.length,ad,0,0,es⟩) n c) (λb hm=>(hi.1 hm).elim (a b) (λh=>by rw [cF.1 h];exact d)) au (by
  rw [dt,qA,List.range_succ,nH,nH]
  congr 1
  .rw [<-o];exact i' λi ah=>by rw [show e1 l.length [j] i=i by simp [e1,er.1 ah]]
  .simp [e1,r]) (by simp [J.aO,bB.aO,e1]) (by simp [bR]) (by simp [p]) au
 have t:=s.zX a (λb hm=>by rw [cF.1 hm];exact d) m ids aw q g
 have e:(J.slice (some ⟨l.length,ad,0,0,es⟩) n c).aO (cP ids H.M)=.slice (some ⟨H.M,ad,0,0,es⟩) n c:=by simp only [J.aO,bB.aO,cP,ib (show ids.length<=l.length by omega),hlen,Nat.sub_self,qq]
 rwa [e]at t
def cv.more{φ:Map}{S:Nat->Prop}{h ag:T}{w:World}(r:cv φ S h w)(aw:h.M<=ag.M)(ab:∀i,i<h.M->ag.get i=h.get i):cv φ S ag w where
 cN i v p ae:=by obtain⟨Y,b,a,c⟩:=r.cN i v p ae;exact⟨kf Y aw,b,by rw [ab i Y];exact a,c⟩
 apart:=r.apart
 same:=r.same
def bj.pad{P:Program}[ik C]{f:FuncId}{args:List J}{h Z ag:T}{v:J}(k:bj P C f args h v Z)(aw:Z.M<=ag.M)(ab:∀i,i<Z.M->ag.get i=Z.get i):bj P C f args h v ag :=
 λS aV l g φ w b j d c=>by obtain⟨g1,g2⟩:=k S aV l g φ w b j d c;exact⟨g1,g2.mono λe a7 ⟨m,n,aq,a2,a3,a4,a5,a⟩=>⟨m,n,aq,a2,a3,a4.more aw ab,a5,Nat.le_trans a aw⟩⟩
def n4(n:Nat)(h:T):hW n h h=true:=aI.vn aa.sN n h.aF h.aF 0 1 λ_ _=>rfl
def s9(o:Option bB)(n c id ad off es:Nat):Prop:=o=some ⟨id,ad,off,0,es⟩\/(o=none/\n=0/\c=0)
def s9.index{o:Option bB}{c id ad es:Nat}(h:s9 o n c id ad off es){D:cV}{t e:TypeId}{d cg:nM}(a:D t=some d)(f:d.kind=.slice e)(g:D e=some cg)(b:es=cg.size){k:IntKind}{i:Int}(aM:0<=i)(ah:i<n) :
 iM D t (.slice o n c) (.int k i)=some (.ptr (some ⟨id,ad,off+i.toNat,0,es⟩)):=by
 rcases h with rfl|⟨_,rfl,_⟩
 .simp only [iM,a,f,g];rw [az ⟨aM,ah,b,trivial⟩]
 .omega
structure n5(D:cV)(t e:TypeId)(sz jm:Nat):Prop where
 ty:∃d cg,D t=some d/\d.kind=.slice e/\D e=some cg/\cg.size=sz/\cg.bytes=jm/\0<sz/\cg.pg=true
section
variable {E:bi}{t e:TypeId}{sz jm nid:Nat}{h:T}{x:J}{new:List J}
def pD(hs:n5 E.D t e sz jm)(s:J):eY E .append #[t,t] [s,x] nid h=fA E.D t s x nid h:=by obtain⟨d,cg,Y,ag,a,rfl,rfl,b,c⟩:=hs.ty;simp only [eY,List.getElem?_toArray,fR,hj,Y,ag]
def Oa(hs:n5 E.D t e sz jm)(k:ed sz x h=some new)(j:new≠[])(g:(new.length+new.length/4+512)*jm<=2^48)(i:new.length<2^62) :
 eY E .append #[t,t] [.slice none 0 0,x] nid h=some (hF nid sz new.length new.length,h.set nid (.an new sz false (some (e,0)))):=by
 rw [pD hs];obtain⟨d,cg,Y,ag,a,rfl,rfl,b,f⟩:=hs.ty;have aw:¬0+new.length=0:=by rw [gw];intro c;exact j (pc c)
 simp only [fA,Y,ag,a,k];rw [az ⟨b,by simpa using g,by simpa using i,f⟩];rw [ai aw,az ⟨trivial,trivial⟩,gw]
variable {cap len:Nat}
def Fk(hs:n5 E.D t e sz jm)(s:ed sz x h=some new)(r:new≠[]){a:bB}{b:aa}(n:((len+new.length)+(len+new.length)/4+512)*jm<=2^48)(q:len+new.length<2^62)
 (ab:h.get a.id=some b) (p:a.es=sz/\a.fld=0) (o:¬len+new.length<=cap) (j:b.exact=false) (k:b.ro=false) (l:a.ad=b.ad) (m:a.idx+len=b.bg.length) (c:b.ty=none\/b.ty=some (e,0)) :
 eY E .append #[t,t] [.slice (some a) len cap,x] nid h=some (.slice (some {a with ad:=a.ad+1}) (len+new.length) (len+new.length),h.set a.id (b.grow new)):=by
 rw [pD hs];obtain⟨d,cg,Y,ag,f,rfl,rfl,g,i⟩:=hs.ty;simp only [fA,Y,ag,f,s];rw [az ⟨g,n,q,i⟩];rw [az p];simp only [ab];rw [ai o,ai (by rw [j];simp),az ⟨k,l,m,r,c⟩]
def Ob(hs:n5 E.D t e sz jm)(o:ed sz x h=some new){a:bB}{b:aa}{old:List J}(j:((len+new.length)+(len+new.length)/4+512)*jm<=2^48)(m:len+new.length<2^62)
 (ab:h.get a.id=some b) (l:a.es=sz/\a.fld=0) (k:¬len+new.length<=cap) (i:b.exact=true) (n:ed sz (.slice (some a) len cap) h=some old) :
 eY E .append #[t,t] [.slice (some a) len cap,x] nid h=some (hF nid sz (len+new.length) (len+new.length),h.set nid (.an (old++new) sz false (some (e,0)))):=by
 rw [pD hs];obtain⟨d,cg,Y,ag,c,rfl,rfl,f,g⟩:=hs.ty;simp only [fA,Y,ag,c,o];rw [az ⟨f,j,m,g⟩];rw [az l];simp only [ab];rw [ai k,az i];simp only [n]
def z1(hs:n5 E.D t e sz jm)(l:ed sz x h=some []){o:Option bB}{b:aa}(i:(len+len/4+512)*jm<=2^48)(k:len<2^62)
 (ab:∀a,o=some a->h.get a.id=some b/\a.es=sz/\a.fld=0) (j:len<=cap) (aw:o=none->len=0):eY E .append #[t,t] [.slice o len cap,x] nid h=some (.slice o len cap,h):=by
 rw [pD hs];obtain⟨d,cg,Y,ag,c,rfl,rfl,f,g⟩:=hs.ty;simp only [fA,Y,ag,c,l];rw [az ⟨f,by simpa using i,by simpa using k,g⟩];cases o with
 |none=>have:=aw rfl;subst this;simp
 |some a =>
  obtain⟨m,n⟩:=ab a rfl;simp only;rw [az n];simp only [m];rw [az (by simpa using j),az trivial];simp
end
def Oc{h:T}{o:Option bB}{c id ad sz:Nat}(hs:s9 o n c id ad off sz)(ab:h.get id=some b){f:Nat->J}(e:∀j,j<n->b.elem? ad (off+j)=some (f j)) :
 ed sz (.slice o n c) h=some ((List.range n).map f):=by
 rcases hs with rfl|⟨rfl,rfl,rfl⟩
 .simp only [ed,dG,ab];by_cases aw:n=0
  .subst aw;simp
  .rw [ai aw]
   have key:∀j,j<n->off+j<b.b6 ad/\b.bg[off+j]? =some (f j):=by
    intro j a;have:=e j a;unfold aa.elem? at this;split at this
    .exact⟨‹_›,this⟩
    .cases this
   have d:=key (n-1) A;have hlen:=(e4.1 d.2).1;rw [az ⟨A,A⟩]
   congr 1
   apply o9;intro j;by_cases a:j<n
   .rw [ke,az a,lx,(key j a).2];simp [a]
   .rw [ke,ai a,ib (by simp;omega)]
 .simp [ed]
def b2.round{P:Program}{base:Nat}{c:Code}{F a b:bc}{h Y d ag:T}{e:b8}(f:cO P C base n c F h .normal a Y)(i:bW base n a Y a d)(g:b2 P C base n c a d e b ag):b2 P C base n c F h e b ag :=
 b2.step (f.post i) g
end
end Go.br
namespace Go.Proofs.zz
open Go.br Go.Shelf
def Fl:Ren where
 f:=λx=>if x=129 then 136 else if x=284 then 120 else if x=317 then 135 else if x=318 then 137 else 0
 t:=λx=>if x=0 then 0 else if x=3 then 3 else if x=4 then 4 else if x=5 then 5 else if x=9 then 9 else if x=46 then 108 else if x=53 then 151 else if x=212 then 179 else 0
 g:=λx=>if x=17 then 5 else 0
def Od:Lays.n284 Tryz.prog Fl:=by constructor;all_goals first|kernel_rfl|(intro w;kernel_rfl)
def Oe:LaysM.n284 Tryz.prog Fl:=by constructor;all_goals first|exact Od|kernel_rfl
end Go.Proofs.zz
namespace Go.Proofs.zz
open Go.br
structure cz(aR:Nat->Prop)(w:World):Prop where
 p:aR 5
 pow:Lib.TabIs Tryz.prog w "internal/strconv.uint64pow10" .u64 Lib.pow10Tab
 q:aR 0
 z6:Lib.TabIs Tryz.prog w "strings.asciiSpace" .u8 Lib.asciiSpaceTab
 s:aR 3
 Fm:∃te pe,w.cell? ⟨3,0,none⟩=some (.iface te pe)
 r:aR 4
 Fo:∃te pe,w.cell? ⟨4,0,none⟩=some (.iface te pe)
 x:aR 2
 mx:∃m,w.cell? ⟨2,0,none⟩=some (.int .i64 m)
def z7:Tryz.prog.globalNamed "internal/strconv.uint64pow10" =some 5:= ao
def z8:Tryz.prog.globalNamed "strings.asciiSpace" =some 0:= ao
def Fp{w a7:World}{n:String}{g:Nat}{k:IntKind}{t:List Int}(ab:Tryz.prog.globalNamed n=some g)(a:a7.heap[g]? =w.heap[g]?)(h:Lib.TabIs Tryz.prog w n k t):Lib.TabIs Tryz.prog a7 n k t:=by unfold Lib.TabIs World.var? at h⊢;rw [ab]at h⊢;simp only [qw]at h⊢;rw [a];exact h
def cz.keep{aR sU:Nat->Prop}{aV w:World}(h:cz aR aV)(hs:Go.br.Safe aR aV w)(aw:∀x,aR x->sU x):cz sU w where
 p:=aw _ h.p
 pow:=Fp z7 (hs.block _ h.p) h.pow
 q:=aw _ h.q
 z6:=Fp z8 (hs.block _ h.q) h.z6
 s:=aw _ h.s
 Fm:=by obtain⟨b,a,e⟩:=h.Fm;exact⟨b,a,by rw [World.cell?_of_block (hs.block _ h.s)];exact e⟩
 r:=aw _ h.r
 Fo:=by obtain⟨b,a,e⟩:=h.Fo;exact⟨b,a,by rw [World.cell?_of_block (hs.block _ h.r)];exact e⟩
 x:=aw _ h.x
 mx:=by obtain⟨m,e⟩:=h.mx;exact⟨m,by rw [World.cell?_of_block (hs.block _ h.x)];exact e⟩
instance:ik cz where
 mono _ eh hs aw:=eh.keep hs aw
def hK(n:Nat):Nat :=
 if n<10 then 1 else if n<100 then 2 else if n<1000 then 3 else if n<10000 then 4 else if n<100000 then 5 else if n<1000000 then 6 else if n<10000000 then 7 else if n<100000000 then 8 else if n<1000000000 then 9 else 10
def Fq(n:Nat)(h:n<10000000000):hK n=Lib.nDigits n:=by
 unfold hK
 repeat' split
 .exact(Lib.nDigits_small ‹_›).symm
 .exact(Lib.nDigits_unique 1 n A A).symm
 .exact(Lib.nDigits_unique 2 n A A).symm
 .exact(Lib.nDigits_unique 3 n A A).symm
 .exact(Lib.nDigits_unique 4 n A A).symm
 .exact(Lib.nDigits_unique 5 n A A).symm
 .exact(Lib.nDigits_unique 6 n A A).symm
 .exact(Lib.nDigits_unique 7 n A A).symm
 .exact(Lib.nDigits_unique 8 n A A).symm
 .exact(Lib.nDigits_unique 9 n A A).symm
def wm:vt:=λargs h =>
 match args with
 |[.int .u64 n]=>if 1<=n/\n<10000000000 then some (.int .i64 (hK n.toNat),h)else none
 |_=>none
def Fs:zg Tryz.prog cz 120 wm:=by
 intro aR aV o eh args h v Z ab φ w f i c b;unfold wm at ab;split at ab
 .rename_i n;split at ab
  .rename_i aw;simp only [a8,bC]at ab;obtain⟨rfl,rfl⟩:=ab;obtain⟨l⟩:=f;simp only [bo]at b;obtain⟨a,t,rfl,d,rfl⟩:=b;simp only [aA]at d;subst d;have g:=eh.keep c λ_ m=>m
   refine⟨⟨Tryz.f120,_,ao,rfl⟩,?_⟩;have k:=Any.internal_strconv_numDigits Oe n.toNat A A w g.pow;rw [ja A]at k;refine k.mono λe a7 j=> ?_
   obtain⟨he,hw⟩:=j;subst hw;exact⟨_,φ,he,dM.refl _ _,by simp only [aA];rw [Fq _ A],i,c,Nat.le_refl _⟩
  .cases ab
 .cases ab
noncomputable def env:bi:= {cond:=cz,qH:=λf=>if f=120 then some wm else none,D:=vo Tryz.prog,eqs:=[42],ext:=λf=>if f=170 then some 0 else if f=133 then some 1 else none}
instance:ik env.cond:=inferInstanceAs (ik cz)
def c6:fa Tryz.prog env where
 fW:=cV.Nw _
 eqs:=Ny (by decide+kernel)
 names:=Nx (by decide+kernel)
 Er:=λf g h=>by
  simp only [env]at h;split at h
  .rename_i e;subst e;simp only [a8]at h;subst h;exact Fs
  .cases h
 Es :=λf k h=>by
  simp only [env]at h;split at h
  .rename_i e;subst e;simp only [a8]at h;subst h;exact⟨Tryz.f170,_,ao,ao,ao,ao,rfl⟩
  .split at h
   .rename_i e;subst e;simp only [a8]at h;subst h;exact⟨Tryz.f133,_,ao,ao,ao,ao,rfl⟩
   .cases h
def mixed:Tryz.prog.follows .mixedOrders=true:=by decide+kernel
end Go.Proofs.zz
namespace Go.br
noncomputable section
open Go.RowKit
inductive b7:Type 1 where
 |nil
 |aG (x:Hint) (r:b7)
 |al (i:Nat) (y n:b7)
 |cases (i:Nat) (p:Prop) (y n:b7)
 |ex (i:Nat) {α:Type} (p:α->Prop) (f:α->b7)
 |skip (i:Nat) (r:b7)
def h0:List Prop->Prop->Prop
 |[],k=>k
 |p::r,k=>p/\h0 r k
def iQ:∀{l:List Prop}{k:Prop},h0 l k->aX l/\k
 |[],k,h=>⟨aX.nil,h⟩
 |p::r,k,h=>⟨aX.cons h.1 (iQ h.2).1,(iQ h.2).2⟩
abbrev jn:=J->T->b7->List eZ->Prop
abbrev n6:=FuncId->List J->T->b7->(J->T->b7->Prop)->Prop
abbrev s':=b8->bc->T->b7->Prop
def z'(ρ:Operand->J)(o:Op):Option (Prop×Bool) :=
 match o with
 |.binOp op t x y _ =>
  match ρ x,ρ y with
  |.int k a,.int k' b =>
   match decEq k k' with
   |isTrue _ =>
    match op with
    |.eql=>some (a=b,true)
    |.neq=>some (a=b,false)
    |.lss=>some (a<b,true)
    |.leq=>some (a<=b,true)
    |.gtr=>some (b<a,true)
    |.geq=>some (b<=a,true)
    |_=>none
   |isFalse _=>none
  |.str a,.str b =>
   match op with
   |.eql=>some (a=b,true)
   |.neq=>some (a=b,false)
   |_=>none
  |_,_=>none
 |_=>none
def Ft{E:bi}{ρ:Operand->J}{o:Op}{p:Prop}{b:Bool}(k:z' ρ o=some (p,b))(call:cR)(nid:Nat)(h:T):(p->bt E call nid ρ h o=some (.bool b,h))/\(¬p->bt E call nid ρ h o=some (.bool (!b),h)):=by
 cases o<;>simp only [z']at k<;>try (cases k;done)
 rename_i op t x y ty;split at k
 .rename_i g a i c d e;split at k
  .rename_i f _;subst f;split at k<;>first|(cases k;done)|(simp only [a8,bC]at k)
   all_goals (obtain⟨rfl,rfl⟩:=k)
   all_goals (constructor<;>intro ae<;>simp [bt,d,e,hn,ig,ae])
   all_goals omega
  .cases k
 .rename_i a c d e;split at k<;>first|(cases k;done)|(simp only [a8,bC]at k)
  all_goals (obtain⟨rfl,rfl⟩:=k)
  all_goals (constructor<;>intro ae<;>simp [bt,d,e,hn,su,ae])
 .cases k
inductive dx where
 |one (v:J) (h:T) (ps:List Prop)
 |or (p:Prop) (a b:dx)
 |some (v:J) (ps:List Prop) (p:T->Prop)
def dx.cG(P:Program)(C:(Nat->Prop)->World->Prop)(f:FuncId)(args:List J)(h:T):dx->Prop
 |.one v Z ps=>aX ps->bj P C f args h v Z
 |.or p a b=>(p->dx.cG P C f args h a)/\(¬p->dx.cG P C f args h b)
 |.some v ps p=>aX ps-> ∃Z,bj P C f args h v Z/\p Z
abbrev dQ:=FuncId->Option (List J->T->Option dx)
def dC(P:Program)(C:(Nat->Prop)->World->Prop)(S:dQ):Prop:= ∀f g,S f=some g-> ∀args h a,g args h=some a->a.cG P C f args h
def Fu:dQ:=λ_=>none
variable {C:(Nat->Prop)->World->Prop}
def bL{P:Program} :dC P C Fu:=λ_ _ h=>by cases h
def dQ.add(S:dQ)(f:FuncId)(g:List J->T->Option dx):dQ:=λk=>_root_.cond (Nat.beq k f) (some g) (S k)
def dC.add{P:Program}{S:dQ}(k:dC P C S){f:FuncId}{g:List J->T->Option dx}(ab:∀args h a,g args h=some a->a.cG P C f args h):dC P C (S.add f g):=by
 intro c d b;unfold dQ.add at b;rcases kZ c f with ⟨e,e'⟩|⟨e,e'⟩
 .rw [e',cond_true]at b;simp only [a8]at b;subst b;subst e;exact ab
 .rw [e',cond_false]at b;exact k c d b
def aE(l:List UInt8):List J:=l.map λb=> .int .u8 b.toNat
def strOf(l:List J):List UInt8:=(bytesOf l).getD []
def aS(l:List J)(i:Nat):Int:=match l[i]? with|some (.int _ n)=>n|_=>0
def Aa(E:bi)(draw:Bool)(ops:Array Oper)(f i:Nat)(ρ:Operand->J)(h:T)(o:Op):Option (J×T×List Prop) :=
 match o with
 |.convert s d x =>
  match ρ x with
  |.slice (some a) n c =>
   match E.D s,E.D d,h.get a.id with
   |some m,some g,some b =>
    match m.kind,g.kind with
    |.slice e,.string =>
     match E.D e with
     |some j =>
      match j.kind with
      |.int .u8 =>
       cond (Nat.beq a.fld 0&&Nat.beq a.es 1&&(!draw || (je ops i || gB ops f i ρ (.convert s d x))))
        (some (.str (strOf ((b.bg.drop a.idx).take n)),h,[a.ad=b.ad,a.idx+n<=b.bg.length,∃l,(b.bg.drop a.idx).take n=aE l])) none
      |_=>none
     |none=>none
    |_,_=>none
   |_,_,_=>none
  |_=>none
 |.load t x =>
  match ρ x with
  |.ptr (some a) =>
   match E.D t,h.get a.id with
   |some d,some b =>
    match d.kind with
    |.int k =>
     cond (Nat.beq a.fld 0&&Nat.beq d.size 1)
      (some (.int k (aS b.bg a.idx),h,[a.ad=b.ad,b.bg[a.idx]? =some (.int k (aS b.bg a.idx))]++cond draw (gP ops f i ρ h o h) [])) none
    |_=>none
   |_,_=>none
  |_=>none
 |_=>none
def wo:∀(l:List UInt8),bytesOf (aE l)=some l
 |[]=>rfl
 |b::r=>by have:=wo r;unfold aE at this;simp only [aE,ei,bytesOf,this,eE];simp
def gY(l:List UInt8):strOf (aE l)=l:=by unfold strOf;rw [wo];rfl
def Of{P:Program}{E:bi}{draw:Bool}{ops:Array Oper}{q i:Nat}{ρ:Operand->J}{h Z:T}{o:Op}{v:J}{ps:List Prop}(k:Aa E draw ops q i ρ h o=some (v,Z,ps))(ae:aX ps)(call:cR):iO E call ops draw q i ρ h o=some (v,Z):=by
 cases o<;>simp only [Aa]at k<;>try (cases k;done)
 case convert s d x =>
  split at k
  .rename_i a n c m;split at k
   .rename_i K H b hs j ab;split at k
    .rename_i e C D;split at k
     .rename_i I he;split at k
      .rename_i z;cases f:(Nat.beq a.fld 0&&Nat.beq a.es 1&&(!draw || (je ops i || gB ops q i ρ (.convert s d x))))with
       |false=>rw [f]at k;cases k
       |true =>
        rw [f,cond_true]at k;simp only [a8,bC]at k;obtain⟨rfl,rfl,rfl⟩:=k;simp only [cC]at f;have cw:=iZ f.1.1;have cy:=iZ f.1.2;have r:a.ad=b.ad:=ae.head;have g:a.idx+n<=b.bg.length:=ae.tail.head;obtain⟨l,u⟩:∃l,(b.bg.drop a.idx).take n=aE l:=ae.tail.tail.head;have F:b.b6 a.ad=b.bg.length:=by rw [r];simp [aa.b6]
        have p:ed 1 (.slice (some a) n c) h=some (aE l):=by
         by_cases aw:n=0
         .subst aw;simp only [ed,cw,cy,dG,ab];rw [<-u];simp
         .simp only [ed,cw,cy,dG,ab];rw [ai aw,az ⟨by rw [F];exact g,g⟩,u]
        refine we E ?_ ?_ ?_
        .simp only [bt,m,sx,hs,j];rfl
        .simp only [du,m,mw,hs,j,C,D,he,z,p,wo,eE];rw [u,gY]
        .intro y;refine⟨rfl,?_⟩;have:=f.2;rw [y]at this;simpa using this
      .cases k
     .cases k
    .cases k
   .cases k
  .cases k
 case load t x =>
  split at k
  .rename_i a m;split at k
   .rename_i d b j ab;split at k
    .rename_i w B;cases f:(Nat.beq a.fld 0&&Nat.beq d.size 1)with
     |false=>rw [f]at k;cases k
     |true =>
      rw [f,cond_true]at k;simp only [a8,bC]at k;obtain⟨rfl,rfl,rfl⟩:=k;simp only [cC]at f;have cw:=iZ f.1;have r:a.ad=b.ad:=ae.head;have g:b.bg[a.idx]? =some (.int w (aS b.bg a.idx)):=ae.tail.head;refine hJ E ?_ ae.tail.tail;have G:=(e4.1 g).1
      have p:b.elem? a.ad a.idx=some (.int w (aS b.bg a.idx)):=by unfold aa.elem?;rw [az (by rw [r];simpa [aa.b6]using G)];exact g
      simp only [bt,m,a6,j,ab,p,B,iL.isAgg,eK,cw,dG,eE,ey,ez]
    .cases k
   .cases k
  .cases k
section
variable(P:Program)(E:bi)(S:dQ)
def wq(draw:Bool)(ops:Array Oper)(a i:Nat)(F:bc)(h:T)(o:Op):Option (J×T×List Prop×List eZ) :=
 match o with
 |.call c =>
  match c.callee with
  |.value f =>
   match ba F f with
   |.func (.func g) fs cs =>
    match S g with
    |some b =>
     match b (fs++c.args.toList.map (ba F)++cs) h with
     |some (.one v Z ps)=>some (v,Z,ps++cond draw (gP ops a i (ba F) h o Z) [],[⟨g,fs++c.args.toList.map (ba F)++cs,h,v,Z⟩])
     |_=>none
    |none=>none
   |_=>none
  |_=>match lH E draw ops a i F h o []with|some (v,Z,_,cs,ks)=>some (v,Z,cs,ks)|none=>none
 |_=>match lH E draw ops a i F h o []with|some (v,Z,_,cs,ks)=>some (v,Z,cs,ks)|none=>none
def mI(draw:Bool)(ops:Array Oper)(c i:Nat)(F:bc)(o:Op)(g:FuncId)(args:List J)(h:T)(K:jn):dx->b7->Prop
 |.one v Z ps,hs=>h0 (ps++cond draw (gP ops c i (ba F) h o Z) []) (K v Z hs [⟨g,args,h,v,Z⟩])
 |.or p a b,.al _ y n=>(p->mI draw ops c i F o g args h K a y)/\(¬p->mI draw ops c i F o g args h K b n)
 |.or _ _ _,_=>False
 |.some v ps p,hs=>h0 ps (∀Z,p Z->h0 (cond draw (gP ops c i (ba F) h o Z) []) (K v Z hs [⟨g,args,h,v,Z⟩]))
def wu(F:bc)(h:T)(o:Op):Option (dx×FuncId×List J) :=
 match o with
 |.call c =>
  match c.callee with
  |.value f =>
   match ba F f with
   |.func (.func g) fs cs =>
    match S g with
    |some b=>match b (fs++c.args.toList.map (ba F)++cs) h with|some a=>some (a,g,fs++c.args.toList.map (ba F)++cs)|none=>none
    |none=>none
   |_=>none
  |_=>none
 |_=>none
def lM(draw:Bool)(ops:Array Oper)(a i:Nat)(F:bc)(h:T)(o:Op)(hs:b7)(K:jn):Prop :=
 match wq E S draw ops a i F h o with
 |some (v,Z,cs,ks)=>h0 cs (K v Z hs ks)
 |none =>
  match wu S F h o with
  |some (.some v ps p,g,args)=>mI draw ops a i F o g args h K (.some v ps p) hs
  |_=>False
def Ab(draw:Bool)(ops:Array Oper)(a i:Nat)(F:bc)(h:T)(o:Op)(y n:b7)(K:jn):Prop :=
 match z' (ba F) o with
 |some (p,b)=>(p->h0 (cond draw (gP ops a i (ba F) h o h) []) (K (.bool b) h y []))/\(¬p->h0 (cond draw (gP ops a i (ba F) h o h) []) (K (.bool (!b)) h n []))
 |none =>
  match wq E S draw ops a i F h o with
  |some (.bool b,Z,cs,ks)=>h0 cs ((b=true->K (.bool true) Z y ks)/\(b=false->K (.bool false) Z n ks))
  |_=>False
def Ac(draw:Bool)(ops:Array Oper)(c i:Nat)(F:bc)(h:T)(o:Op)(j:Nat)(y n:b7)(K:jn):Prop :=
 match wu S F h o with
 |some (.or p a b,g,args)=>mI draw ops c i F o g args h K (.or p a b) (.al j y n)
 |_=>Ab E S draw ops c i F h o y n K
def Ad(b:n6)(draw:Bool)(ops:Array Oper)(a i:Nat)(F:bc)(h:T)(o:Op)(x:Hint)(r:b7)(K:jn):Prop :=
 match x with
 |.enter _ =>
  match o with
  |.call c =>
   match c.callee with
   |.value f =>
    match ba F f with
    |.func (.func g) fs cs =>
     b g (fs++c.args.toList.map (ba F)++cs) h r λv Z d=>h0 (cond draw (gP ops a i (ba F) h o Z) []) (K v Z d [⟨g,fs++c.args.toList.map (ba F)++cs,h,v,Z⟩])
    |_=>False
   |_=>False
  |_=>False
 |_ =>
  match s6 P E (λ_ _ _ _=>none) draw ops a i F h o x []with
  |some (v,Z,_,cs,ks)=>h0 cs (K v Z r ks)
  |none=>match Aa E draw ops a i (ba F) h o with|some (v,Z,cs)=>h0 cs (K v Z r [])|none=>False
def lN(b:n6)(q:Nat)(ops:Array Oper)(draw:Bool)(a i:Nat)(F:bc)(h:T)(o:Op)(K:jn):b7->Prop
 |.nil=>lM E S draw ops a i F h o .nil K
 |.aG x r=>match x.at with|some j=>cond (Nat.beq (1000*q+i) j) (Ad P E b draw ops a i F h o x r K) (lM E S draw ops a i F h o (.aG x r) K)|none=>lM E S draw ops a i F h o (.aG x r) K
 |.al j y n=>cond (Nat.beq (1000*q+i) j) (Ac E S draw ops a i F h o j y n K) (lM E S draw ops a i F h o (.al j y n) K)
 |.cases j p y n=>cond (Nat.beq (1000*q+i) j) ((p->lN b q ops draw a i F h o K y)/\(¬p->lN b q ops draw a i F h o K n)) (lM E S draw ops a i F h o (.cases j p y n) K)
 |.ex j p f=>cond (Nat.beq (1000*q+i) j) ((∃x,p x)/\∀x,p x->lN b q ops draw a i F h o K (f x)) (lM E S draw ops a i F h o (.ex j p f) K)
 |.skip j r=>cond (Nat.beq (1000*q+i) j) (lM E S draw ops a i F h o r K) (lM E S draw ops a i F h o (.skip j r) K)
def pE(ops:Array Oper)(draw:Bool)(b i:Nat)(F:bc)(h:T)(o:Op)(K:jn):Prop :=
 ∃v Z a ks,K v Z a ks/\(∀c∈ks,bj P E.cond c.f c.args c.h c.v c.Z)/\∀call:cR,(∀c∈ks,c.holds call)->iO E call ops draw b i (ba F) h o=some (v,Z)
def wv(a:n6):Prop:= ∀f args h hs K,a f args h hs K-> ∃v Z b,bj P E.cond f args h v Z/\K v Z b
variable {P E S}
variable {o:Op}{F:bc}{d i j m n q:Nat}{ops:Array Oper}{draw:Bool}
def Fv(e:fa P E)(p:P.follows .mixedOrders=true)(j:dC P E.cond S){a:Nat}{h Z:T}{v:J}{cs:List Prop}{ks:List eZ}(k:wq E S draw ops a i F h o=some (v,Z,cs,ks))(aj:aX cs) :
 (∀c∈ks,bj P E.cond c.f c.args c.h c.v c.Z)/\∀call:cR,(∀c∈ks,c.holds call)->iO E call ops draw a i (ba F) h o=some (v,Z):=by
 have plain:∀{r:Option (J×T×List Prop×List eZ)},(match lH E draw ops a i F h o []with|some (v,Z,_,cs,ks)=>some (v,Z,cs,ks)|none=>none)=some (v,Z,cs,ks) ->
  (∀c∈ks,bj P E.cond c.f c.args c.h c.v c.Z)/\∀call:cR,(∀c∈ks,c.holds call)->iO E call ops draw a i (ba F) h o=some (v,Z):=by
  intro r k;split at k
  .rename_i v1 Y s cL t ae;simp only [a8,bC]at k;obtain⟨rfl,rfl,rfl,rfl⟩:=k;have m:zR P E (λ_ _ _ _=>none):=λ_ _ _ _ _ _ _ _ h=>by cases h
   have d:pop P E (λ_ _ _ _=>none) 0 ops draw a i F h o []=some (v1,Y,s,cL,t):=ae;exact⟨Fb P E e p m d aj,λcall b=>Fa P E d aj b⟩
  .cases k
 unfold wq at k;split at k
 .rename_i c;split at k
  .rename_i f n;split at k
   .rename_i g fs u ab;split at k
    .rename_i w q;split at k
     .rename_i v1 Y ps l;simp only [a8,bC]at k;obtain⟨rfl,rfl,rfl,rfl⟩:=k;refine⟨λc hm=> ?_,λcall b=> ?_⟩
      .rw [cF.1 hm];exact j _ _ q _ _ _ l aj.left
      .refine hJ E ?_ aj.right;simp only [bt,n,ab,kV];exact b _ (cF.2 rfl)
     .cases k
    .cases k
   .cases k
  .exact plain (r:=none) k
 .exact plain (r:=none) k
def Ae{h:T}{c:Call}{f:Operand}(e:c.callee=.value f){g:FuncId}{fs cs:List J}(ab:ba F f=.func (.func g) fs cs){K:jn} :
 ∀(a:dx)(hs:b7),a.cG P E.cond g (fs++c.args.toList.map (ba F)++cs) h->mI draw ops m i F (.call c) g (fs++c.args.toList.map (ba F)++cs) h K a hs->pE P E ops draw m i F h (.call c) K
 |.one v Z ps,hs,ok,k=>by
  obtain⟨aj,d⟩:=iQ (by simpa only [mI]using k);refine⟨v,Z,hs,_,d,λc hm=> ?_,λcall l=> ?_⟩
  .rw [cF.1 hm];exact ok aj.left
  .refine hJ E ?_ aj.right;simp only [bt,e,ab,kV];exact l _ (cF.2 rfl)
 |.some v ps p,hs,ok,k=>by
  obtain⟨aj,d⟩:=iQ (by simpa only [mI]using k);obtain⟨Z,q,ae⟩:=ok aj;obtain⟨o,d⟩:=iQ (d Z ae);refine⟨v,Z,hs,_,d,λc hm=> ?_,λcall l=> ?_⟩
  .rw [cF.1 hm];exact q
  .refine hJ E ?_ o;simp only [bt,e,ab,kV];exact l _ (cF.2 rfl)
 |.or p a b,.al j y n,ok,k=>by
  simp only [mI]at k;by_cases ae:p
  .exact Ae e ab a y (ok.1 ae) (k.1 ae)
  .exact Ae e ab b n (ok.2 ae) (k.2 ae)
 |.or p a b,.nil,ok,k=>k.elim
 |.or p a b,.aG _ _,ok,k=>k.elim
 |.or p a b,.cases _ _ _ _,ok,k=>k.elim
 |.or p a b,.ex _ _ _,ok,k=>k.elim
 |.or p a b,.skip _ _,ok,k=>k.elim
def Fw(e:dC P E.cond S){h:T}{a:dx}{g:FuncId}{args:List J}(b:wu S F h o=some (a,g,args)){K:jn}{hs:b7}(k:mI draw ops d i F o g args h K a hs):pE P E ops draw d i F h o K:=by
 unfold wu at b;split at b
 .rename_i c;split at b
  .rename_i f l;split at b
   .rename_i p fs cs ab;split at b
    .rename_i q m;split at b
     .rename_i n j;simp only [a8,bC]at b;obtain⟨rfl,rfl,rfl⟩:=b;exact Ae l ab _ _ (e _ _ m _ _ _ j) k
     .cases b
    .cases b
   .cases b
  .cases b
 .cases b
def n7(c:fa P E)(f:P.follows .mixedOrders=true)(a:dC P E.cond S){b:Nat}{h:T}{hs:b7}{K:jn}(k:lM E S draw ops b i F h o hs K):pE P E ops draw b i F h o K:=by
 unfold lM at k;split at k
 .rename_i v Z cs ks e;obtain⟨aj,d⟩:=iQ k;obtain⟨j,l⟩:=Fv c f a e aj;exact⟨v,Z,hs,ks,d,j,l⟩
 .split at k
  .rename_i g;exact Fw a g k
  .exact k.elim
def Og(j:fa P E)(m:P.follows .mixedOrders=true)(l:dC P E.cond S){e:Nat}{h:T}{y n:b7}{K:jn}(k:Ab E S draw ops e i F h o y n K):pE P E ops draw e i F h o K:=by
 unfold Ab at k;split at k
 .rename_i p b d;by_cases ae:p
  .obtain⟨aj,a⟩:=iQ (k.1 ae);exact⟨_,_,_,_,a,λc hm=>by simp at hm,λcall _=>hJ E ((Ft d call (e+i) h).1 ae) aj⟩
  .obtain⟨aj,a⟩:=iQ (k.2 ae);exact⟨_,_,_,_,a,λc hm=>by simp at hm,λcall _=>hJ E ((Ft d call (e+i) h).2 ae) aj⟩
 .split at k
  .rename_i b Z cs ks d;obtain⟨aj,a⟩:=iQ k;obtain⟨f,g⟩:=Fv j m l d aj;cases b with
   |true=>exact⟨_,_,_,_,a.1 rfl,f,g⟩
   |false=>exact⟨_,_,_,_,a.2 rfl,f,g⟩
  .exact k.elim
def Oh(c:fa P E)(d:P.follows .mixedOrders=true)(a:dC P E.cond S){b:Nat}{h:T}{y n:b7}{K:jn}(k:Ac E S draw ops b i F h o j y n K):pE P E ops draw b i F h o K:=by
 unfold Ac at k;split at k
 .rename_i e;exact Fw a e k
 .exact Og c d a k
def Oi(l:fa P E)(t:P.follows .mixedOrders=true)(z:dC P E.cond S){e:n6}(n:wv P E e){h:T}{x:Hint}(y:x.at=some (1000*q+i)){r:b7}{K:jn}(k:Ad P E e draw ops d i F h o x r K) :
 pE P E ops draw d i F h o K:=by
 unfold Ad at k;split at k
 .split at k
  .rename_i c;split at k
   .rename_i f s;split at k
    .rename_i g fs cs ab;obtain⟨v,Z,u,m,a⟩:=n _ _ _ _ _ k;obtain⟨aj,a⟩:=iQ a;refine⟨v,Z,u,_,a,λc hm=> ?_,λcall b=> ?_⟩
     .rw [cF.1 hm];exact m
     .refine hJ E ?_ aj;simp only [bt,s,ab,kV];exact b _ (cF.2 rfl)
    .exact k.elim
   .exact k.elim
  .exact k.elim
 .split at k
  .rename_i v Z w cs ks ae;obtain⟨aj,a⟩:=iQ k;have p:zR P E (λ_ _ _ _=>none):=λ_ _ _ _ _ _ _ _ h=>by cases h
   have j:pop P E (λ_ _ _ _=>none) q ops draw d i F h o [x]=some (v,Z,w,cs,ks):=by unfold pop;simp only [y];rw [beq_true rfl,cond_true];exact ae
   exact⟨v,Z,r,ks,a,Fb P E l t p j aj,λcall b=>Fa P E j aj b⟩
  .split at k
   .rename_i v Z cs ae;obtain⟨aj,a⟩:=iQ k;exact⟨v,Z,r,[],a,λc hm=>by simp at hm,λcall _=>Of (P:=P) ae aj call⟩
   .exact k.elim
def ww(a:fa P E)(c:P.follows .mixedOrders=true)(b:dC P E.cond S){g:n6}(d:wv P E g){l:Nat}{h:T}{K:jn} :∀(hs:b7),lN P E S g q ops draw l i F h o K hs->pE P E ops draw l i F h o K
 |.nil,k=>n7 a c b k
 |.aG x r,k=>by
  simp only [lN]at k;split at k
  .rename_i j m;rcases kZ (1000*q+i) j with ⟨e,e'⟩|⟨e,e'⟩
   .rw [e',cond_true]at k;exact Oi a c b d (by rw [m,e]) k
   .rw [e',cond_false]at k;exact n7 a c b k
  .exact n7 a c b k
 |.al j y n,k=>by
  simp only [lN]at k;rcases kZ (1000*q+i) j with ⟨e,e'⟩|⟨e,e'⟩
  .rw [e',cond_true]at k;exact Oh a c b k
  .rw [e',cond_false]at k;exact n7 a c b k
 |.cases j p y n,k=>by
  simp only [lN]at k;rcases kZ (1000*q+i) j with ⟨e,e'⟩|⟨e,e'⟩
  .rw [e',cond_true]at k;by_cases ae:p
   .exact ww a c b d y (k.1 ae)
   .exact ww a c b d n (k.2 ae)
  .rw [e',cond_false]at k;exact n7 a c b k
 |.ex j p f,k=>by
  simp only [lN]at k;rcases kZ (1000*q+i) j with ⟨e,e'⟩|⟨e,e'⟩
  .rw [e',cond_true]at k;obtain⟨⟨x,s⟩,k⟩:=k;exact ww a c b d (f x) (k x s)
  .rw [e',cond_false]at k;exact n7 a c b k
 |.skip j r,k=>by
  simp only [lN]at k;rcases kZ (1000*q+i) j with ⟨e,e'⟩|⟨e,e'⟩
  .rw [e',cond_true]at k;exact n7 a c b k
  .rw [e',cond_false]at k;exact n7 a c b k
variable(P E S)
def pF(a:n6)(q:Nat)(ops:Array Oper)(draw:Bool)(n b:Nat):List Oper->Nat->bc->T->b7->List eZ->(bc->T->b7->List eZ->Prop)->Prop
 |[],_,F,h,hs,ks,K=>K F h hs ks
 |o::r,i,F,h,hs,ks,K =>
  cond (zS n o)
  (match zH ops F o with
  |some true=>cond (o.op.operands.toList.all (qW F)) (lN P E S a q ops draw b i F h o.op (λv Z c d=>pF a q ops draw n b r (i+1) (vZ F o.dst v) Z c (ks++d) K) hs) False
  |some false=>pF a q ops draw n b r (i+1) (vZ F o.dst eR) h hs ks K
  |none=>False) False
variable {P E S}
def wx(G:fa P E)(U:P.follows .mixedOrders=true)(I:dC P E.cond S){am:n6}(O:wv P E am){C:Nat} :∀(l:List Oper)(i:Nat)(F:bc)(h:T)(hs:b7)(ks:List eZ){K:bc->T->b7->List eZ->Prop},(∀j,l[j]? =ops[i+j]?) ->
 pF P E S am q ops draw n C l i F h hs ks K-> ∃w Z B p,K w Z B (ks++p)/\(∀c∈p,bj P E.cond c.f c.args c.h c.v c.Z)/\∀call:cR,(∀c∈p,c.holds call)-> ∀s:List J,s.length=n->Has F s-> ∃u,u.length=n/\Has w u /\
  lI E call ops draw C (List.range' i l.length) ⟨s,h⟩=some ⟨u,Z⟩
 |[],i,F,h,hs,ks,K,Q,k=>⟨F,h,hs,[],by simpa [pF]using k,λc hm=>by simp at hm,λcall _ s aw e=>⟨s,aw,e,by unfold lI;cases draw<;>rfl⟩⟩
 |o :: r, i,F,h,hs,ks,K,Q,k=>by
  have a2:ops[i]? =some o:=by have:=Q 0;simpa using this.symm
  have a3:∀j,r[j]? =ops[i+1+j]? :=λj=>by have:=Q (j+1);simp at this;rw [this];congr 1;omega
  simp only [pF]at k;cases z:zS n o with
  |false=>rw [z]at k;exact k.elim
  |true =>
   rw [z,cond_true]at k
   have a0:∀m,m=n-> ∀t,o.dst=some t->t<m:=by intro m hm t ct;unfold zS at z;rw [ct]at z;rw [hm];exact eG.mp z
   rw [bK,sj];split at k
   .rename_i ab;cases L:o.op.operands.toList.all (qW F)with
    |false=>rw [L]at k;exact k.elim
    |true =>
     rw [L,cond_true]at k;obtain⟨v,Y,c3,c2,a4,bn,co⟩:=ww G U I O hs k;obtain⟨w,Z,B,p,H,N,W⟩:=wx G U I O r (i+1) _ _ _ _ a3 a4;refine⟨w,Z,B,c2++p,by rw [<-jb];exact H,λc hm=>(hi.1 hm).elim (bn c) (N c),λcall D s aw e=> ?_⟩;have a5:=co call λc hm=>D c (by simp [hm])
     obtain⟨u,aQ,aZ,R⟩:=W call (λc hm=>D c (by simp [hm])) (fT s o.dst v) (by rw [Fc];exact aw) (e.set (a0 s.length aw) v);refine⟨u,aQ,aZ,?_⟩
     have bs:iO E call ops draw C i (cA s) h o.op=some (v,Y):=by
      rw [<-a5];have d:∀x∈o.op.operands.toList,cA s x=ba F x:=λx X=>(e.get (ea.1 L x X)).symm
      have aM:∀nid,bt E call nid (cA s) h o.op=bt E call nid (ba F) h o.op:=λnid=>zj d
      have bv:ii (cA s) o.op=ii (ba F) o.op:=by cases g:o.op<;>simp only [ii];rename_i t x;rw [g]at d;rw [d x (by simp [Op.operands])]
      have cs:kW (cA s) o.op=kW (ba F) o.op:=by cases g:o.op<;>simp only [kW];rename_i t x y;rw [g]at d;rw [d x (by simp [Op.operands])]
      have c0:∀nid,du E nid (cA s) h o.op=du E nid (ba F) h o.op:=λnid=>NU E d
      have a9:gn (cA s) o.op=gn (ba F) o.op:=by cases g:o.op<;>simp only [gn];rename_i c;rw [g]at d;rw [qQ (xs:=c.args) (λx X=>d x (by simp only [Op.operands,Call.operands,mr,hi];exact .inr X))]
      have ce:gB ops C i (cA s) o.op=gB ops C i (ba F) o.op:=by
       have:kX (cA s) o.op=kX (ba F) o.op:=by cases g:o.op<;>simp only [kX];rename_i a b x;rw [g]at d;rw [d x (by simp [Op.operands])]
       unfold gB;rw [this]
      unfold iO ee ho;simp only [aM,bv,cs,c0,a9,ce]
     exact(NX E a2 (E4 e ab) bs).trans R
   .rename_i ab;obtain⟨w,Z,B,p,H,N,W⟩:=wx G U I O r (i+1) _ _ _ _ a3 k;refine⟨w,Z,B,p,H,N,λcall D s aw e=> ?_⟩;obtain⟨u,aQ,aZ,R⟩:=W call D (fT s o.dst eR) (by rw [Fc];exact aw) (e.set (a0 s.length aw) eR);exact⟨u,aQ,aZ,(NY E a2 (E4 e ab)).trans R⟩
   .exact k.elim
def wy(step:bc->T->b7->s'->Prop)(K:s'):Nat->bc->T->b7->Prop
 |0,_,_,_=>False
 |m+1,F,h,hs=>step F h hs λe a Y b=>match e with|.normal=>wy step K m a Y b|e=>K e a Y b
def Fx(D:cV)(c8:List ResultVar)(e:b8)(F:bc)(h Z:T)(K:J->Prop):Prop :=
 match e with
 |.normal=>match jN D F Z c8 []with|some (l,cs)=>h0 cs (cond (Nat.ble h.M Z.M) (K (kk l)) False)|none=>False
 |.ret=>match jN D F Z c8 []with|some (l,cs)=>h0 cs (cond (Nat.ble h.M Z.M) (K (kk l)) False)|none=>False
 |_=>False
def wz(P:Program)(C:(Nat->Prop)->World->Prop):List eZ->List Prop
 |[]=> []
 |[c]=> [c.Z=c.h,∀h,v' P C c.f c.args h c.v h]
 |_=> [False]
open Classical in
noncomputable def pG:List eZ->cR
 |[],_,_,_=>none
 |c::_,f,args,h=>if c.f=f/\c.args=args then some (c.v,h)else none
def Oj(ks:List eZ):sP (pG ks):=by
 intro f args h v Z e;cases ks with
 |nil=>cases e
 |cons c r =>
  simp only [pG]at e⊢;split at e
  .rename_i q;simp only [a8,bC]at e;exact⟨e.2.symm,λag=>by rw [az q,e.1]⟩
  .cases e
def Ok{P:Program}{C:(Nat->Prop)->World->Prop}{ks:List eZ}(h:aX (wz P C ks)):∀c∈ks,c.holds (pG ks):=by
 match ks,h with
 |[],_=>intro c aj;cases aj
 |[k],h =>
  intro c aj;obtain rfl:=cF.1 aj;have e:c.Z=c.h:=h.head;unfold eZ.holds;simp only [pG];rw [az ⟨trivial,trivial⟩,e]
 |a::b::r,h=>exact(h _ (cF.2 rfl):False).elim
def Ol{P:Program}{E:bi}{ks:List eZ}(c:aX (wz P E.cond ks)){aR:Nat->Prop}{aV:World}(j:dS aR aV.heap.size)(eh:E.cond aR aV):ji P aR aV (pG ks):=by
 match ks,c with
 |[],_=>intro f args h v Z aj;cases aj
 |a::b::r,h=>exact(h _ (cF.2 rfl):False).elim
 |[k],c =>
  intro f args h v Z aj φ w d i g e;simp only [pG]at aj;split at aj
  .rename_i q;simp only [a8,bC]at aj;obtain⟨rfl,rfl⟩:=q;obtain⟨rfl,rfl⟩:=aj;have l:∀h,v' P E.cond k.f k.args h k.v h:=c _ (by simp [wz]);exact(l h).E6 aR aV j eh φ w d i g e
  .cases aj
variable(P E S)
def q3(ex:Nat->Nat->Code->bc->T->b7->s'->Prop):n6:=λf args h hs K =>
 match P.funcs[f]? with
 |some fn =>
  match fn.body with
  |some c=>ex h.M (args.length+(fn.ntmps-args.length)) c (pA 0 args) h hs λe F Z a=>Fx E.D fn.results.toList e F h Z λv=>K v Z a
  |none=>False
 |none=>False
def fq(R:Nat->Nat->Code->bc->T->b8->bc->T->Prop):Nat->Nat->Nat->Option Code->Code->bc->T->b7->s'->Prop
 |0,_,_,_,_,_,_,_,_=>False
 |k + 1,base,n,some body,c,F,h,hs,K =>
  fq R k base n none c F h hs λe d Y g =>
   match e with
   |.goto l =>
    match findLabel body l with
    |some rest=>fq R k base n (some body) rest d Y g K
    |none=>K (.goto l) d Y g
   |e=>K e d Y g
 |k + 1,base,n,none,c,F,h,hs,K =>
  match c with
  |.skip=>K .normal F h hs
  |.label _=>K .normal F h hs
  |.region q ops draw =>
   cond (!draw || my ops)
   (cond (Nat.ble base h.M&&true)
   (pF P E S (q3 P E λb m c F h hs K=>fq R k b m none c F h hs K) q ops draw n h.M ops.toList 0 F {h with M:=h.M+ops.size} hs [] λd Y g ks=>h0 (wg ks) (K .normal d Y g)) False)
   (cond (Nat.ble base h.M&&sR ops)
   (pF P E S (q3 P E λb m c F h hs K=>fq R k b m none c F h hs K) q ops true n h.M ops.toList 0 F {h with M:=h.M+ops.size} hs [] λd Y g ks=>h0 (wz P E.cond ks) (K .normal d Y g)) False)
  |.seq a b =>
   fq R k base n none a F h hs λe d Y g =>
    match e with
    |.normal=>fq R k base n none b d Y g K
    |e=>K e d Y g
  |.cond x a b =>
   cond (qW F x)
   (match ba F x with
   |.bool true=>fq R k base n none a F h hs K
   |.bool false=>fq R k base n none b F h hs K
   |_=>False) False
  |.block id c =>
   fq R k base n none c F h hs λe d Y g =>
    match e with
    |.exit j=>K (cond (Nat.beq j id) .normal (.exit j)) d Y g
    |e=>K e d Y g
  |.loop c =>
   match hs with
   |.aG (.keep l) (.aG (.loop d Y e) r)=>R base n (.loop c) (n1 F l) h e d Y/\K e d Y r
   |.aG (.loop d Y e) r=>R base n (.loop c) F h e d Y/\K e d Y r
   |.aG (.rounds m) r=>wy (λF h hs K=>fq R k base n none c F h hs K) K m F h r
   |.cases _ p y i=>(p->fq R k base n none (.loop c) F h y K)/\(¬p->fq R k base n none (.loop c) F h i K)
   |.ex _ p f=>(∃x,p x)/\∀x,p x->fq R k base n none (.loop c) F h (f x) K
   |_=>False
  |.scope c=>fq R k base n (some c) c F h hs K
  |.goto l=>K (.goto l) F h hs
  |.exit id=>K (.exit id) F h hs
  |.ret=>K .ret F h hs
  |_=>False
variable {P E S}
def Fy(b:fa P E){f:FuncId}{fn:Func}{c:Code}(g:P.funcs[f]? =some fn)(d:fn.body=some c){args:List J}{h Z:T}{e:b8}{a:bc}{K:J->Prop}
 (i:cO P E.cond h.M (args.length+(fn.ntmps-args.length)) c (pA 0 args) h e a Z) (k:Fx E.D fn.results.toList e a h Z K):∃v,bj P E.cond f args h v Z/\K v:=by
 have fin:(e=.normal\/e=.ret)->(match jN E.D a Z fn.results.toList []with|some (l,cs)=>h0 cs (cond (Nat.ble h.M Z.M) (K (kk l)) False)|none=>False)-> ∃v,bj P E.cond f args h v Z/\K v:=by
  intro he k;split at k
  .rename_i l cs ae;obtain⟨aj,k⟩:=iQ k;cases hle:Nat.ble h.M Z.M with
   |false=>rw [hle]at k;exact k.elim
   |true =>
    rw [hle,cond_true]at k;exact⟨_,bj.N0 b g d he i ae aj (hU hle),k⟩
  .exact k.elim
 cases e with
 |normal=>exact fin (.inl rfl) k
 |ret=>exact fin (.inr rfl) k
 |exit j=>exact k.elim
 |goto l=>exact k.elim
def Fz(a2:fa P E)(bv:P.follows .mixedOrders=true)(g:dC P E.cond S):∀(k:Nat){base n:Nat}(body:Option Code)(c:Code)(F:bc)(h:T)(hs:b7){K:s'},
 fq P E S (cO P E.cond) k base n body c F h hs K-> ∃e N Z U,iP P E.cond base n (pB P body c) F h e N Z/\K e N Z U:=by
 intro k;induction k with
 |zero=>intro base n body c F h hs K ae;exact ae.elim
 |succ k ih =>
  intro base n body c F h hs K ae;cases body with
  |some body =>
   simp only [fq]at ae;obtain⟨e,d,Y,i,t1,ae⟩:=ih none c F h hs ae
   have pass:(∀l,e≠ .goto l)->iP P E.cond base n (pB P (some body) c) F h e d Y:=by
    intro a5 S aV g B D φ a w aM u r Q C;refine vJ (t1 S aV g B D φ a w aM u r _ λH G a7 L R=> ?_);have:=C H G a7 L R;cases e with
    |goto l=>exact absurd rfl (a5 l)
    |_=>exact this
   cases e with
   |goto l =>
    simp only at ae;cases am:findLabel body l with
    |none =>
     rw [am]at ae;refine⟨.goto l,d,Y,i,?_,ae⟩;intro S aV g B D φ a w aM u r Q C;refine vJ (t1 S aV g B D φ a w aM u r _ λH G a7 L R=> ?_);show nX P body Q (.goto l) G a7;simp only [nX,am];exact C H G a7 L R
    |some rest =>
     rw [am]at ae;obtain⟨aZ,a0,ag,a9,t2,ae⟩:=ih (some body) rest d Y i ae;refine⟨aZ,a0,ag,a9,?_,ae⟩;intro S aV g B D φ a w aM u r Q C;refine vJ (t1 S aV g B D φ a w aM u r _ λH G a7 L R=> ?_);show nX P body Q (.goto l) G a7;simp only [nX,am];exact t2 S aV g B D H G a7 aM L R Q C
   |normal=>exact⟨_,d,Y,i,pass (λl=> au),ae⟩
   |exit j=>exact⟨_,d,Y,i,pass (λl=> au),ae⟩
   |ret=>exact⟨_,d,Y,i,pass (λl=> au),ae⟩
  |none =>
   have stop:∀{e0:b8},(∀(Q:Exit->Act->World->Prop)(a:Act)(w:World),Q (sS e0) a w->c.wp P Q a w)->K e0 F h hs-> ∃e N Z U,iP P E.cond base n (pB P none c) F h e N Z/\K e N Z U:=by intro e0 aM ae;refine⟨e0,F,h,hs,?_,ae⟩;intro S aV g B D φ a w I u r Q C;exact aM Q a w (C φ a w u r)
   cases c;case skip=>exact stop (e0:= .normal) (λ_ _ _ o=>wp_skip o) ae
   case label l=>exact stop (e0:= .normal) (λ_ _ _ o=>wp_label o) ae
   case goto l=>exact stop (e0:= .goto l) (λ_ _ _ o=>wp_goto o) ae
   case exit id=>exact stop (e0:= .exit id) (λ_ _ _ o=>wp_exit o) ae
   case ret=>exact stop (e0:= .ret) (λ_ _ _ o=>wp_ret o) ae
   case region id ops draw =>
    simp only [fq]at ae;have am:∀j:Nat,ops.toList[j]? =ops[0+j]? :=λj=> au
    have c3:wv P E (q3 P E λb m c F h hs K=>fq P E S (cO P E.cond) k b m none c F h hs K):=by
     intro f args h hs K o;unfold q3 at o;split at o
     .rename_i fn c5;split at o
      .rename_i c a4;obtain⟨e,N,Z,U,t,o⟩:=ih none c _ _ _ o;obtain⟨v,I,O⟩:=Fy a2 c5 a4 t o;exact⟨v,Z,U,I,O⟩
      .exact o.elim
     .exact o.elim
    cases cs:(!draw || my ops)with
    |true =>
     rw [cs,cond_true]at ae;cases I:(Nat.ble base h.M&&true)with
     |false=>rw [I]at ae;exact ae.elim
     |true =>
     rw [I,cond_true]at ae;rw [Bool.and_true]at I;have a4:base<=h.M:=hU I;obtain⟨d,Y,i,bn,O,c4,c2⟩:=wx a2 bv g c3 ops.toList 0 F _ hs [] am ae;rw [eQ]at O;obtain⟨bs,O⟩:=iQ O;refine⟨.normal,d,Y,i,?_,O⟩;intro S aV g B D φ a w aM u ⟨s,aw,a3,r⟩ Q C;obtain⟨ce,g1,g2,W⟩:=c2 (n3 bn) (Fg bs) s aw a3;have c0:List.range' 0 ops.toList.length=List.range ops.size:=by rw [sk,fy]
     rw [c0]at W
     have c9:pj E (n3 bn) ops draw ⟨s,h⟩=some ⟨ce,Y⟩:=by
      unfold pj;unfold lI at W;cases draw with
      |false=>simpa using W
      |true =>
       have I:my ops=true:=by simpa using cs
       simp only [dG,I];simpa using W
     exact EM a2 g (NZ P E c4 g B) bv r c9 λG a7 H cw cy et=>C H G a7 (u.trans (cw.mono a4)) ⟨ce,g1,g2,cy⟩
    |false =>
     rw [cs,cond_false]at ae;obtain rfl:draw=true:=by cases draw<;>simp_all
     cases I:(Nat.ble base h.M&&sR ops)with
     |false=>rw [I]at ae;exact ae.elim
     |true =>
     rw [I,cond_true]at ae;rw [cC]at I;have a4:base<=h.M:=hU I.1;obtain⟨d,Y,i,bn,O,c4,c2⟩:=wx a2 bv g c3 ops.toList 0 F _ hs [] am ae;rw [eQ]at O;obtain⟨bs,O⟩:=iQ O;refine⟨.normal,d,Y,i,?_,O⟩;intro S aV g B D φ a w aM u ⟨s,aw,a3,r⟩ Q C;obtain⟨ce,g1,g2,W⟩:=c2 (pG bn) (Ok bs) s aw a3;have c0:List.range' 0 ops.toList.length=List.range ops.size:=by rw [sk,fy]
     rw [c0]at W;unfold lI at W;simp only [dG]at W;exact Nr a2 g (Ol bs g B) (Oj bn) bv r I.2 W λG a7 H cw cy et=>C H G a7 (u.trans (cw.mono a4)) ⟨ce,g1,g2,cy⟩
   case seq x y =>
    simp only [fq]at ae;obtain⟨e,d,Y,i,t1,ae⟩:=ih none x F h hs ae
    have pass:e≠ .normal->iP P E.cond base n (pB P none (.seq x y)) F h e d Y:=by
     intro a5 S aV g B D φ a w aM u r Q C;refine wp_seq (t1 S aV g B D φ a w aM u r _ λH G a7 L R=> ?_);have:=C H G a7 L R;cases e with
     |normal=>exact absurd rfl a5
     |_=>exact this
    cases e with
    |normal =>
     obtain⟨aZ,a0,ag,a9,t2,ae⟩:=ih none y d Y i ae;refine⟨aZ,a0,ag,a9,?_,ae⟩;intro S aV g B D φ a w aM u r Q C;exact wp_seq (t1 S aV g B D φ a w aM u r _ λH G a7 L R=>t2 S aV g B D H G a7 aM L R Q C)
    |exit j=>exact⟨_,d,Y,i,pass au,ae⟩
    |goto l=>exact⟨_,d,Y,i,pass au,ae⟩
    |ret=>exact⟨_,d,Y,i,pass au,ae⟩
   case cond x y z =>
    simp only [fq]at ae;cases u:qW F x with
    |false=>rw [u]at ae;exact ae.elim
    |true =>
     rw [u,cond_true]at ae
     have go:∀{q:Bool},ba F x=.bool q->fq P E S (cO P E.cond) k base n none (cond q y z) F h hs K-> ∃e N Z U,iP P E.cond base n (pB P none (.cond x y z)) F h e N Z/\K e N Z U:=by
      intro q o ae;obtain⟨e,d,Y,i,t1,ae⟩:=ih none (cond q y z) F h hs ae;refine⟨e,d,Y,i,?_,ae⟩;intro S aV g B D φ a w aM L r Q C;have hw:=t1 S aV g B D φ a w aM L r Q C;obtain⟨s,aw,a3,r⟩:=r;have X:=r.eval x;simp only at X;rw [<-a3.get u,o]at X;simp only [aA]at X;cases q
      .exact wp_cond_false X hw
      .exact wp_cond_true X hw
     split at ae
     .rename_i o;exact go (q:=true) o ae
     .rename_i o;exact go (q:=false) o ae
     .exact ae.elim
   case block id c =>
    simp only [fq]at ae;obtain⟨e,d,Y,i,t1,ae⟩:=ih none c F h hs ae
    have pass:(∀j,e≠ .exit j)->iP P E.cond base n (pB P none (.block id c)) F h e d Y:=by
     intro a5 S aV g B D φ a w aM u r Q C;refine wp_block (t1 S aV g B D φ a w aM u r _ λH G a7 L R=> ?_);have:=C H G a7 L R;cases e with
     |exit j=>exact absurd rfl (a5 j)
     |_=>exact this
    cases e with
    |exit j =>
     refine⟨_,d,Y,i,?_,ae⟩;intro S aV g B D φ a w aM u r Q C;refine wp_block (t1 S aV g B D φ a w aM u r _ λH G a7 L R=> ?_);have:=C H G a7 L R;simp only [sS,Exit.inBlock];rcases kZ j id with ⟨ct,co⟩|⟨ct,co⟩
     .rw [co,cond_true]at this;rw [az ct];exact this
     .rw [co,cond_false]at this;rw [ai ct];exact this
    |normal=>exact⟨_,d,Y,i,pass (λj=> au),ae⟩
    |goto l=>exact⟨_,d,Y,i,pass (λj=> au),ae⟩
    |ret=>exact⟨_,d,Y,i,pass (λj=> au),ae⟩
   case loop c =>
    simp only [fq]at ae;split at ae
    .rename_i l d Y aQ d2;have X:iP P E.cond base n (pB P none (.loop c)) (n1 F l) h aQ d Y:=ae.1;exact⟨_,_,_,_,X.pre (bW.facts λt v dg=>v7 dg),ae.2⟩
    .exact⟨_,_,_,_,ae.1,ae.2⟩
    .rename_i m r
     have key:∀(m:Nat)(F:bc)(h:T)(hs:b7),wy (λF h hs K=>fq P E S (cO P E.cond) k base n none c F h hs K) K m F h hs-> ∃e N Z U,b2 P E.cond base n c F h e N Z/\K e N Z U:=by
      intro m;induction m with
      |zero=>intro F h hs ae;exact ae.elim
      |succ m d0 =>
       intro F h hs ae;simp only [wy]at ae;obtain⟨e,d,Y,i,t1,ae⟩:=ih none c F h hs ae;cases e with
       |normal =>
        obtain⟨aZ,a0,ag,a9,t2,ae⟩:=d0 d Y i ae;exact⟨aZ,a0,ag,a9,b2.step t1 t2,ae⟩
       |exit j=>exact⟨_,d,Y,i,b2.last au t1,ae⟩
       |goto j=>exact⟨_,d,Y,i,b2.last au t1,ae⟩
       |ret=>exact⟨_,d,Y,i,b2.last au t1,ae⟩
     obtain⟨e,N,Z,U,t,O⟩:=key m F h r ae;exact⟨e,N,Z,U,cO.dn t,O⟩
    .rename_i p y d1;by_cases o:p
     .exact ih none (.loop c) F h y (ae.1 o)
     .exact ih none (.loop c) F h d1 (ae.2 o)
    .rename_i α p f;obtain⟨⟨x,X⟩,ae⟩:=ae;exact ih none (.loop c) F h (f x) (ae x X)
    .exact ae.elim
   case scope c =>
    simp only [fq]at ae;obtain⟨e,d,Y,i,t1,ae⟩:=ih (some c) c F h hs ae;refine⟨e,d,Y,i,?_,ae⟩;intro S aV g B D φ a w aM u r Q C;exact EO (t1 S aV g B D φ a w aM u r Q C)
   all_goals exact ae.elim
variable(P E S)
def Af(f:FuncId)(args:List J)(h:T)(hs:b7)(K:J->T->Prop):Prop :=
 q3 P E (λb m c F h hs K=>fq P E S (cO P E.cond) 1000 b m none c F h hs K) f args h hs λv Z _=>K v Z
def Om(base n:Nat)(c:Code)(F:bc)(h:T)(hs:b7)(keep:List Nat)(K:b8->bc->T->Prop):Prop :=
 fq P E S (cO P E.cond) 1000 base n none c F h hs λe a Z _=>K e (n1 a keep) Z
variable {P E S}
def pH(a:fa P E)(l:P.follows .mixedOrders=true)(d:dC P E.cond S){f:FuncId}{args:List J}{h:T}{hs:b7}{K:J->T->Prop}{p:Prop}(e:Af P E S f args h hs K=p)(k:p):∃v Z,bj P E.cond f args h v Z/\K v Z:=by
 rw [<-e]at k;unfold Af q3 at k;split at k
 .rename_i fn j;split at k
  .rename_i c g;obtain⟨e,n,Z,o,t,m⟩:=Fz a l d 1000 none c _ _ _ k;obtain⟨v,i,b⟩:=Fy a j g t m;exact⟨v,Z,i,b⟩
  .exact k.elim
 .exact k.elim
def dD(b:fa P E)(f:P.follows .mixedOrders=true)(d:dC P E.cond S){base:Nat}{c:Code}{h:T}{hs:b7}{keep:List Nat}{K:b8->bc->T->Prop}{p:Prop}(e:Om P E S base n c F h hs keep K=p)(k:p) :
 ∃e a Z,cO P E.cond base n c F h e a Z/\K e a Z:=by
 rw [<-e]at k;obtain⟨e,a,Z,i,t,g⟩:=Fz b f d 1000 none c _ _ _ k;exact⟨e,_,Z,t.post (bW.facts (bc.qY _ _)),g⟩
end
end
abbrev ab(n:Nat)(r:b7):b7:= .aG (.go n) r
abbrev he(n:Nat)(r:b7):b7:= .aG (.enter n) r
abbrev ZC(a b x:Int):Prop:=a<=x/\x<=b
abbrev aY(a b:Nat)(p:Prop):Prop:=bif Nat.ble a b&&true then p else False
abbrev cc(a b:Nat)(p:Prop):Prop:=bif Nat.ble a b then p else False
noncomputable section
open Go.RowKit
mutual
def J.wA{D:Nat->Prop}{r:Nat->Nat}(h:∀i,D i->r i=i):∀{v:J},bR D v->v.aO r=v
 |.ptr (some a),k=>by simp only [bR]at k;simp only [J.aO,bB.aO,h _ k]
 |.slice (some a) _ _,k=>by simp only [bR]at k;simp only [J.aO,bB.aO,h _ k]
 |.func fn f c,k=>by simp only [bR]at k;simp only [J.aO,J.ta h k.1,J.ta h k.2]
 |.iface t v,k=>by simp only [bR]at k;simp only [J.aO,J.wA h k]
 |.agg cs,k=>by simp only [bR]at k;simp only [J.aO,J.ta h k]
 |.tuple vs,k=>by simp only [bR]at k;simp only [J.aO,J.ta h k]
 |.undef,_=>rfl
 |.bool _,_=>rfl
 |.int _ _,_=>rfl
 |.str _,_=>rfl
 |.ptr none,_=>rfl
 |.slice none _ _,_=>rfl
 |.nilFunc,_=>rfl
 |.nilIface,_=>rfl
def J.ta{D:Nat->Prop}{r:Nat->Nat}(h:∀i,D i->r i=i):∀{l:List J},dO D l->J.fc r l=l
 |[],_=>rfl
 |a::l,k=>by simp only [dO]at k;simp only [J.fc,J.wA h k.1,J.ta h k.2]
end
def FA(D:Nat->Prop)(b:aa):Prop:= ∀e∈b.bg,bR D e
end
noncomputable section
open Go.RowKit
def FB:List (Nat×aa)->Option aa
 |[]=>none
 |(k,b)::r=>_root_.cond (Nat.beq k 0) (some b) (FB r)
def tb(o:Nat):List (Nat×aa)->List (Nat×aa)
 |[]=> []
 |(k,b)::r=>_root_.cond (Nat.beq k 0) (tb o r) (_root_.cond (Nat.beq (Nat.mod k 2) o) (((k- (2-o))/2,b)::tb o r) (tb o r))
def ofLT:Nat->List (Nat×aa)->aI aa
 |_,[]=> .nil
 |0,_=> .nil
 |d+1,l=> .node (FB l) (ofLT d (tb 1 l)) (ofLT d (tb 0 l))
def T.bO(n:Nat)(l:List (Nat×aa)):T:=⟨n,ofLT 20 l⟩
def T.lay(H:T)(n:Nat)(l:List (Nat×aa)):T:=l.foldl (λh p=>h.set p.1 p.2) {H with M:=n}
def On(l:List (Nat×aa)):∀(h:T),(l.map (·.1)).Nodup-> ∀p∈l,(l.foldl (λh p=>h.set p.1 p.2) h).get p.1=some p.2:=by
 induction l with
 |nil=>intro h _ p ae;cases ae
 |cons a r ih =>
  intro h aw p ae;simp only [ei,qx]at aw;rw [hT];rcases dR.1 ae with rfl|ae
  .have:∀(r:List (Nat×aa)) (h:T),p.1 ∉ r.map (·.1)->(r.foldl (λh p=>h.set p.1 p.2) h).get p.1=h.get p.1:=by
    intro r;induction r with
    |nil=>intro h _;rfl
    |cons b s c =>
     intro h hm;simp only [ei,dR,not_or]at hm;rw [hT,c _ hm.2,T.dN _ _ (lA hm.1)]
   rw [this r _ aw.1,T.eD]
  .exact ih _ aw.2 p ae
def FC(l:List (Nat×aa)):∀(h:T)(i:Nat),i ∉ l.map (·.1)->(l.foldl (λh p=>h.set p.1 p.2) h).get i=h.get i:=by
 induction l with
 |nil=>intro h i _;rfl
 |cons p r ih =>
  intro h i ah;simp only [ei,dR,not_or]at ah;rw [hT,ih _ i ah.2,T.dN _ _ (lA ah.1)]
def FD(l:List (Nat×aa)):∀(h:T),(l.foldl (λh p=>h.set p.1 p.2) h).M=h.M:=by
 induction l with
 |nil=>intro h;rfl
 |cons p r ih=>intro h;rw [hT,ih];rfl
variable {i j n:Nat}
def pI{ids:List Nat}(h:i<ids.length):cP ids n i=ids[i]:=by simp [cP,ds h]
def k0{ids:List Nat}(h:ids.length<=i):cP ids n i=n+(i-ids.length):=by simp [cP,ib h]
def FE{ids:List Nat}(aw:ids.Nodup)(a:∀j∈ids,j<n)(e:cP ids n i=cP ids n j):i=j:=by
 by_cases cL:i<ids.length<;>by_cases c2:j<ids.length
 .rw [pI cL,pI c2]at e;exact(sq aw).1 e
 .rw [pI cL,k0 A]at e;have:=a _ (ic cL);omega
 .rw [pI c2,k0 A]at e;have:=a _ (ic c2);omega
 .rw [k0 A,k0 A]at e;omega
def aI.eJ:aI aa->List (Nat×aa)
 |.nil=> []
 |.node v l r=>(match v with|some b=> [(0,b)]|none=> [])++((aI.eJ l).map λp=>(2*p.1+1,p.2))++((aI.eJ r).map λp=>(2*p.1+2,p.2))
def aI.Oo(v:Option aa)(l r:aI aa)(k:Nat):(aI.node v l r).get k=_root_.cond (Nat.beq k 0) v (_root_.cond (Nat.beq (k%2) 1) (l.get (k/2)) (r.get (k/2-1))):=rfl
def aI.wB:∀(t:aI aa)(k:Nat)(b:aa),t.get k=some b->(k,b)∈aI.eJ t
 |.nil,k,b,h=>by cases h
 |.node v l r,k,b,h=>by
  rw [aI.Oo]at h;unfold aI.eJ;rcases kZ k 0 with ⟨e,e'⟩|⟨e,e'⟩
  .rw [e',cond_true]at h;subst h;subst e;simp
  .rw [e',cond_false]at h;rcases kZ (k%2) 1 with ⟨f,a⟩|⟨f,a⟩
   .rw [a,cond_true]at h;have:=aI.wB l _ _ h;refine List.mem_append_left _ (List.mem_append_right _ (dV.2 ⟨_,this,?_⟩));simp only [bC,hE];omega
   .rw [a,cond_false]at h;have:=aI.wB r _ _ h;refine List.mem_append_right _ (dV.2 ⟨_,this,?_⟩);simp only [bC,hE];omega
def aI.Ag:∀(t:aI aa),((aI.eJ t).map (·.1)).Nodup
 |.nil=>kR
 |.node v l r=>by
  unfold aI.eJ;have Y:=aI.Ag l;have ag:=aI.Ag r;have m1:(((aI.eJ l).map λp=>(2*p.1+1,p.2)).map (·.1))=((aI.eJ l).map (·.1)).map λk=>2*k+1:=by simp [o8,Function.comp_def]
  have m2:(((aI.eJ r).map λp=>(2*p.1+2,p.2)).map (·.1))=((aI.eJ r).map (·.1)).map λk=>2*k+2:=by simp [o8,Function.comp_def]
  rw [nH,nH,m1,m2]
  have inj:∀(l:List Nat)(c:Nat),l.Nodup->(l.map λk=>2*k+c).Nodup:=by intro l c h;rw [sr,List.pairwise_map];exact List.Pairwise.imp (λg e=>g A) (sr.1 h)
  rw [qy,qy];refine⟨⟨by cases v<;>simp,inj _ _ Y,?_⟩,inj _ _ ag,?_⟩
  .intro a d b f e;obtain⟨k,_,rfl⟩:=dV.1 f;cases v with
   |none=>simp at d
   |some x=>simp at d;omega
  .intro a d b f e;obtain⟨k,_,rfl⟩:=dV.1 f;rcases hi.1 d with d|d
   .cases v with
    |none=>simp at d
    |some x=>simp at d;omega
   .obtain⟨j,_,rfl⟩:=dV.1 d;omega
variable {C:(Nat->Prop)->World->Prop}
def bj.place{P:Program}[ik C]{f:FuncId}{args:List J}{v:J}{l:List aa}{Z:T}(k:bj P C f args (T.of l) v Z)(hn':l.length<=Z.M)
 (w:∀b∈l,FA (λi=>i<l.length) b) (t:dO (λi=>i<l.length) args) {H:T} (ids:List Nat) (aw:ids.Nodup) (y:∀j∈ids,j<H.M) (hlen:ids.length=l.length)
 (x:∀i b,l[i]? =some b->H.get (cP ids H.M i)=some (b.aO (cP ids H.M))) :
 ∃H',bj P C f (args.map (J.aO (cP ids H.M))) H (v.aO (cP ids H.M)) H'/\H'.M=H.M+(Z.M-l.length)/\(∀i b,Z.get i=some b->H'.get (cP ids H.M i)=some (b.aO (cP ids H.M)))/\∀j,j<H.M->j ∉ ids->H'.get j=H.get j:=by
 let d:=aI.eJ Z.aF
 have B:(d.map (·.1)).Nodup:=aI.Ag _
 let s:=Z.M
 let r:=cP ids H.M
 have n:∀i j,r i=r j->i=j:=λi j e=>FE aw y e
 let m:List (Nat×aa):=d.map λp=>(r p.1,p.2.aO r)
 have o:m.map (·.1)=(d.map (·.1)).map r:=by simp [m,o8,Function.comp_def]
 have z:(m.map (·.1)).Nodup:=by rw [o,sr,List.pairwise_map];exact List.Pairwise.imp (λu e=>u (n _ _ e)) (sr.1 B)
 have h:∀p∈d,(H.lay (H.M+(s-l.length)) m).get (r p.1)=some (p.2.aO r):=by intro p ae;exact On m _ z (r p.1,p.2.aO r) (dV.2 ⟨p,ae,rfl⟩)
 have q:∀j,j<H.M->(∀i,i<l.length->r i≠j)->j ∉ m.map (·.1):=by
  intro j a g hm;rw [o]at hm;obtain⟨i,_,e⟩:=dV.1 hm;by_cases c:i<l.length
  .exact g i c e
  .have:r i=H.M+(i-ids.length):=k0 A;omega
 refine⟨H.lay (H.M+(s-l.length)) m,k.frame (r:=r) ⟨?_,?_,?_⟩ ?_ ?_ ?_ ?_ ?_,?_,λi b ab=>h (i,b) (aI.wB _ _ _ ab),?_⟩
 .intro i b ab;rw [T.dI]at ab;exact⟨by rw [T.of_next];exact(e4.1 ab).1,x i b ab⟩
 .intro i j _ _ e;exact n i j e
 .intro i b ab e he;rw [T.dI]at ab;exact bR.mono (λi ah=>T.q2.2 ah) (w b (gx ab) e he)
 .exact dO.mono (λi ah=>T.q2.2 ah) t
 .intro i ah;rw [T.of_next]at ah;rw [T.of_next,<-hlen];exact k0 A
 .intro i b ab _;exact h (i,b) (aI.wB _ _ _ ab)
 .rw [T.of_next];unfold T.lay;rw [FD]
 .intro j a g;unfold T.lay;rw [FC _ _ _ (q j a λi ah=>g i (T.q2.2 ah))];rfl
 .unfold T.lay;rw [FD]
 .intro j a hm;unfold T.lay;rw [FC _ _ _ (q j a λi ah e=>hm (by rw [<-e];show cP ids H.M i∈ids;rw [pI A];exact ic _))];rfl
def bj.less{P:Program}{f:FuncId}{args:List J}{h ag Z:T}{v:J}(k:bj P C f args ag v Z)(aw:h.M<=ag.M)(ab:∀i,i<h.M->ag.get i=h.get i):bj P C f args h v Z :=
 λS aV l g φ w b j d c=>by obtain⟨g1,g2⟩:=k S aV l g φ w b (j.more aw ab) d c;exact⟨g1,g2.mono λe a7 ⟨m,n,aq,a2,a3,a4,a5,a⟩=>⟨m,n,aq,a2.mono aw,a3,a4,a5,Nat.le_trans aw a⟩⟩
def bj.bU{P:Program}[ik C]{f:FuncId}{args:List J}{v:J}(k:∃v1 Y,bj P C f args ⟨0,.nil⟩ v1 Y/\v1=v)(b:J.lK args=true)(g:v.jl=true)(H:T):bj P C f args H v H:=by
 obtain⟨v1,Y,e,rfl⟩:=k
 have d:∀{l:List J},J.lK l=true-> ∀a∈l,b0 a:=by
  intro l;induction l with
  |nil=>intro _ a b;cases b
  |cons x r ih =>
   intro c a b;simp only [J.lK,cC]at c;rcases dR.1 b with rfl|hm
   .exact b0.of c.1
   .exact ih c.2 a hm
 exact e.bare (d b) (b0.of g) H
def io(g:List J->Option (J×List Prop)):List J->T->Option dx:=λargs h=>match g args with|some (v,ps)=>some (.one v h ps)|none=>none
def jo{P:Program}{f:FuncId}{g:List J->Option (J×List Prop)}(k:∀args v ps,g args=some (v,ps)->aX ps-> ∀H,bj P C f args H v H):∀args h a,io g args h=some a->a.cG P C f args h:=by
 intro args h a e;unfold io at e;split at e
 .rename_i u b hu;simp only [a8]at e;subst e;exact λae=>k _ _ _ hu ae h
 .cases e
end
end Go.br
namespace Go.Keys
abbrev Bytes:=List UInt8
def lead(b:Nat):Nat×Nat×Nat :=
 if b<128 then(1,0,0)
 else if 194<=b/\b<=223 then(2,128,191)
 else if b=224 then(3,160,191)
 else if b=237 then(3,128,159)
 else if 225<=b/\b<=239 then(3,128,191)
 else if b=240 then(4,144,191)
 else if 241<=b/\b<=243 then(4,128,191)
 else if b=244 then(4,128,143)
 else(0,0,0)
def tail:Nat->Nat->Nat->Nat->Nat->Bytes->Nat×Nat×Bool
 |0,i,_,_,v,_=>(v,i,false)
 |_+1,i,_,_,_,[]=>(65533,i,true)
 |k+1,i,aD,ah,v,c::r=>if c.toNat<aD\/ah<c.toNat then(65533,i,false)else tail k (i+1) 128 191 (v*64+c.toNat%64) r
def first:Bytes->Nat×Nat×Bool
 |[]=>(0,0,false)
 |b::r =>
  if(lead b.toNat).1=0 then(65533,1,false)
  else if(lead b.toNat).1=1 then(b.toNat,1,false)
  else tail ((lead b.toNat).1-1) 1 (lead b.toNat).2.1 (lead b.toNat).2.2 (b.toNat%2^(7- (lead b.toNat).1)) r
structure aP where
 kind:Int
 code:Int:=0
 cI:Int:=0
 x:Int:=0
 y:Int:=0
 text:Bytes:=[]
 deriving DecidableEq
def FF(b:Nat):(lead b).1<=4:=by
 unfold lead
 repeat' split
 all_goals simp
def gZ:Nat->Bytes->List Nat
 |0,_=> []
 |_+1,[]=> []
 |k+1,s=>(first s).1::gZ k (s.drop (first s).2.1)
def dv(s:Bytes):List Nat:=gZ s.length s
def u8(n:Nat):UInt8:=UInt8.ofNat n
def put(r:Nat):Bytes :=
 let r:=if 55296<=r/\r<=57343\/1114111<r then 65533 else r
 if r<128 then [u8 r]
 else if r<2048 then [u8 (192+r/64),u8 (128+r%64)]
 else if r<65536 then [u8 (224+r/4096),u8 (128+r/64%64),u8 (128+r%64)]
 else [u8 (240+r/262144),u8 (128+r/4096%64),u8 (128+r/64%64),u8 (128+r%64)]
def eM(l:List Nat):Bytes:=l.flatMap put
def valid(s:Bytes):Bool:=eM (dv s) == s
def fr:Nat->Bytes->List Nat×Bytes
 |0,_=>([],[])
 |_+1,[]=>([],[])
 |k+1,b::r =>
  if(first (b::r)).2.2 then([],b::r)
  else((first (b::r)).1::(fr k ((b::r).drop (first (b::r)).2.1)).1,(fr k ((b::r).drop (first (b::r)).2.1)).2)
def bM(ay:Bytes)(c:UInt8):List Nat×Bytes:=fr (ay.length+1) (ay++[c])
inductive h1 where
 |ground|cQ|cp|sequence|single|cD
 deriving DecidableEq
structure bI where
 nx:h1:= .ground
 ak:Bytes:=[]
 ay:Bytes:=[]
 ax:Bytes:=[]
 deriving DecidableEq
def dp(c:Int)(m:Int:=0):aP:= {kind:=2,code:=c,cI:=m}
def eb(c:Int)(m:Int:=0):aP:= {kind:=1,code:=c,cI:=m}
def dc(s:Bytes):aP:= {kind:=7,text:=s}
def control(c:Nat):aP :=
 if c=13 then dp 1 else if c=9 then dp 2 else if c=127 then dp 3 else if c=0 then eb 32 4
 else if c<27 then eb (c+96) 4 else eb (c+64) 4
def tell(s:bI)(e:aP):bI×List aP:=({s with ak:=[],nx:= .ground},[e])
def at'(ak:Bytes):Nat:=match ak with|b::_=>if b=27 then 1 else 0 | []=>0
def e5(s:bI)(c:UInt8)(no:bI->bI×List aP):bI×List aP :=
 let l:=(bM s.ay c).1
 let s1:= {s with ay:=(bM s.ay c).2,nx:= .cp}
 if s1.ay≠[]/\l=[]then({s1 with ak:=s.ak++[c]},[])
 else if l.length=1/\s.ak.length=at' s.ak\/valid (s.ak.drop (at' s.ak)++[c])=true then
  if valid ((s.ak++[c]).drop (at' s.ak))=true then tell s1 (eb (l.headD 0) (2*at' s.ak))
  else tell s1 (dc (s.ak++[c]))
 else no {s1 with ay:=[]}
def h2(s:bI)(c:UInt8)(no:bI->bI×List aP):bI×List aP :=
 if c.toNat<32\/c.toNat=127 then tell s (if s.ak=[]then control c.toNat else {control c.toNat with cI:=(control c.toNat).cI+2})
 else e5 s c no
def ground(s:bI)(c:UInt8):bI×List aP :=
 if c=27 then({s with ak:=[27],nx:= .cQ},[])
 else h2 s c λs1=>tell s1 (dc s1.ak)
def bad(s:bI)(c:UInt8):bI×List aP :=
 ((ground (tell s (dc s.ak)).1 c).1,dc s.ak::(ground (tell s (dc s.ak)).1 c).2)
def cp(s:bI)(c:UInt8):bI×List aP:=e5 s c λs1=>bad s1 c
def plain(s:bI)(c:UInt8):bI×List aP:=h2 s c λs1=>bad s1 c
def cQ(s:bI)(c:UInt8):bI×List aP :=
 if c=27 then((ground (tell s (dp 4)).1 c).1,dp 4::(ground (tell s (dp 4)).1 c).2)
 else if c=91 then({s with ak:=s.ak++[c],nx:= .sequence},[])
 else if c=79 then({s with ak:=s.ak++[c],nx:= .single},[])
 else plain s c
def dJ(c:Nat):Int :=
 if 65<=c/\c<=68 then 5+(c-65)else if c=72 then 9 else if c=70 then 10 else 0
def single(s:bI)(c:UInt8):bI×List aP :=
 if 0<dJ c.toNat then tell s (dp (dJ c.toNat))
 else if 80<=c.toNat/\c.toNat<=83 then tell s (dp (21+(c.toNat-80)))
 else if c.toNat=77 then tell s (dp 1)
 else((ground (tell s (eb 79 2)).1 c).1,eb 79 2::(ground (tell s (eb 79 2)).1 c).2)
def splitAt(sep:UInt8):Bytes->List Bytes
 |[]=> [[]]
 |b::r=>if b=sep then []::splitAt sep r else match splitAt sep r with|w::t=>(b::w)::t | []=> [[b]]
def digit(b:UInt8):Bool:=decide (48<=b.toNat)&&decide (b.toNat<=57)
def number(w:Bytes):Nat:=w.foldl (λn b=>10*n+(b.toNat-48)) 0
def fX:List Bytes->Option (List Nat)
 |[]=>some []
 |w::r=>if w=[]\/9<w.length\/w.all digit=false then none else(fX r).map (number w:: ·)
def numbers(words:Bytes):Option (List Nat):=if words=[]then some []else fX (splitAt 59 words)
def gQ(n:Nat):Int :=
 if n=1\/n=7 then 9 else if n=4\/n=8 then 10 else if n=2\/n=3 then 11+((n:Int)-2)else if n=5\/n=6 then 13+((n:Int)-5)
 else if 11<=n/\n<=15 then 21+((n:Int)-11)else if 17<=n/\n<=21 then 21+((n:Int)-12)else if n=23\/n=24 then 21+((n:Int)-13)else 0
def shown(r:Int):Bool:=decide (32<=r)&&decide (r≠127)&&decide (r<=1114111)&&(decide (r<55296) || decide (57343<r))
def c1(c:Nat)(m:Int):Option aP :=
 if c=13 then some (dp 1 m)else if c=9 then some (dp 2 m)else if c=127 then some (dp 3 m)else if c=27 then some (dp 4 m)
 else if 2097152<c\/shown c=false then none else some (eb c m)
def dq(words:Bytes)(c:Nat):Option aP :=
 match words with
 |60 ::rest =>
  match numbers rest with
  |some [d,a,n2] =>
   let held:=d/4%8
   let b:=d-4*held
   if a<1\/4096<a\/n2<1\/4096<n2 then none
   else
    let e:aP:= {kind:=3,cI:=held,x:=(a:Int)-1,y:=(n2:Int)-1}
    if c=109/\b<=3 then some {e with code:=3}
    else if c=77/\b<=2 then some {e with code:=b}
    else if c=77/\32<=b/\b<=35 then some {e with code:=6}
    else if c=77/\b=64 then some {e with code:=4}
    else if c=77/\b=65 then some {e with code:=5}
    else none
  |_=>none
 |_=>none
def told(words:Bytes)(c:UInt8):Option aP :=
 if c=82\/c=99\/c=110 then some {kind:=6,text:=words++[c]}
 else if c=77\/c=109 then dq words c.toNat
 else
  match numbers words with
  |none=>none
  |some [] =>
   if c=90 then some (dp 2 1)else if c=73 then some {kind:=5,code:=1} else if c=79 then some {kind:=5}
   else if 0<dJ c.toNat then some (dp (dJ c.toNat))else none
  |some (a::r) =>
   let m:=match r with | [x]=>x|_=>1
   if 1<r.length\/m<1\/8<m then none
   else if 0<dJ c.toNat/\a=1/\r.length=1 then some (dp (dJ c.toNat) ((m:Int)-1))
   else if c=126/\0<gQ a then some (dp (gQ a) ((m:Int)-1))
   else if c=117 then c1 a ((m:Int)-1)
   else none
def iR(words:Bytes):Bool:=words ==[50,48,48] || (words.dropWhile (· == 48) ==[50,48,48]&&decide (words.length<=9))
def done(s:bI)(words:Bytes)(c:UInt8):bI×List aP :=
 if c=126/\iR words=true then({s with ak:=[],nx:= .cD},[])
 else tell s ((told words c).getD (dc s.ak))
def sequence(s:bI)(c:UInt8):bI×List aP :=
 if 64<=c.toNat/\c.toNat<=126 then done {s with ak:=s.ak++[c]} (s.ak.drop 2) c
 else if c.toNat<32\/63<c.toNat\/48<=c.toNat/\(s.ak.getLastD 0).toNat<48 then bad s c
 else if s.ak.length+1=64 then tell {s with ak:=s.ak++[c]} (dc (s.ak++[c]))
 else({s with ak:=s.ak++[c]},[])
def cm:Bytes:=[27,91,50,48,49,126]
def shift:Nat->Bytes->Bytes->Bytes×Bytes
 |0,ak,ax=>(ak,ax)
 |_+1,[],ax=>([],ax)
 |k+1,b::r,ax=>if(b::r).isPrefixOf cm then(b::r,ax)else shift k r (if ax.length<65536 then ax++[b]else ax)
def cD(s:bI)(c:UInt8):bI×List aP :=
 let p:=shift (s.ak.length+1) (s.ak++[c]) s.ax
 if p.1.length=6 then tell {s with ak:=p.1,ax:=[]} {kind:=4,text:=p.2}
 else({s with ak:=p.1,ax:=p.2},[])
def step(s:bI)(c:UInt8):bI×List aP :=
 match s.nx with
 |.ground=>ground s c
 |.cQ=>cQ s c
 |.cp=>cp s c
 |.sequence=>sequence s c
 |.single=>single s c
 |.cD=>cD s c
def cB:bI->Bytes->bI×List aP
 |s,[]=>(s,[])
 |s,c::r=>((cB (step s c).1 r).1,(step s c).2++(cB (step s c).1 r).2)
def FG(s:bI)(a b:Bytes):cB s (a++b)=((cB (cB s a).1 b).1,(cB s a).2++(cB (cB s a).1 b).2):=by
 induction a generalizing s with
 |nil=>simp [cB]
 |cons c r ih=>simp only [hB,cB,ih,jb]
def held(s:bI):Nat:=s.ax.length+s.ak.length
end Go.Keys
namespace Go.Proofs.zz
open Go.br Go.Keys
abbrev bd(x:Int) : Prop := -9223372036854775808 <= x /\ x <= 9223372036854775807
abbrev aL(x:J) : aa := aa.an [x] 6 true (some (42,6))
abbrev _root_.Go.br.J.V(x:Int) : J := J.int .i64 x
abbrev _root_.Go.br.J.ac(x:Int) : J := J.int .u8 x
abbrev _root_.Go.br.J.av(x:Int) : J := J.int .i32 x
abbrev _root_.Go.br.J.bA(x:Int) : J := J.int .i8 x
abbrev ap(n:Nat)(v:J)(r:b7) : b7 := .aG (.val n v) r
abbrev _root_.Go.br.J.aJ : J := J.bool false
abbrev _root_.Go.br.J.aK : J := J.bool true
abbrev bz(b:Bool) : Prop := some (J.bool b) = some (J.bool false)
abbrev cX(b:Bool) : Prop := some (J.bool b) = some (J.bool true)
abbrev bH : bB := ⟨0,0,0,0,6⟩
abbrev ZD(c:Int) : UInt8 := UInt8.ofNat (Int.toNat c)
abbrev bY(n:Nat) : Prop := Nat.le (Nat.succ n) (2^62)
abbrev af(n:Nat)(l:List (Nat × aa)) : T := T.bO n l
abbrev da(x:Int) : Prop := x = 0 -> False
abbrev fL(i:Int)(n:Nat) : Prop := 0 <= i /\ i < n
abbrev cf(x:Int) : Prop := -2147483648 <= x /\ x <= 2147483647
abbrev bG : T := ⟨0, .nil⟩
abbrev _root_.Go.br.J.bZ : J := J.tuple []
abbrev _root_.Go.br.J.aB(a v i n c:Nat) : J := J.slice (some ⟨a, v, i, 0, 1⟩) n c
abbrev _root_.Go.br.J.aT(x:Nat) : J := J.ptr (some ⟨x, 0, 0, 0, 6⟩)
abbrev _root_.Go.br.J.ZE(x:Nat) : J := J.ptr (some ⟨x, 0, 0, 0, 1⟩)
abbrev _root_.Go.br.J.ZF(x:Nat) : J := J.ptr (some ⟨x, 0, 0, 0, 4⟩)
abbrev _root_.Go.br.J.cY(x:Nat) : J := J.ptr (some ⟨x, 0, 0, 0, 3⟩)
abbrev ZG(x:Nat) : Option bB := some ⟨x, 0, 0, 0, 3⟩
abbrev ZH(x:Nat) : Option bB := some ⟨x, 0, 0, 0, 4⟩
abbrev bf(h:T)(k:Nat) : T := T.mk (h.M+k) h.2
abbrev b5(x:Nat) : Option bB := some ⟨x, 0, 0, 0, 1⟩
abbrev k1(x:Nat) : Option bB := some ⟨x, 0, 0, 0, 6⟩
abbrev bl(f:FuncId)(a:List J)(h:T)(K:J -> T -> Prop) : Prop := ∃v Y, bj Tryz.prog cz f a h v Y /\ K v Y
abbrev be := bj Tryz.prog cz
abbrev bk := v' Tryz.prog cz
abbrev bN := cO Tryz.prog cz
abbrev dd := b2 Tryz.prog cz
noncomputable abbrev bu := N2 Tryz.prog
abbrev bw := Option (TypeId × Nat)
abbrev aU := J -> T -> Prop
def bm{S:dQ}{f:FuncId}{args:List J}{h:T}{K:J -> T -> Prop}{p:Prop}(a:dC Tryz.prog cz S)(hs:b7)(k:p)(e : Af Tryz.prog env S f args h hs K = p := by kernel_rfl) : bl f args h K := pH c6 mixed a e k
def Oq(a:Int)(b:aU)(c:(a<128->b (J.tuple [J.int .i64 (1),J.int .u8 (0),J.int .u8 (0)]) (af 9 []))/\(¬a<128->(194<=a->(a<=223->b (J.tuple [J.int .i64 (2),J.int .u8 (128),J.int .u8 (191)]) (af 16 []))/\(¬a<=223->(a=224->b (J.tuple [J.int .i64 (3),J.int .u8 (160),J.int .u8 (191)]) (af 19 []))/\(¬a=224->(a=237->b (J.tuple [J.int .i64 (3),J.int .u8 (128),J.int .u8 (159)]) (af 22 []))/\(¬a=237->(225<=a->(a<=239->b (J.tuple [J.int .i64 (3),J.int .u8 (128),J.int .u8 (191)]) (af 29 []))/\(¬a<=239->(a=240->b (J.tuple [J.int .i64 (4),J.int .u8 (144),J.int .u8 (191)]) (af 32 []))/\(¬a=240->(241<=a->(a<=243->b (J.tuple [J.int .i64 (4),J.int .u8 (128),J.int .u8 (191)]) (af 39 []))/\(¬a<=243->(a=244->b (J.tuple [J.int .i64 (4),J.int .u8 (128),J.int .u8 (143)]) (af 42 []))/\(¬a=244->b (J.tuple [J.int .i64 (0),J.int .u8 (0),J.int .u8 (0)]) (af 42 []))))/\(¬241<=a->(a=244->b (J.tuple [J.int .i64 (4),J.int .u8 (128),J.int .u8 (143)]) (af 42 []))/\(¬a=244->b (J.tuple [J.int .i64 (0),J.int .u8 (0),J.int .u8 (0)]) (af 42 []))))))/\(¬225<=a->(a=240->b (J.tuple [J.int .i64 (4),J.int .u8 (144),J.int .u8 (191)]) (af 32 []))/\(¬a=240->(241<=a->(a<=243->b (J.tuple [J.int .i64 (4),J.int .u8 (128),J.int .u8 (191)]) (af 39 []))/\(¬a<=243->(a=244->b (J.tuple [J.int .i64 (4),J.int .u8 (128),J.int .u8 (143)]) (af 42 []))/\(¬a=244->b (J.tuple [J.int .i64 (0),J.int .u8 (0),J.int .u8 (0)]) (af 42 []))))/\(¬241<=a->(a=244->b (J.tuple [J.int .i64 (4),J.int .u8 (128),J.int .u8 (143)]) (af 42 []))/\(¬a=244->b (J.tuple [J.int .i64 (0),J.int .u8 (0),J.int .u8 (0)]) (af 42 [])))))))))/\(¬194<=a->(a=224->b (J.tuple [J.int .i64 (3),J.int .u8 (160),J.int .u8 (191)]) (af 19 []))/\(¬a=224->(a=237->b (J.tuple [J.int .i64 (3),J.int .u8 (128),J.int .u8 (159)]) (af 22 []))/\(¬a=237->(225<=a->(a<=239->b (J.tuple [J.int .i64 (3),J.int .u8 (128),J.int .u8 (191)]) (af 29 []))/\(¬a<=239->(a=240->b (J.tuple [J.int .i64 (4),J.int .u8 (144),J.int .u8 (191)]) (af 32 []))/\(¬a=240->(241<=a->(a<=243->b (J.tuple [J.int .i64 (4),J.int .u8 (128),J.int .u8 (191)]) (af 39 []))/\(¬a<=243->(a=244->b (J.tuple [J.int .i64 (4),J.int .u8 (128),J.int .u8 (143)]) (af 42 []))/\(¬a=244->b (J.tuple [J.int .i64 (0),J.int .u8 (0),J.int .u8 (0)]) (af 42 []))))/\(¬241<=a->(a=244->b (J.tuple [J.int .i64 (4),J.int .u8 (128),J.int .u8 (143)]) (af 42 []))/\(¬a=244->b (J.tuple [J.int .i64 (0),J.int .u8 (0),J.int .u8 (0)]) (af 42 []))))))/\(¬225<=a->(a=240->b (J.tuple [J.int .i64 (4),J.int .u8 (144),J.int .u8 (191)]) (af 32 []))/\(¬a=240->(241<=a->(a<=243->b (J.tuple [J.int .i64 (4),J.int .u8 (128),J.int .u8 (191)]) (af 39 []))/\(¬a<=243->(a=244->b (J.tuple [J.int .i64 (4),J.int .u8 (128),J.int .u8 (143)]) (af 42 []))/\(¬a=244->b (J.tuple [J.int .i64 (0),J.int .u8 (0),J.int .u8 (0)]) (af 42 []))))/\(¬241<=a->(a=244->b (J.tuple [J.int .i64 (4),J.int .u8 (128),J.int .u8 (143)]) (af 42 []))/\(¬a=244->b (J.tuple [J.int .i64 (0),J.int .u8 (0),J.int .u8 (0)]) (af 42 [])))))))))) :
 bl 99 [.ac a] bG b :=
 bm bL (.al 1001 .nil<|.al 3001 (.al 3004 .nil<|.al 5001 .nil<|.al 7001 .nil<|.al 9001 (.al 9004 .nil<|.al 11001 .nil<|.al 13001 (.al 13004 .nil<|.al 15001 .nil .nil)<|.al 15001 .nil .nil)<|.al 11001 .nil<|.al 13001 (.al 13004 .nil<|.al 15001 .nil .nil)<|.al 15001 .nil .nil)<|.al 5001 .nil<|.al 7001 .nil<|.al 9001 (.al 9004 .nil<|.al 11001 .nil<|.al 13001 (.al 13004 .nil<|.al 15001 .nil .nil)<|.al 15001 .nil .nil)<|.al 11001 .nil<|.al 13001 (.al 13004 .nil<|.al 15001 .nil .nil)<|.al 15001 .nil .nil) c
def cE(b:Int):Int×Int×Int :=
 if b<128 then(1,0,0)else if 194<=b/\b<=223 then(2,128,191)else if b=224 then(3,160,191)else if b=237 then(3,128,159)else if 225<=b/\b<=239 then(3,128,191)
 else if b=240 then(4,144,191)else if 241<=b/\b<=243 then(4,128,191)else if b=244 then(4,128,143)else(0,0,0)
def k2(b:Int):J:= .tuple [.int .i64 (cE b).1,.int .u8 (cE b).2.1,.int .u8 (cE b).2.2]
def Ot(b x y z:Int)(h:cE b=(x,y,z)):J.tuple [.V x,.ac y,.ac z]=k2 b:=by unfold k2;rw [h]
def n8(b:Int)(H:T):be 99 [.ac b] H (k2 b) H:=by
 refine bj.bU (Oq b (λv _=>v=k2 b) ?_) rfl rfl H
 repeat' (first|apply And.intro|intro _)
 all_goals (refine Ot _ _ _ _ ?_;unfold cE;repeat' split)
 all_goals first|rfl|omega
def Ou(a:Int)(b:aU)(c:(a=65->(0<=a-65/\a-65<=255)/\(cf (a-65))/\(cf (5+(a-65)))/\b (J.int .i32 (5+(a-65))) (af 9 []))/\(¬a=65->(a=66->(0<=a-65/\a-65<=255)/\(cf (a-65))/\(cf (5+(a-65)))/\b (J.int .i32 (5+(a-65))) (af 11 []))/\(¬a=66->(a=67->(0<=a-65/\a-65<=255)/\(cf (a-65))/\(cf (5+(a-65)))/\b (J.int .i32 (5+(a-65))) (af 13 []))/\(¬a=67->(a=68->(0<=a-65/\a-65<=255)/\(cf (a-65))/\(cf (5+(a-65)))/\b (J.int .i32 (5+(a-65))) (af 15 []))/\(¬a=68->(a=72->b (J.int .i32 (9)) (af 13 []))/\(¬a=72->(a=70->b (J.int .i32 (10)) (af 15 []))/\(¬a=70->b (J.int .i32 (0)) (af 15 [])))))))) :
 bl 71 [.ac a] bG b :=
 bm bL (.al 2000 (.aG (.go 6001)<|.aG (.go 6002)<|.aG (.go 6003) .nil)<|.al 3000 (.aG (.go 6001)<|.aG (.go 6002)<|.aG (.go 6003) .nil)<|.al 4000 (.aG (.go 6001)<|.aG (.go 6002)<|.aG (.go 6003) .nil)<|.al 5000 (.aG (.go 6001)<|.aG (.go 6002)<|.aG (.go 6003) .nil)<|.al 7000 .nil<|.al 9000 .nil .nil) c
def ft(c:Int):Int:=if 65<=c/\c<=68 then 5+(c-65)else if c=72 then 9 else if c=70 then 10 else 0
def Ov(c:Int)(H:T):be 71 [.ac c] H (.av (ft c)) H:=by
 refine bj.bU (Ou c (λv _=>v=.av (ft c)) ?_) rfl rfl H
 repeat' (first|apply And.intro|intro _)
 all_goals first
  |omega
  |(refine dm (J.int .i32) ?_;unfold ft;repeat' split)
 all_goals omega
def Ow(a:Int)(b:aU)(c:(a=1->b (J.int .i32 (9)) (af 9 []))/\(¬a=1->(a=7->b (J.int .i32 (9)) (af 9 []))/\(¬a=7->(a=4->b (J.int .i32 (10)) (af 16 []))/\(¬a=4->(a=8->b (J.int .i32 (10)) (af 16 []))/\(¬a=8->(a=2->(bd (a-2))/\(cf (a-2))/\(cf (11+(a-2)))/\b (J.int .i32 (11+(a-2))) (af 27 []))/\(¬a=2->(a=3->(bd (a-2))/\(cf (a-2))/\(cf (11+(a-2)))/\b (J.int .i32 (11+(a-2))) (af 27 []))/\(¬a=3->(a=5->(bd (a-5))/\(cf (a-5))/\(cf (13+(a-5)))/\b (J.int .i32 (13+(a-5))) (af 34 []))/\(¬a=5->(a=6->(bd (a-5))/\(cf (a-5))/\(cf (13+(a-5)))/\b (J.int .i32 (13+(a-5))) (af 34 []))/\(¬a=6->(11<=a->(a<=15->(bd (a-11))/\(cf (a-11))/\(cf (21+(a-11)))/\b (J.int .i32 (21+(a-11))) (af 41 []))/\(¬a<=15->(17<=a->(a<=21->(bd (a-12))/\(cf (a-12))/\(cf (21+(a-12)))/\b (J.int .i32 (21+(a-12))) (af 48 []))/\(¬a<=21->(a=23->(bd (a-13))/\(cf (a-13))/\(cf (21+(a-13)))/\b (J.int .i32 (21+(a-13))) (af 55 []))/\(¬a=23->(a=24->(bd (a-13))/\(cf (a-13))/\(cf (21+(a-13)))/\b (J.int .i32 (21+(a-13))) (af 55 []))/\(¬a=24->b (J.int .i32 (0)) (af 51 [])))))/\(¬17<=a->(a=23->(bd (a-13))/\(cf (a-13))/\(cf (21+(a-13)))/\b (J.int .i32 (21+(a-13))) (af 55 []))/\(¬a=23->(a=24->(bd (a-13))/\(cf (a-13))/\(cf (21+(a-13)))/\b (J.int .i32 (21+(a-13))) (af 55 []))/\(¬a=24->b (J.int .i32 (0)) (af 51 []))))))/\(¬11<=a->(17<=a->(a<=21->(bd (a-12))/\(cf (a-12))/\(cf (21+(a-12)))/\b (J.int .i32 (21+(a-12))) (af 48 []))/\(¬a<=21->(a=23->(bd (a-13))/\(cf (a-13))/\(cf (21+(a-13)))/\b (J.int .i32 (21+(a-13))) (af 55 []))/\(¬a=23->(a=24->(bd (a-13))/\(cf (a-13))/\(cf (21+(a-13)))/\b (J.int .i32 (21+(a-13))) (af 55 []))/\(¬a=24->b (J.int .i32 (0)) (af 51 [])))))/\(¬17<=a->(a=23->(bd (a-13))/\(cf (a-13))/\(cf (21+(a-13)))/\b (J.int .i32 (21+(a-13))) (af 55 []))/\(¬a=23->(a=24->(bd (a-13))/\(cf (a-13))/\(cf (21+(a-13)))/\b (J.int .i32 (21+(a-13))) (af 55 []))/\(¬a=24->b (J.int .i32 (0)) (af 51 [])))))))))))))) :
 bl 72 [.V a] bG b :=
 bm bL (.al 1001 .nil<|.al 1004 .nil<|.al 3001 .nil<|.al 3004 .nil<|.al 5001 (.aG (.go 6001)<|.aG (.go 6002)<|.aG (.go 6003) .nil)<|.al 5004 (.aG (.go 6001)<|.aG (.go 6002)<|.aG (.go 6003) .nil)<|.al 7001 (.aG (.go 8001)<|.aG (.go 8002)<|.aG (.go 8003) .nil)<|.al 7004 (.aG (.go 8001)<|.aG (.go 8002)<|.aG (.go 8003) .nil)<|.al 9001 (.al 9004 (.aG (.go 10001)<|.aG (.go 10002)<|.aG (.go 10003) .nil)<|.al 11001 (.al 11004 (.aG (.go 12001)<|.aG (.go 12002)<|.aG (.go 12003) .nil)<|.al 13001 (.aG (.go 14001)<|.aG (.go 14002)<|.aG (.go 14003) .nil)<|.al 13004 (.aG (.go 14001) (.aG (.go 14002) (.aG (.go 14003) .nil))) .nil)<|.al 13001 (.aG (.go 14001)<|.aG (.go 14002)<|.aG (.go 14003) .nil)<|.al 13004 (.aG (.go 14001) (.aG (.go 14002) (.aG (.go 14003) .nil))) .nil)<|.al 11001 (.al 11004 (.aG (.go 12001)<|.aG (.go 12002)<|.aG (.go 12003) .nil)<|.al 13001 (.aG (.go 14001)<|.aG (.go 14002)<|.aG (.go 14003) .nil)<|.al 13004 (.aG (.go 14001) (.aG (.go 14002) (.aG (.go 14003) .nil))) .nil)<|.al 13001 (.aG (.go 14001)<|.aG (.go 14002)<|.aG (.go 14003) .nil)<|.al 13004 (.aG (.go 14001) (.aG (.go 14002) (.aG (.go 14003) .nil))) .nil) c
def fM(n:Int):Int :=
 if n=1\/n=7 then 9 else if n=4\/n=8 then 10 else if n=2\/n=3 then 11+(n-2)else if n=5\/n=6 then 13+(n-5)
 else if 11<=n/\n<=15 then 21+(n-11)else if 17<=n/\n<=21 then 21+(n-12)else if n=23\/n=24 then 21+(n-13)else 0
set_option maxHeartbeats 4000000 in
def Ox(n:Int)(H:T):be 72 [.V n] H (.av (fM n)) H:=by
 refine bj.bU (Ow n (λv _=>v=.av (fM n)) ?_) rfl rfl H
 repeat' (first|apply And.intro|intro _)
 all_goals first
  |omega
  |(refine dm (J.int .i32) ?_;unfold fM;repeat' split)
 all_goals omega
def Oy(a:Int)(b:aU)(c:(32<=a->(a=127->b (J.bool false) (af 20 []))/\(¬a=127->(a<=1114111->(a<55296->b (J.bool true) (af 20 []))/\(¬a<55296->(57343<a->b (J.bool true) (af 20 []))/\(¬57343<a->b (J.bool false) (af 20 []))))/\(¬a<=1114111->b (J.bool false) (af 20 []))))/\(¬32<=a->b (J.bool false) (af 20 []))) :
 bl 41 [.av a] bG b :=
 bm bL (.al 1001 (.al 1004 .nil (.al 1008 (.al 1012 .nil (.al 1015 .nil .nil)) .nil)) .nil) c
def Ah(r:Int)(H:T):be 41 [.av r] H (.bool (shown r)) H:=by
 refine bj.bU (Oy r (λv _=>v=.bool (shown r)) ?_) rfl rfl H
 repeat' (first|apply And.intro|intro _)
 all_goals (refine dm J.bool ?_;simp [shown];try omega)
def bp(e:aP):J:= .agg [.int .i8 e.kind,.int .i32 e.code,.int .u8 e.cI,.int .i64 e.x,.int .i64 e.y,.str e.text]
def Oz(a:Int)(b:aU)(c:(a=13->b (J.agg [J.int .i8 (2),J.int .i32 (1),J.int .u8 (0),J.int .i64 (0),J.int .i64 (0),J.str []]) (af 6 [(0,(aL (J.agg [J.int .i8 (2),J.int .i32 (1),J.int .u8 (0),J.int .i64 (0),J.int .i64 (0),J.str []])))]))/\(¬a=13->(a=9->b (J.agg [J.int .i8 (2),J.int .i32 (2),J.int .u8 (0),J.int .i64 (0),J.int .i64 (0),J.str []]) (af 8 [(0,(aL (J.agg [J.int .i8 (2),J.int .i32 (2),J.int .u8 (0),J.int .i64 (0),J.int .i64 (0),J.str []])))]))/\(¬a=9->(a=127->b (J.agg [J.int .i8 (2),J.int .i32 (3),J.int .u8 (0),J.int .i64 (0),J.int .i64 (0),J.str []]) (af 10 [(0,(aL (J.agg [J.int .i8 (2),J.int .i32 (3),J.int .u8 (0),J.int .i64 (0),J.int .i64 (0),J.str []])))]))/\(¬a=127->(a=0->b (J.agg [J.int .i8 (1),J.int .i32 (32),J.int .u8 (4),J.int .i64 (0),J.int .i64 (0),J.str []]) (af 12 [(0,(aL (J.agg [J.int .i8 (1),J.int .i32 (32),J.int .u8 (4),J.int .i64 (0),J.int .i64 (0),J.str []])))]))/\(¬a=0->(a<27->(cf a)/\True/\b (J.agg [J.int .i8 (1),J.int .i32 (bP .i32 a (96)),J.int .u8 (4),J.int .i64 (0),J.int .i64 (0),J.str []]) (af 17 [(0,(aL (J.agg [J.int .i8 (1),J.int .i32 (bP .i32 a (96)),J.int .u8 (4),J.int .i64 (0),J.int .i64 (0),J.str []])))]))/\(¬a<27->(cf a)/\True/\b (J.agg [J.int .i8 (1),J.int .i32 (bP .i32 a (64)),J.int .u8 (4),J.int .i64 (0),J.int .i64 (0),J.str []]) (af 17 [(0,(aL (J.agg [J.int .i8 (1),J.int .i32 (bP .i32 a (64)),J.int .u8 (4),J.int .i64 (0),J.int .i64 (0),J.str []])))]))))))) :
 bl 89 [.ac a] bG b :=
 bm bL (.al 2000 .nil<|.al 4000 .nil<|.al 6000 .nil<|.al 8000 .nil<|.al 10001 (.aG (.go 11001)<|.aG (.go 11002) .nil)<|.aG (.go 12001)<|.aG (.go 12002) .nil) c
def OA:∀n:Fin 27,0<n.val->bP .i32 (n.val:Int) 96=n.val+96:=by decide+kernel
def OB:∀n:Fin 32,26<n.val->bP .i32 (n.val:Int) 64=n.val+64:=by decide+kernel
def OC(c:Int)(aj:0<=c/\(c<32\/c=127))(a:c≠27)(H:T):be 89 [.ac c] H (bp (control c.toNat)) H:=by
 refine bj.bU (Oz c (λv _=>v=bp (control c.toNat)) ?_) rfl rfl H;obtain⟨n,rfl⟩:=kS aj.1
 repeat' (first|apply And.intro|intro _)
 all_goals first
  |omega
  |exact trivial
  |skip
 all_goals simp only [fS]
 all_goals unfold Go.Keys.control
 all_goals repeat' split
 all_goals first
  |(exfalso;omega)
  |rfl
  |(have:=OA ⟨n,A⟩ (by simp;omega);simp only at this;rw [this];rfl)
  |(have:=OB ⟨n,A⟩ (by simp;omega);simp only at this;rw [this];rfl)
def OD(b:Int):(cE b).1=0\/(cE b).1=1\/(cE b).1=2\/(cE b).1=3\/(cE b).1=4:=by
 unfold cE
 repeat' split
 all_goals simp
def Ai:List J->T->Option dx:=λa h =>
 match a with
 |[.int .u8 b]=>some (.or ((cE b).1=0) (.one (.tuple [.int .i64 0,.int .u8 (cE b).2.1,.int .u8 (cE b).2.2]) h []) (.or ((cE b).1=1) (.one (.tuple [.int .i64 1,.int .u8 (cE b).2.1,.int .u8 (cE b).2.2]) h [])
  (.or ((cE b).1=2) (.one (.tuple [.int .i64 2,.int .u8 (cE b).2.1,.int .u8 (cE b).2.2]) h []) (.or ((cE b).1=3) (.one (.tuple [.int .i64 3,.int .u8 (cE b).2.1,.int .u8 (cE b).2.2]) h []) (.one (.tuple [.int .i64 4,.int .u8 (cE b).2.1,.int .u8 (cE b).2.2]) h [])))))
 |_=>none
def OE:∀args h a,Ai args h=some a->a.cG Tryz.prog cz 99 args h:=by
 intro args h a e;unfold Ai at e;split at e<;>first|(cases e;done)|skip
 rename_i b;simp only [a8]at e;subst e;have go:∀n,(cE b).1=n->be 99 [.ac b] h (.tuple [.V n,.ac (cE b).2.1,.ac (cE b).2.2]) h:=λn aw=>by rw [<-aw];exact n8 b h
 exact⟨λe _=>go _ e,λc=>⟨λe _=>go _ e,λd=>⟨λe _=>go _ e,λn2=>⟨λe _=>go _ e,λf _=>go _ (by have:=OD b;omega)⟩⟩⟩⟩
def mJ:dQ:=((((Fu.add 99 Ai).add 71 (io λa=>match a with | [.int .u8 b]=>some (.int .i32 (ft b),[])|_=>none)).add
 72 (io λa=>match a with | [.int .i64 b]=>some (.int .i32 (fM b),[])|_=>none)).add 41 (io λa=>match a with | [.int .i32 b]=>some (.bool (shown b),[])|_=>none)).add
 89 (io λa=>match a with | [.int .u8 b]=>some (bp (control b.toNat),[0<=b/\(b<32\/b=127),b≠27])|_=>none)
def ci:dC Tryz.prog cz mJ:=by
 refine((((bL.add OE).add (jo ?_)).add (jo ?_)).add (jo ?_)).add (jo ?_)
 all_goals
  intro args v ps e ae H;split at e<;>first|(cases e;done)|skip
  simp only [a8,bC]at e;obtain⟨rfl,rfl⟩:=e
 .exact Ov _ H
 .exact Ox _ H
 .exact Ah _ H
 .exact OC _ ae.head ae.tail.head H
abbrev fN(a b c d n:Int)(ty:bw):aa:=aa.an [.agg [.int .u8 a,.int .u8 b,.int .u8 c,.int .u8 d,.int .i64 n]] 5 true ty
abbrev fg(c:Int):aa:=aa.an [.int .u8 c] 1 true
abbrev cx(a:Int):aa:=(aa.an ([.ac a]) 1 true)
abbrev mK:b7:=(ab 7001<|ab 7004<|.aG (.rounds 300) .nil)
abbrev FH:aa:=(aa.an ([.slice (b5 19) 1 1]) 1 true (some (34,1)))
abbrev n9(b c d a:Int):J:=J.agg [.ac a,.ac b,.ac c,.ac d,.V 1]
abbrev Aj(a b c d:Int)(e:bw):aa:=⟨[.agg [.ac a,.ac b,.ac c,.ac d,.V 0]],5,true,false,0,0,0,e⟩
abbrev k3(b c d a:Int)(e:bw):aa:=⟨[(n9 b c d a)],5,true,false,0,0,0,e⟩
abbrev wC(b c d a:Int)(e:bw):T:=(af 95 [(0,(k3 b c d a e)),(1,(cx a)),(5,aa.an (List.replicate 0 (.ac 0)) 1 true),(15,FH),(19,aa.an [.ac a] 1 false (some (5,0)))])
def OF(g c d e a j i:Int)(f:bw)(b:aU)(h:((cE a).1=0->b (.slice (b5 70) 1 1) (af 81 [(0,(Aj g c d e f)),(1,(cx a)),(5,aa.an (List.replicate 0 (.ac 0)) 1 true),(15,(aa.an ([.aB 19 0 1 0 0]) 1 true (some (34,1)))),(19,aa.an [.ac a] 1 false (some (5,0))),(69,aa.an [.av 65533] 1 true),(70,aa.an [.av 65533] 1 false (some (21,0)))]))/\(¬(cE a).1=0->((cE a).1=1->(cf a)/\b (.slice (b5 74) 1 1) (af 85 [(0,(Aj g c d e f)),(1,(cx a)),(5,aa.an (List.replicate 0 (.ac 0)) 1 true),(15,(aa.an ([.aB 19 0 1 0 0]) 1 true (some (34,1)))),(19,aa.an [.ac a] 1 false (some (5,0))),(73,aa.an [.av a] 1 true),(74,aa.an [.av a] 1 false (some (21,0)))]))/\(¬(cE a).1=1->((cE a).1=2->(cf a)/\True/\b (.slice none 0 0) (wC c d e a f))/\(¬(cE a).1=2->((cE a).1=3->(cf a)/\True/\b (.slice none 0 0) (wC c d e a f))/\(¬(cE a).1=3->(cf a)/\True/\b (.slice none 0 0) (wC c d e a f)))))) :
 bl 107 [.ptr (some ⟨0,0,0,0,5⟩),.slice (b5 1) 1 1] (T.of [fN g c d e 0 f,fg a]) b :=
 bm ci (.aG (.rounds 300)<|he 8003<|he 1001<|.al 2001 .nil<|.al 2001 (ab 6001 .nil)<|.al 2001 mK<|.al 2001 mK mK) h
abbrev wD:J:=J.aB 14 1 1 1 1
abbrev wE:J:=J.aB 14 1 2 0 0
abbrev q4:J:=J.slice (b5 104) 1 1
abbrev lO:J:=J.aB 104 1 0 2 2
abbrev pJ(a b c d:Int):J:=J.agg [.ac a,.ac b,.ac c,.ac d,.V 0]
abbrev jp(b a:Int)(c:bw):aa:=⟨[.ac b,.ac a],1,false,false,1,0,1,some (5,0)⟩
abbrev mL(a:Int)(b:bw):aa:=⟨[.av 65533,.av a],1,false,false,1,0,1,some (21,0)⟩
abbrev mM(a:bw):aa:=⟨[.av 65533,.av 65533],1,false,false,1,0,1,some (21,0)⟩
abbrev wF:aa:=(aa.an ([wD]) 1 true (some (34,1)))
abbrev q5:aa:=(aa.an ([wE]) 1 true (some (34,1)))
abbrev ko:b7:=(he 1001<|.al 2001 .nil<|.al 2001 (ab 6001 .nil)<|.al 2001 mK<|.al 2001 mK mK)
abbrev fY(a b c d:Int)(e:bw):aa:=⟨[(pJ a b c d)],5,true,false,0,0,0,e⟩
abbrev Ak(b d e f a:Int)(c:bw):T:=(af 61 [(0,(fY b d e f c)),(1,(cx a)),(5,aa.an (List.replicate 0 (.ac 0)) 1 true),(14,(jp b a c)),(15,(aa.an ([.aB 14 1 0 2 2]) 1 true (some (34,1))))])
abbrev q6(c d e f a:Int)(b:bw):T:=(af 179 [(0,(k3 d e f a b)),(1,(cx a)),(5,aa.an (List.replicate 0 (.ac 0)) 1 true),(14,(jp c a b)),(15,wF),(103,aa.an [.av 65533] 1 true),(104,aa.an [.av 65533] 1 false (some (21,0)))])
abbrev wG(c d e f a:Int)(b:bw):T:=(af 169 [(0,(fY c d e f b)),(1,(cx a)),(5,aa.an (List.replicate 0 (.ac 0)) 1 true),(14,(jp c a b)),(15,q5),(103,aa.an [.av 65533] 1 true),(104,(mL a b)),(157,aa.an [.av a] 1 true)])
abbrev mN(c d e f b:Int)(a:bw):T:=(af 165 [(0,(fY c d e f a)),(1,(cx b)),(5,aa.an (List.replicate 0 (.ac 0)) 1 true),(14,(jp c b a)),(15,q5),(103,aa.an [.av 65533] 1 true),(104,(mM a)),(153,aa.an [.av 65533] 1 true)])
abbrev wH(c d e f a:Int)(g:bw)(b:aU):Prop:=(¬(cE a).1=2->((cE a).1=3->(cf a)/\True/\b (q4) (q6 c d e f a g))/\(¬(cE a).1=3->(cf a)/\True/\b (q4) (q6 c d e f a g)))
abbrev mO(c d e f a:Int)(g:bw)(b:aU):Prop:=(¬(cE a).1=0->((cE a).1=1->(cf a)/\b (lO) (wG c d e f a g))/\(¬(cE a).1=1->((cE a).1=2->(cf a)/\True/\b (q4) (q6 c d e f a g))/\(wH c d e f a g b)))
def OG(b d e f a i h:Int)(c:bw)(g:aU)(j:bk 99 [.ac b] (Ak b d e f a c) (.tuple [.V 2,.ac i,.ac h]) (Ak b d e f a c)/\(cf b)/\True/\(a<i->((cE a).1=0->g (lO) (mN b d e f a c))/\(mO b d e f a c g))/\(¬a<i->(h<a->((cE a).1=0->g (lO) (mN b d e f a c))/\(mO b d e f a c g))/\(¬h<a->Int.NonNeg (6-0)/\True/\(cf (a' .u8 a (63)))/\True/\g (.slice (b5 120) 1 1) (af 131 [(0,(fY b d e f c)),(1,(cx a)),(5,aa.an (List.replicate 0 (.ac 0)) 1 true),(14,(jp b a c)),(15,q5),(119,aa.an [.av (bP .i32 (eu .i32 (a' .i32 b (31)) (6)) (a' .u8 a (63)))] 1 true),(120,aa.an [.av (bP .i32 (eu .i32 (a' .i32 b (31)) (6)) (a' .u8 a (63)))] 1 false (some (21,0)))])))) :
 bl 107 [.ptr (some ⟨0,0,0,0,5⟩),.slice (b5 1) 1 1] (T.of [fN b d e f 1 c,fg a]) g :=
 bm ci (.aG (.rounds 300)<|he 8003<|he 1001<|ap 2001 (.tuple [.V 2,.ac i,.ac h])<|ab 7001<|ab 7004<|.aG (.rounds 300)<|he 13002<|.al 14002 (he 8003 ko)<|.al 14006 (he 8003 ko)<|ab 17001<|ab 17003<|ab 17004<|ab 17005 .nil) j
abbrev n':aa:=(aa.an ([.aB 14 1 0 2 2]) 1 true (some (34,1)))
def OH(b f d e a i h:Int)(c:bw)(g:aU)(j:bk 99 [.ac b] (af 61 [(0,(fY b f d e c)),(1,(cx a)),(5,aa.an (List.replicate 0 (.ac 0)) 1 true),(14,(jp b a c)),(15,n')]) (.tuple [.V 3,.ac i,.ac h]) (af 61 [(0,(fY b f d e c)),(1,(cx a)),(5,aa.an (List.replicate 0 (.ac 0)) 1 true),(14,(jp b a c)),(15,n')])/\(cf b)/\True/\(a<i->((cE a).1=0->g (lO) (mN b f d e a c))/\(mO b f d e a c g))/\(¬a<i->(h<a->((cE a).1=0->g (lO) (mN b f d e a c))/\(mO b f d e a c g))/\(¬h<a->Int.NonNeg (6-0)/\True/\(cf (a' .u8 a (63)))/\True/\g (.slice none 0 0) (af 131 [(0,⟨[.agg [.ac b,.ac a,.ac d,.ac e,.V 2]],5,true,false,0,0,0,c⟩),(1,(cx a)),(5,aa.an (List.replicate 0 (.ac 0)) 1 true),(14,(jp b a c)),(15,n')])))) :
 bl 107 [.ptr (some ⟨0,0,0,0,5⟩),.slice (b5 1) 1 1] (T.of [fN b f d e 1 c,fg a]) g :=
 bm ci (.aG (.rounds 300)<|he 8003<|he 1001<|ap 2001 (.tuple [.V 3,.ac i,.ac h])<|ab 7001<|ab 7004<|.aG (.rounds 300)<|he 13002<|.al 14002 (he 8003 ko)<|.al 14006 (he 8003 ko)<|ab 17001<|ab 17003<|ab 17004<|ab 17005 .nil) j
def OI(b f d e a i h:Int)(c:bw)(g:aU)(j:bk 99 [.ac b] (af 61 [(0,(fY b f d e c)),(1,(cx a)),(5,aa.an (List.replicate 0 (.ac 0)) 1 true),(14,(jp b a c)),(15,n')]) (.tuple [.V 4,.ac i,.ac h]) (af 61 [(0,(fY b f d e c)),(1,(cx a)),(5,aa.an (List.replicate 0 (.ac 0)) 1 true),(14,(jp b a c)),(15,n')])/\(cf b)/\True/\(a<i->((cE a).1=0->g (lO) (mN b f d e a c))/\(mO b f d e a c g))/\(¬a<i->(h<a->((cE a).1=0->g (lO) (mN b f d e a c))/\(mO b f d e a c g))/\(¬h<a->Int.NonNeg (6-0)/\True/\(cf (a' .u8 a (63)))/\True/\g (.slice none 0 0) (af 131 [(0,⟨[.agg [.ac b,.ac a,.ac d,.ac e,.V 2]],5,true,false,0,0,0,c⟩),(1,(cx a)),(5,aa.an (List.replicate 0 (.ac 0)) 1 true),(14,(jp b a c)),(15,n')])))) :
 bl 107 [.ptr (some ⟨0,0,0,0,5⟩),.slice (b5 1) 1 1] (T.of [fN b f d e 1 c,fg a]) g :=
 bm ci (.aG (.rounds 300)<|he 8003<|he 1001<|ap 2001 (.tuple [.V 4,.ac i,.ac h])<|ab 7001<|ab 7004<|.aG (.rounds 300)<|he 13002<|.al 14002 (he 8003 ko)<|.al 14006 (he 8003 ko)<|ab 17001<|ab 17003<|ab 17004<|ab 17005 .nil) j
abbrev Al:J:=J.aB 14 1 2 1 1
abbrev Am:J:=J.aB 14 1 3 0 0
abbrev tc:J:=J.slice (b5 140) 1 1
abbrev pK:J:=J.aB 140 1 0 2 2
abbrev lP(b c a:Int)(d:bw):aa:=⟨[.ac b,.ac c,.ac a],1,false,false,1,0,2,some (5,0)⟩
abbrev An:aa:=(aa.an ([Al]) 1 true (some (34,1)))
abbrev td:aa:=(aa.an ([Am]) 1 true (some (34,1)))
abbrev Ao(b c e f a:Int)(d:bw):T:=(af 61 [(0,(fY b c e f d)),(1,(cx a)),(5,aa.an (List.replicate 0 (.ac 0)) 1 true),(14,(lP b c a d)),(15,(aa.an ([.aB 14 1 0 3 3]) 1 true (some (34,1))))])
abbrev te(d b e f a:Int)(c:bw):T:=(af 215 [(0,(k3 b e f a c)),(1,(cx a)),(5,aa.an (List.replicate 0 (.ac 0)) 1 true),(14,(lP d b a c)),(15,An),(139,aa.an [.av 65533] 1 true),(140,aa.an [.av 65533] 1 false (some (21,0)))])
abbrev Ap(c d e f a:Int)(b:bw):T:=(af 205 [(0,(fY c d e f b)),(1,(cx a)),(5,aa.an (List.replicate 0 (.ac 0)) 1 true),(14,(lP c d a b)),(15,td),(139,aa.an [.av 65533] 1 true),(140,(mL a b)),(193,aa.an [.av a] 1 true)])
abbrev q7(c d e f b:Int)(a:bw):T:=(af 201 [(0,(fY c d e f a)),(1,(cx b)),(5,aa.an (List.replicate 0 (.ac 0)) 1 true),(14,(lP c d b a)),(15,td),(139,aa.an [.av 65533] 1 true),(140,(mM a)),(189,aa.an [.av 65533] 1 true)])
abbrev Aq(c d e f a:Int)(g:bw)(b:aU):Prop:=(¬(cE a).1=2->((cE a).1=3->(cf a)/\True/\b (tc) (te c d e f a g))/\(¬(cE a).1=3->(cf a)/\True/\b (tc) (te c d e f a g)))
abbrev q8(c d e f a:Int)(g:bw)(b:aU):Prop:=(¬(cE a).1=0->((cE a).1=1->(cf a)/\b (pK) (Ap c d e f a g))/\(¬(cE a).1=1->((cE a).1=2->(cf a)/\True/\b (tc) (te c d e f a g))/\(Aq c d e f a g b)))
def OJ(c b e f a i h:Int)(d:bw)(g:aU)(j:bk 99 [.ac c] (Ao c b e f a d) (.tuple [.V 3,.ac i,.ac h]) (Ao c b e f a d)/\(cf c)/\True/\(bz (decide (b<i)))/\(bz (decide (b>h)))/\Int.NonNeg (6-0)/\True/\(cf (a' .u8 b (63)))/\True/\(a<128->((cE a).1=0->g (pK) (q7 c b e f a d))/\(q8 c b e f a d g))/\(¬a<128->(191<a->((cE a).1=0->g (pK) (q7 c b e f a d))/\(q8 c b e f a d g))/\(¬191<a->Int.NonNeg (6-0)/\True/\(cf (a' .u8 a (63)))/\True/\g (.slice (b5 156) 1 1) (af 167 [(0,(fY c b e f d)),(1,(cx a)),(5,aa.an (List.replicate 0 (.ac 0)) 1 true),(14,(lP c b a d)),(15,td),(155,aa.an [.av (bP .i32 (eu .i32 (bP .i32 (eu .i32 (a' .i32 c (15)) (6)) (a' .u8 b (63))) (6)) (a' .u8 a (63)))] 1 true),(156,aa.an [.av (bP .i32 (eu .i32 (bP .i32 (eu .i32 (a' .i32 c (15)) (6)) (a' .u8 b (63))) (6)) (a' .u8 a (63)))] 1 false (some (21,0)))])))) :
 bl 107 [.ptr (some ⟨0,0,0,0,5⟩),.slice (b5 1) 1 1] (T.of [fN c b e f 2 d,fg a]) g :=
 bm ci (.aG (.rounds 300)<|he 8003<|he 1001<|ap 2001 (.tuple [.V 3,.ac i,.ac h])<|ab 7001<|ab 7004<|.aG (.rounds 300)<|he 13002<|ap 14002 .aJ<|ap 14006 .aJ<|ab 17001<|ab 17003<|ab 17004<|ab 17005<|he 13002<|.al 14002 (he 8003 ko)<|.al 14006 (he 8003 ko)<|ab 17001<|ab 17003<|ab 17004<|ab 17005 .nil) j
abbrev wI:aa:=(aa.an ([.aB 14 1 0 3 3]) 1 true (some (34,1)))
def OK(c b f e a i h:Int)(d:bw)(g:aU)(j:bk 99 [.ac c] (af 61 [(0,(fY c b f e d)),(1,(cx a)),(5,aa.an (List.replicate 0 (.ac 0)) 1 true),(14,(lP c b a d)),(15,wI)]) (.tuple [.V 4,.ac i,.ac h]) (af 61 [(0,(fY c b f e d)),(1,(cx a)),(5,aa.an (List.replicate 0 (.ac 0)) 1 true),(14,(lP c b a d)),(15,wI)])/\(cf c)/\True/\(bz (decide (b<i)))/\(bz (decide (b>h)))/\Int.NonNeg (6-0)/\True/\(cf (a' .u8 b (63)))/\True/\(a<128->((cE a).1=0->g (pK) (q7 c b f e a d))/\(q8 c b f e a d g))/\(¬a<128->(191<a->((cE a).1=0->g (pK) (q7 c b f e a d))/\(q8 c b f e a d g))/\(¬191<a->Int.NonNeg (6-0)/\True/\(cf (a' .u8 a (63)))/\True/\g (.slice none 0 0) (af 167 [(0,⟨[.agg [.ac c,.ac b,.ac a,.ac e,.V 3]],5,true,false,0,0,0,d⟩),(1,(cx a)),(5,aa.an (List.replicate 0 (.ac 0)) 1 true),(14,(lP c b a d)),(15,wI)])))) :
 bl 107 [.ptr (some ⟨0,0,0,0,5⟩),.slice (b5 1) 1 1] (T.of [fN c b f e 2 d,fg a]) g :=
 bm ci (.aG (.rounds 300)<|he 8003<|he 1001<|ap 2001 (.tuple [.V 4,.ac i,.ac h])<|ab 7001<|ab 7004<|.aG (.rounds 300)<|he 13002<|ap 14002 .aJ<|ap 14006 .aJ<|ab 17001<|ab 17003<|ab 17004<|ab 17005<|he 13002<|.al 14002 (he 8003 ko)<|.al 14006 (he 8003 ko)<|ab 17001<|ab 17003<|ab 17004<|ab 17005 .nil) j
abbrev FI:J:=J.aB 14 1 3 1 1
abbrev FJ:J:=J.aB 14 1 4 0 0
abbrev wJ:J:=J.slice (b5 176) 1 1
abbrev wK:J:=J.aB 176 1 0 2 2
abbrev q9(b c d a:Int)(e:bw):aa:=⟨[.ac b,.ac c,.ac d,.ac a],1,false,false,1,0,3,some (5,0)⟩
abbrev FK:aa:=(aa.an ([FI]) 1 true (some (34,1)))
abbrev wL:aa:=(aa.an ([FJ]) 1 true (some (34,1)))
abbrev Ar(b c d f a:Int)(e:bw):T:=(af 61 [(0,(fY b c d f e)),(1,(cx a)),(5,aa.an (List.replicate 0 (.ac 0)) 1 true),(14,(q9 b c d a e)),(15,(aa.an ([.aB 14 1 0 4 4]) 1 true (some (34,1))))])
abbrev wM(e b c f a:Int)(d:bw):T:=(af 251 [(0,(k3 b c f a d)),(1,(cx a)),(5,aa.an (List.replicate 0 (.ac 0)) 1 true),(14,(q9 e b c a d)),(15,FK),(175,aa.an [.av 65533] 1 true),(176,aa.an [.av 65533] 1 false (some (21,0)))])
abbrev FL(c d e f a:Int)(b:bw):T:=(af 241 [(0,(fY c d e f b)),(1,(cx a)),(5,aa.an (List.replicate 0 (.ac 0)) 1 true),(14,(q9 c d e a b)),(15,wL),(175,aa.an [.av 65533] 1 true),(176,(mL a b)),(229,aa.an [.av a] 1 true)])
abbrev As(c d e f b:Int)(a:bw):T:=(af 237 [(0,(fY c d e f a)),(1,(cx b)),(5,aa.an (List.replicate 0 (.ac 0)) 1 true),(14,(q9 c d e b a)),(15,wL),(175,aa.an [.av 65533] 1 true),(176,(mM a)),(225,aa.an [.av 65533] 1 true)])
abbrev FM(c d e f a:Int)(g:bw)(b:aU):Prop:=(¬(cE a).1=2->((cE a).1=3->(cf a)/\True/\b (wJ) (wM c d e f a g))/\(¬(cE a).1=3->(cf a)/\True/\b (wJ) (wM c d e f a g)))
abbrev At(c d e f a:Int)(g:bw)(b:aU):Prop:=(¬(cE a).1=0->((cE a).1=1->(cf a)/\b (wK) (FL c d e f a g))/\(¬(cE a).1=1->((cE a).1=2->(cf a)/\True/\b (wJ) (wM c d e f a g))/\(FM c d e f a g b)))
def OL(d b c f a i h:Int)(e:bw)(g:aU)(j:bk 99 [.ac d] (Ar d b c f a e) (.tuple [.V 4,.ac i,.ac h]) (Ar d b c f a e)/\(cf d)/\True/\(bz (decide (b<i)))/\(bz (decide (b>h)))/\Int.NonNeg (6-0)/\True/\(cf (a' .u8 b (63)))/\True/\(bz (decide (c<128)))/\(bz (decide (c>191)))/\Int.NonNeg (6-0)/\True/\(cf (a' .u8 c (63)))/\True/\(a<128->((cE a).1=0->g (wK) (As d b c f a e))/\(At d b c f a e g))/\(¬a<128->(191<a->((cE a).1=0->g (wK) (As d b c f a e))/\(At d b c f a e g))/\(¬191<a->Int.NonNeg (6-0)/\True/\(cf (a' .u8 a (63)))/\True/\g (.slice (b5 192) 1 1) (af 203 [(0,(fY d b c f e)),(1,(cx a)),(5,aa.an (List.replicate 0 (.ac 0)) 1 true),(14,(q9 d b c a e)),(15,wL),(191,aa.an [.av (bP .i32 (eu .i32 (bP .i32 (eu .i32 (bP .i32 (eu .i32 (a' .i32 d (7)) (6)) (a' .u8 b (63))) (6)) (a' .u8 c (63))) (6)) (a' .u8 a (63)))] 1 true),(192,aa.an [.av (bP .i32 (eu .i32 (bP .i32 (eu .i32 (bP .i32 (eu .i32 (a' .i32 d (7)) (6)) (a' .u8 b (63))) (6)) (a' .u8 c (63))) (6)) (a' .u8 a (63)))] 1 false (some (21,0)))])))) :
 bl 107 [.ptr (some ⟨0,0,0,0,5⟩),.slice (b5 1) 1 1] (T.of [fN d b c f 3 e,fg a]) g :=
 bm ci (.aG (.rounds 300)<|he 8003<|he 1001<|ap 2001 (.tuple [.V 4,.ac i,.ac h])<|ab 7001<|ab 7004<|.aG (.rounds 300)<|he 13002<|ap 14002 .aJ<|ap 14006 .aJ<|ab 17001<|ab 17003<|ab 17004<|ab 17005<|he 13002<|ap 14002 .aJ<|ap 14006 .aJ<|ab 17001<|ab 17003<|ab 17004<|ab 17005<|he 13002<|.al 14002 (he 8003 ko)<|.al 14006 (he 8003 ko)<|ab 17001<|ab 17003<|ab 17004<|ab 17005 .nil) j
end Go.Proofs.zz
namespace Go.br
def OM:∀n:Fin 256,a' .i32 (n.val:Int) 31=(n.val%32:Nat):=by decide+kernel
def ON:∀n:Fin 256,a' .i32 (n.val:Int) 15=(n.val%16:Nat):=by decide+kernel
def OO:∀n:Fin 256,a' .i32 (n.val:Int) 7=(n.val%8:Nat):=by decide+kernel
def OP:∀n:Fin 256,a' .u8 (n.val:Int) 63=(n.val%64:Nat):=by decide+kernel
def FN(b:UInt8):a' .i32 (b.toNat:Int) 31=(b.toNat%32:Nat):=OM ⟨b.toNat,b.toNat_lt⟩
def FO(b:UInt8):a' .i32 (b.toNat:Int) 15=(b.toNat%16:Nat):=ON ⟨b.toNat,b.toNat_lt⟩
def FP(b:UInt8):a' .i32 (b.toNat:Int) 7=(b.toNat%8:Nat):=OO ⟨b.toNat,b.toNat_lt⟩
def jP(b:UInt8):a' .u8 (b.toNat:Int) 63=(b.toNat%64:Nat):=OP ⟨b.toNat,b.toNat_lt⟩
def kp(a:Nat)(h:a<33554432):eu .i32 (a:Int) 6=(a*64:Nat):=by unfold eu;rw [show min (Int.toNat 6) (IntKind.bits .i32)=6 by decide];rw [show((a:Int)*2^6)=(a*64:Nat)by push_cast;rfl];exact mG (k:= .i32) (by simp only [dP];omega)
def kq(a x:Nat)(h:a<16777216)(b:x<64):bP .i32 ((a*64:Nat):Int) (x:Int)=(a*64+x:Nat):=by
 unfold bP
 have e:(BitVec.ofInt (IntKind.bits .i32) ((a*64:Nat):Int) ||| BitVec.ofInt (IntKind.bits .i32) (x:Int)).toNat=a*64+x:=by rw [show IntKind.bits .i32=32 by rfl,BitVec.ofInt_natCast,BitVec.ofInt_natCast,BitVec.toNat_or,BitVec.toNat_ofNat,BitVec.toNat_ofNat,so A,so A];rw [show a*64=2^6*a by omega,<-Nat.two_pow_add_eq_or_of_lt A a]
 rw [e];exact mG (k:= .i32) (by simp only [dP];omega)
end Go.br
namespace Go.Proofs.zz
open Go.br Go.Keys
def OQ(x:Nat×Nat×Nat):Int×Int×Int:=((x.1:Int),(x.2.1:Int),(x.2.2:Int))
def OR(n:Nat):cE (n:Int)=OQ (lead n):=by
 have aq:((n:Int)<128)=(n<128):=propext A;have a2:(194<=(n:Int)/\(n:Int)<=223)=(194<=n/\n<=223):=propext A;have a3:((n:Int)=224)=(n=224):=propext A;have a4:((n:Int)=237)=(n=237):=propext A;have a5:(225<=(n:Int)/\(n:Int)<=239)=(225<=n/\n<=239):=propext A;have d:((n:Int)=240)=(n=240):=propext A;have e:(241<=(n:Int)/\(n:Int)<=243)=(241<=n/\n<=243):=propext A;have f:((n:Int)=244)=(n=244):=propext A;unfold cE lead;simp only [aq,a2,a3,a4,a5,d,e,f];by_cases cL:n<128
 .simp only [az cL];rfl
 by_cases c2:194<=n/\n<=223
 .simp only [ai cL,az c2];rfl
 by_cases c3:n=224
 .simp only [ai cL,ai c2,az c3];rfl
 by_cases c4:n=237
 .simp only [ai cL,ai c2,ai c3,az c4];rfl
 by_cases c5:225<=n/\n<=239
 .simp only [ai cL,ai c2,ai c3,ai c4,az c5];rfl
 by_cases a:n=240
 .simp only [ai cL,ai c2,ai c3,ai c4,ai c5,az a];rfl
 by_cases b:241<=n/\n<=243
 .simp only [ai cL,ai c2,ai c3,ai c4,ai c5,ai a,az b];rfl
 by_cases c:n=244
 .simp only [ai cL,ai c2,ai c3,ai c4,ai c5,ai a,ai b,az c];rfl
 .simp only [ai cL,ai c2,ai c3,ai c4,ai c5,ai a,ai b,ai c];rfl
def oa(n:Nat):cE (n:Int)=(((lead n).1:Int),((lead n).2.1:Int),((lead n).2.2:Int)):=OR n
def pL(b:UInt8):(cE (b.toNat:Int)).1=(lead b.toNat).1:=by rw [oa]
def gR(n:Nat):(lead n).1=0\/(lead n).1=1\/(lead n).1=2\/(lead n).1=3\/(lead n).1=4:=by
 unfold lead
 repeat' split
 all_goals simp
def bS(h:Bytes)(i:Nat)(k:Int):Int:=match h[i]? with|some b=>b.toNat|none=>k
abbrev bT(h:Bytes)(a b c d:Int)(ty:bw):aa:=fN (bS h 0 a) (bS h 1 b) (bS h 2 c) (bS h 3 d) h.length ty
abbrev tf(r:Nat):aa:=aa.an [.int .i32 r] 1 false (some (21,0))
abbrev tg(r s:Nat):aa:= {bg:=[.int .i32 r,.int .i32 s],es:=1,exact:=false,ro:=false,ad:=1,eH:=0,fo:=1,ty:=some (21,0)}
def kr(a b d e c:Int)(ty:bw)(q:List Nat×Bytes)(v:J)(h:T):Prop :=
 h.get 0=some (bT q.2 a b d e ty)/\h.get 1=some (fg c) /\
 match q.1 with
 |[]=>v=.slice none 0 0
 |[r]=> ∃j,2<=j/\v=.slice (some ⟨j,0,0,0,1⟩) 1 1/\h.get j=some (tf r)
 |[r,s]=> ∃j,2<=j/\v=.slice (some ⟨j,1,0,0,1⟩) 2 2/\h.get j=some (tg r s)
 |_=>False
variable {ty:bw}
def q'{a b d f c:Int}{q:List Nat×Bytes}{ag:Bytes}(e:q=([],ag)){h:T}(aM:h.get 0=some (bT ag a b d f ty))(Y:h.get 1=some (fg c)):kr a b d f c ty q (.slice none 0 0) h:=by subst e;exact⟨aM,Y,rfl⟩
variable {j r:Nat}
def dZ{a b d f c:Int}{q:List Nat×Bytes}{ag:Bytes}(e:q=([r],ag)){h:T}(g:2<=j)(aM:h.get 0=some (bT ag a b d f ty))(Y:h.get 1=some (fg c))(i:h.get j=some (tf r)) :
 kr a b d f c ty q (.aB j 0 0 1 1) h:=by
 subst e;exact⟨aM,Y,j,g,rfl,i⟩
def fZ{a b d f c:Int}{q:List Nat×Bytes}{s:Nat}{ag:Bytes}(e:q=([r,s],ag)){h:T}(g:2<=j)(aM:h.get 0=some (bT ag a b d f ty))(Y:h.get 1=some (fg c))(i:h.get j=some (tg r s)) :
 kr a b d f c ty q (.aB j 1 0 2 2) h:=by
 subst e;exact⟨aM,Y,j,g,rfl,i⟩
def cM(b:UInt8): -2147483648<=(b.toNat:Int)/\(b.toNat:Int)<=2147483647:=by have:=b.toNat_lt;omega
def g'(b:UInt8): -2147483648<=a' .u8 (b.toNat:Int) 63/\a' .u8 (b.toNat:Int) 63<=2147483647:=by rw [jP];omega
def jq(c:UInt8)(h:(lead c.toNat).1=0):bM [] c=([65533],[]):=by simp [bM,fr,first,h]
def jr(c:UInt8)(h:(lead c.toNat).1=1):bM [] c=([c.toNat],[]):=by simp [bM,fr,first,h]
def h3(b:UInt8)(r:Bytes)(n:Nat)(h:(lead b.toNat).1=n+2):first (b::r)=tail (n+1) 1 (lead b.toNat).2.1 (lead b.toNat).2.2 (b.toNat%2^(7- (n+2))) r:=by simp only [first,h];rw [ai A,ai A];rfl
def dT(c:UInt8)(n:Nat)(h:(lead c.toNat).1=n+2):bM [] c=([],[c]):=by simp [bM,fr,h3 c [] n h,tail]
def OS(c:UInt8)(a b d f:Int)(ty:bw) :
 ∃v Y,be 107 [.ptr (some ⟨0,0,0,0,5⟩),.aB 1 0 0 1 1] (T.of [fN a b d f 0 ty,fg c.toNat]) v Y/\kr a b d f c.toNat ty (bM [] c) v Y:=by
 refine OF a b d f c.toNat 0 0 ty _ ?_
 delta wC FH cx k3 n9 Aj
 rw [pL]
 refine⟨λe=>dZ (jq c A) aC rfl rfl rfl,λg=>⟨λe=>⟨cM c,dZ (jr c A) aC rfl rfl rfl⟩,λh=>⟨λe=>⟨cM c,trivial,q' (dT c 0 A) rfl rfl⟩,
  λn2=>⟨λe=>⟨cM c,trivial,q' (dT c 1 A) rfl rfl⟩,λi=>⟨cM c,trivial,q' (dT c 2 (by have:=gR c.toNat;omega)) rfl rfl⟩⟩⟩⟩⟩
def f':Int.NonNeg (6-0):=(show(0:Int)<=6 by decide)
def ra(k:Nat):fr k []=([],[]):=by cases k<;>rfl
def OT(k:Nat)(c:UInt8):fr (k+1) [c]=fr 1 [c]:=by
 have a:∀n,1<=n->List.drop n [c]=[]:=λn aw=>by rw [vd];simpa using aw
 have aw:(first [c]).2.2=false->1<=(first [c]).2.1:=by
  intro h;by_cases aM:(lead c.toNat).1=0
  .simp [first,aM]
  .by_cases Y:(lead c.toNat).1=1
   .simp [first,Y]
   .rw [h3 c [] ((lead c.toNat).1-2) A]at h;simp [tail]at h
 simp only [fr];cases h:(first [c]).2.2 with
 |true=>simp
 |false=>simp only [ey,ez];rw [a _ (aw h),ra]
def rb(b:UInt8)(r:Bytes)(c:UInt8)(v:Nat)(a:first (b::r++[c])=(v,(b::r).length,false)):bM (b::r) c=(v::(bM [] c).1,(bM [] c).2):=by
 unfold bM;simp only [hB,bK,fr];have d:first (b::(r++[c]))=(v,r.length+1,false):=a
 simp only [d,ey,ez,List.drop_succ_cons];rw [List.drop_left,OT];rfl
def Au(b:UInt8)(r:Bytes)(c:UInt8)(v:Nat)(a:first (b::r++[c])=(v,(b::r).length+1,false)):bM (b::r) c=([v],[]):=by
 unfold bM;simp only [hB,bK,fr];have d:first (b::(r++[c]))=(v,r.length+1+1,false):=a
 simp only [d,ey,ez,List.drop_succ_cons];rw [List.drop_eq_nil_of_le au,ra]
def th(b:UInt8)(r:Bytes)(c:UInt8)(a:(first (b::r++[c])).2.2=true):bM (b::r) c=([],b::r++[c]):=by unfold bM;simp only [hB,bK,fr];have d:(first (b::(r++[c]))).2.2=true:=a;rw [az d]
def OU(ar c:UInt8)(b d f:Int)(ty:bw)(h:(lead ar.toNat).1=2) :
 ∃v Y,be 107 [.ptr (some ⟨0,0,0,0,5⟩),.aB 1 0 0 1 1] (T.of [fN ar.toNat b d f 1 ty,fg c.toNat]) v Y/\kr ar.toNat b d f c.toNat ty (bM (ar:: []) c) v Y:=by
 have g:∀r,first (ar::r)=tail 1 1 (lead ar.toNat).2.1 (lead ar.toNat).2.2 (ar.toNat%2^(7-2)) r:=λr=>h3 ar r 0 h
 have a:(c.toNat<(lead ar.toNat).2.1\/(lead ar.toNat).2.2<c.toNat)->bM (ar:: []) c=(65533::(bM [] c).1,(bM [] c).2):=λaj=>rb _ _ _ _ (by rw [show(ar:: [])++[c]=ar:: [c]by rfl,g];simp only [tail];rw [az aj];rfl)
 have i:¬(c.toNat<(lead ar.toNat).2.1\/(lead ar.toNat).2.2<c.toNat)->bM (ar:: []) c=([(ar.toNat%32)*64+c.toNat%64],[]):=λaj=>Au _ _ _ _ (by rw [show(ar:: [])++[c]=ar:: [c]by rfl,g];simp only [tail];rw [ai aj];rfl)
 have j:bP .i32 (eu .i32 (a' .i32 (ar.toNat:Int) 31) 6) (a' .u8 (c.toNat:Int) 63)=(((ar.toNat%32)*64+c.toNat%64:Nat):Int):=by rw [FN,jP c,kp _ A,kq _ _ A A]
 refine OG ar.toNat b d f c.toNat (lead ar.toNat).2.1 (lead ar.toNat).2.2 ty _ ?_
 delta q5 wE jp cx fY pJ mO wH q6 wF wD k3 n9 q4 wG mL lO mN mM Ak
 rw [pL];refine⟨⟨by have k:=λH=>n8 ar.toNat H;simp only [k2,oa,h]at k;exact k _⟩,cM ar,trivial,λq=> ?_,λo=>⟨λp=> ?_,λhle=>⟨f',trivial,g' c,trivial,dZ (i A) aC rfl rfl (dm (λx=>some (aa.an [.av x] 1 false (some (21,0)))) j)⟩⟩⟩
 .exact⟨λe=>fZ (by rw [a A,jq c A]) aC rfl rfl rfl,λl=>⟨λe=>⟨cM c,fZ (by rw [a A,jr c A]) aC rfl rfl rfl⟩,λm=>⟨λe=>⟨cM c,trivial,dZ (by rw [a A,dT c 0 A]) aC rfl rfl rfl⟩,
   λn2=>⟨λe=>⟨cM c,trivial,dZ (by rw [a A,dT c 1 A]) aC rfl rfl rfl⟩,λn=>⟨cM c,trivial,dZ (by rw [a A,dT c 2 (by have:=gR c.toNat;omega)]) aC rfl rfl rfl⟩⟩⟩⟩⟩
 .exact⟨λe=>fZ (by rw [a A,jq c A]) aC rfl rfl rfl,λl=>⟨λe=>⟨cM c,fZ (by rw [a A,jr c A]) aC rfl rfl rfl⟩,λm=>⟨λe=>⟨cM c,trivial,dZ (by rw [a A,dT c 0 A]) aC rfl rfl rfl⟩,
   λn2=>⟨λe=>⟨cM c,trivial,dZ (by rw [a A,dT c 1 A]) aC rfl rfl rfl⟩,λn=>⟨cM c,trivial,dZ (by rw [a A,dT c 2 (by have:=gR c.toNat;omega)]) aC rfl rfl rfl⟩⟩⟩⟩⟩
def OV(ar c:UInt8)(b d f:Int)(ty:bw)(h:(lead ar.toNat).1=3) :
 ∃v Y,be 107 [.ptr (some ⟨0,0,0,0,5⟩),.aB 1 0 0 1 1] (T.of [fN ar.toNat b d f 1 ty,fg c.toNat]) v Y/\kr ar.toNat b d f c.toNat ty (bM (ar:: []) c) v Y:=by
 have g:∀r,first (ar::r)=tail 2 1 (lead ar.toNat).2.1 (lead ar.toNat).2.2 (ar.toNat%2^(7-3)) r:=λr=>h3 ar r 1 h
 have a:(c.toNat<(lead ar.toNat).2.1\/(lead ar.toNat).2.2<c.toNat)->bM (ar:: []) c=(65533::(bM [] c).1,(bM [] c).2):=λaj=>rb _ _ _ _ (by rw [show(ar:: [])++[c]=ar:: [c]by rfl,g];simp only [tail];rw [az aj];rfl)
 have i:¬(c.toNat<(lead ar.toNat).2.1\/(lead ar.toNat).2.2<c.toNat)->bM (ar:: []) c=([],ar:: []++[c]):=λaj=>th _ _ _ (by rw [show(ar:: [])++[c]=ar:: [c]by rfl,g];simp only [tail];rw [ai aj])
 refine OH ar.toNat b d f c.toNat (lead ar.toNat).2.1 (lead ar.toNat).2.2 ty _ ?_
 delta n' jp cx mO wH q6 wF wD k3 n9 q4 wG mL q5 wE fY pJ lO mN mM
 rw [pL];refine⟨⟨by have k:=λH=>n8 ar.toNat H;simp only [k2,oa,h]at k;exact k _⟩,cM ar,trivial,λp=> ?_,λn=>⟨λo=> ?_,λhle=>⟨f',trivial,g' c,trivial,q' (i A) rfl rfl⟩⟩⟩
 .exact⟨λe=>fZ (by rw [a A,jq c A]) aC rfl rfl rfl,λj=>⟨λe=>⟨cM c,fZ (by rw [a A,jr c A]) aC rfl rfl rfl⟩,λl=>⟨λe=>⟨cM c,trivial,dZ (by rw [a A,dT c 0 A]) aC rfl rfl rfl⟩,
   λn2=>⟨λe=>⟨cM c,trivial,dZ (by rw [a A,dT c 1 A]) aC rfl rfl rfl⟩,λm=>⟨cM c,trivial,dZ (by rw [a A,dT c 2 (by have:=gR c.toNat;omega)]) aC rfl rfl rfl⟩⟩⟩⟩⟩
 .exact⟨λe=>fZ (by rw [a A,jq c A]) aC rfl rfl rfl,λj=>⟨λe=>⟨cM c,fZ (by rw [a A,jr c A]) aC rfl rfl rfl⟩,λl=>⟨λe=>⟨cM c,trivial,dZ (by rw [a A,dT c 0 A]) aC rfl rfl rfl⟩,
   λn2=>⟨λe=>⟨cM c,trivial,dZ (by rw [a A,dT c 1 A]) aC rfl rfl rfl⟩,λm=>⟨cM c,trivial,dZ (by rw [a A,dT c 2 (by have:=gR c.toNat;omega)]) aC rfl rfl rfl⟩⟩⟩⟩⟩
def OW(ar c:UInt8)(b d f:Int)(ty:bw)(h:(lead ar.toNat).1=4) :
 ∃v Y,be 107 [.ptr (some ⟨0,0,0,0,5⟩),.aB 1 0 0 1 1] (T.of [fN ar.toNat b d f 1 ty,fg c.toNat]) v Y/\kr ar.toNat b d f c.toNat ty (bM (ar:: []) c) v Y:=by
 have g:∀r,first (ar::r)=tail 3 1 (lead ar.toNat).2.1 (lead ar.toNat).2.2 (ar.toNat%2^(7-4)) r:=λr=>h3 ar r 2 h
 have a:(c.toNat<(lead ar.toNat).2.1\/(lead ar.toNat).2.2<c.toNat)->bM (ar:: []) c=(65533::(bM [] c).1,(bM [] c).2):=λaj=>rb _ _ _ _ (by rw [show(ar:: [])++[c]=ar:: [c]by rfl,g];simp only [tail];rw [az aj];rfl)
 have i:¬(c.toNat<(lead ar.toNat).2.1\/(lead ar.toNat).2.2<c.toNat)->bM (ar:: []) c=([],ar:: []++[c]):=λaj=>th _ _ _ (by rw [show(ar:: [])++[c]=ar:: [c]by rfl,g];simp only [tail];rw [ai aj])
 refine OI ar.toNat b d f c.toNat (lead ar.toNat).2.1 (lead ar.toNat).2.2 ty _ ?_
 delta n' jp cx mO wH q6 wF wD k3 n9 q4 wG mL q5 wE fY pJ lO mN mM
 rw [pL];refine⟨⟨by have k:=λH=>n8 ar.toNat H;simp only [k2,oa,h]at k;exact k _⟩,cM ar,trivial,λp=> ?_,λn=>⟨λo=> ?_,λhle=>⟨f',trivial,g' c,trivial,q' (i A) rfl rfl⟩⟩⟩
 .exact⟨λe=>fZ (by rw [a A,jq c A]) aC rfl rfl rfl,λj=>⟨λe=>⟨cM c,fZ (by rw [a A,jr c A]) aC rfl rfl rfl⟩,λl=>⟨λe=>⟨cM c,trivial,dZ (by rw [a A,dT c 0 A]) aC rfl rfl rfl⟩,
   λn2=>⟨λe=>⟨cM c,trivial,dZ (by rw [a A,dT c 1 A]) aC rfl rfl rfl⟩,λm=>⟨cM c,trivial,dZ (by rw [a A,dT c 2 (by have:=gR c.toNat;omega)]) aC rfl rfl rfl⟩⟩⟩⟩⟩
 .exact⟨λe=>fZ (by rw [a A,jq c A]) aC rfl rfl rfl,λj=>⟨λe=>⟨cM c,fZ (by rw [a A,jr c A]) aC rfl rfl rfl⟩,λl=>⟨λe=>⟨cM c,trivial,dZ (by rw [a A,dT c 0 A]) aC rfl rfl rfl⟩,
   λn2=>⟨λe=>⟨cM c,trivial,dZ (by rw [a A,dT c 1 A]) aC rfl rfl rfl⟩,λm=>⟨cM c,trivial,dZ (by rw [a A,dT c 2 (by have:=gR c.toNat;omega)]) aC rfl rfl rfl⟩⟩⟩⟩⟩
def OX(ar aN c:UInt8)(b d:Int)(ty:bw)(g:(lead ar.toNat).1=3)(Y:¬(aN.toNat<(lead ar.toNat).2.1\/(lead ar.toNat).2.2<aN.toNat)) :
 ∃v Y,be 107 [.ptr (some ⟨0,0,0,0,5⟩),.aB 1 0 0 1 1] (T.of [fN ar.toNat aN.toNat b d 2 ty,fg c.toNat]) v Y/\kr ar.toNat aN.toNat b d c.toNat ty (bM (ar:: [aN]) c) v Y:=by
 have f:∀r,first (ar::r)=tail 2 1 (lead ar.toNat).2.1 (lead ar.toNat).2.2 (ar.toNat%2^(7-3)) r:=λr=>h3 ar r 1 g
 have a:(c.toNat<128\/191<c.toNat)->bM (ar:: [aN]) c=(65533::(bM [] c).1,(bM [] c).2):=λaj=>rb _ _ _ _ (by rw [show(ar:: [aN])++[c]=ar:: [aN,c]by rfl,f];simp only [tail];rw [ai Y,az aj];rfl)
 have h:¬(c.toNat<128\/191<c.toNat)->bM (ar:: [aN]) c=([((ar.toNat%16)*64+aN.toNat%64)*64+c.toNat%64],[]):=λaj=>Au _ _ _ _ (by rw [show(ar:: [aN])++[c]=ar:: [aN,c]by rfl,f];simp only [tail];rw [ai Y,ai aj];rfl)
 have i:bP .i32 (eu .i32 (bP .i32 (eu .i32 (a' .i32 (ar.toNat:Int) 15) 6) (a' .u8 (aN.toNat:Int) 63)) 6) (a' .u8 (c.toNat:Int) 63)=((((ar.toNat%16)*64+aN.toNat%64)*64+c.toNat%64:Nat):Int):=by rw [FO,jP aN,jP c,kp _ A,kq _ _ A A,kp _ A,kq _ _ A A]
 refine OJ ar.toNat aN.toNat b d c.toNat (lead ar.toNat).2.1 (lead ar.toNat).2.2 ty _ ?_
 delta td Am lP cx fY pJ q8 Aq te An Al k3 n9 tc Ap mL pK q7 mM Ao
 rw [pL];refine⟨⟨by have k:=λH=>n8 ar.toNat H;simp only [k2,oa,g]at k;exact k _⟩,cM ar,trivial,okF A,okF A,f',trivial,g' aN,trivial,λp=> ?_,λn=>⟨λo=> ?_,λhle=>⟨f',trivial,g' c,trivial,dZ (h A) aC rfl rfl (dm (λx=>some (aa.an [.av x] 1 false (some (21,0)))) i)⟩⟩⟩
 .exact⟨λe=>fZ (by rw [a A,jq c A]) aC rfl rfl rfl,λj=>⟨λe=>⟨cM c,fZ (by rw [a A,jr c A]) aC rfl rfl rfl⟩,λl=>⟨λe=>⟨cM c,trivial,dZ (by rw [a A,dT c 0 A]) aC rfl rfl rfl⟩,
   λn2=>⟨λe=>⟨cM c,trivial,dZ (by rw [a A,dT c 1 A]) aC rfl rfl rfl⟩,λm=>⟨cM c,trivial,dZ (by rw [a A,dT c 2 (by have:=gR c.toNat;omega)]) aC rfl rfl rfl⟩⟩⟩⟩⟩
 .exact⟨λe=>fZ (by rw [a A,jq c A]) aC rfl rfl rfl,λj=>⟨λe=>⟨cM c,fZ (by rw [a A,jr c A]) aC rfl rfl rfl⟩,λl=>⟨λe=>⟨cM c,trivial,dZ (by rw [a A,dT c 0 A]) aC rfl rfl rfl⟩,
   λn2=>⟨λe=>⟨cM c,trivial,dZ (by rw [a A,dT c 1 A]) aC rfl rfl rfl⟩,λm=>⟨cM c,trivial,dZ (by rw [a A,dT c 2 (by have:=gR c.toNat;omega)]) aC rfl rfl rfl⟩⟩⟩⟩⟩
def OY(ar aN c:UInt8)(b d:Int)(ty:bw)(g:(lead ar.toNat).1=4)(Y:¬(aN.toNat<(lead ar.toNat).2.1\/(lead ar.toNat).2.2<aN.toNat)) :
 ∃v Y,be 107 [.ptr (some ⟨0,0,0,0,5⟩),.aB 1 0 0 1 1] (T.of [fN ar.toNat aN.toNat b d 2 ty,fg c.toNat]) v Y/\kr ar.toNat aN.toNat b d c.toNat ty (bM (ar:: [aN]) c) v Y:=by
 have f:∀r,first (ar::r)=tail 3 1 (lead ar.toNat).2.1 (lead ar.toNat).2.2 (ar.toNat%2^(7-4)) r:=λr=>h3 ar r 2 g
 have a:(c.toNat<128\/191<c.toNat)->bM (ar:: [aN]) c=(65533::(bM [] c).1,(bM [] c).2):=λaj=>rb _ _ _ _ (by rw [show(ar:: [aN])++[c]=ar:: [aN,c]by rfl,f];simp only [tail];rw [ai Y,az aj];rfl)
 have h:¬(c.toNat<128\/191<c.toNat)->bM (ar:: [aN]) c=([],ar:: [aN]++[c]):=λaj=>th _ _ _ (by rw [show(ar:: [aN])++[c]=ar:: [aN,c]by rfl,f];simp only [tail];rw [ai Y,ai aj])
 refine OK ar.toNat aN.toNat b d c.toNat (lead ar.toNat).2.1 (lead ar.toNat).2.2 ty _ ?_
 delta wI lP cx q8 Aq te An Al k3 n9 tc Ap mL td Am fY pJ pK q7 mM
 rw [pL];refine⟨⟨by have k:=λH=>n8 ar.toNat H;simp only [k2,oa,g]at k;exact k _⟩,cM ar,trivial,okF A,okF A,f',trivial,g' aN,trivial,λo=> ?_,λm=>⟨λn=> ?_,λhle=>⟨f',trivial,g' c,trivial,q' (h A) rfl rfl⟩⟩⟩
 .exact⟨λe=>fZ (by rw [a A,jq c A]) aC rfl rfl rfl,λi=>⟨λe=>⟨cM c,fZ (by rw [a A,jr c A]) aC rfl rfl rfl⟩,λj=>⟨λe=>⟨cM c,trivial,dZ (by rw [a A,dT c 0 A]) aC rfl rfl rfl⟩,
   λn2=>⟨λe=>⟨cM c,trivial,dZ (by rw [a A,dT c 1 A]) aC rfl rfl rfl⟩,λl=>⟨cM c,trivial,dZ (by rw [a A,dT c 2 (by have:=gR c.toNat;omega)]) aC rfl rfl rfl⟩⟩⟩⟩⟩
 .exact⟨λe=>fZ (by rw [a A,jq c A]) aC rfl rfl rfl,λi=>⟨λe=>⟨cM c,fZ (by rw [a A,jr c A]) aC rfl rfl rfl⟩,λj=>⟨λe=>⟨cM c,trivial,dZ (by rw [a A,dT c 0 A]) aC rfl rfl rfl⟩,
   λn2=>⟨λe=>⟨cM c,trivial,dZ (by rw [a A,dT c 1 A]) aC rfl rfl rfl⟩,λl=>⟨cM c,trivial,dZ (by rw [a A,dT c 2 (by have:=gR c.toNat;omega)]) aC rfl rfl rfl⟩⟩⟩⟩⟩
def OZ(ar aN bx c:UInt8)(b:Int)(ty:bw)(f:(lead ar.toNat).1=4)(Y:¬(aN.toNat<(lead ar.toNat).2.1\/(lead ar.toNat).2.2<aN.toNat))(ag:¬(bx.toNat<128\/191<bx.toNat)) :
 ∃v Y,be 107 [.ptr (some ⟨0,0,0,0,5⟩),.aB 1 0 0 1 1] (T.of [fN ar.toNat aN.toNat bx.toNat b 3 ty,fg c.toNat]) v Y/\kr ar.toNat aN.toNat bx.toNat b c.toNat ty (bM (ar:: [aN,bx]) c) v Y:=by
 have d:∀r,first (ar::r)=tail 3 1 (lead ar.toNat).2.1 (lead ar.toNat).2.2 (ar.toNat%2^(7-4)) r:=λr=>h3 ar r 2 f
 have a:(c.toNat<128\/191<c.toNat)->bM (ar:: [aN,bx]) c=(65533::(bM [] c).1,(bM [] c).2):=λaj=>rb _ _ _ _ (by rw [show(ar:: [aN,bx])++[c]=ar:: [aN,bx,c]by rfl,d];simp only [tail];rw [ai Y,ai ag,az aj];rfl)
 have g:¬(c.toNat<128\/191<c.toNat)->bM (ar:: [aN,bx]) c=([(((ar.toNat%8)*64+aN.toNat%64)*64+bx.toNat%64)*64+c.toNat%64],[]):=λaj=>Au _ _ _ _ (by rw [show(ar:: [aN,bx])++[c]=ar:: [aN,bx,c]by rfl,d];simp only [tail];rw [ai Y,ai ag,ai aj];rfl)
 have h:bP .i32 (eu .i32 (bP .i32 (eu .i32 (bP .i32 (eu .i32 (a' .i32 (ar.toNat:Int) 7) 6) (a' .u8 (aN.toNat:Int) 63)) 6) (a' .u8 (bx.toNat:Int) 63)) 6) (a' .u8 (c.toNat:Int) 63)=(((((ar.toNat%8)*64+aN.toNat%64)*64+bx.toNat%64)*64+c.toNat%64:Nat):Int):=by rw [FP,jP aN,jP bx,jP c,kp _ A,kq _ _ A A,kp _ A,kq _ _ A A,kp _ A,kq _ _ A A]
 refine OL ar.toNat aN.toNat bx.toNat b c.toNat (lead ar.toNat).2.1 (lead ar.toNat).2.2 ty _ ?_
 delta wL FJ q9 cx fY pJ At FM wM FK FI k3 n9 wJ FL mL wK As mM Ar
 rw [pL];refine⟨⟨by have k:=λH=>n8 ar.toNat H;simp only [k2,oa,f]at k;exact k _⟩,cM ar,trivial,okF A,okF A,f',trivial,g' aN,trivial,okF A,okF A,f',trivial,g' bx,trivial,λo=> ?_,λm=>⟨λn=> ?_,λhle=>⟨f',trivial,g' c,trivial,dZ (g A) aC rfl rfl (dm (λx=>some (aa.an [.av x] 1 false (some (21,0)))) h)⟩⟩⟩
 .exact⟨λe=>fZ (by rw [a A,jq c A]) aC rfl rfl rfl,λi=>⟨λe=>⟨cM c,fZ (by rw [a A,jr c A]) aC rfl rfl rfl⟩,λj=>⟨λe=>⟨cM c,trivial,dZ (by rw [a A,dT c 0 A]) aC rfl rfl rfl⟩,
   λn2=>⟨λe=>⟨cM c,trivial,dZ (by rw [a A,dT c 1 A]) aC rfl rfl rfl⟩,λl=>⟨cM c,trivial,dZ (by rw [a A,dT c 2 (by have:=gR c.toNat;omega)]) aC rfl rfl rfl⟩⟩⟩⟩⟩
 .exact⟨λe=>fZ (by rw [a A,jq c A]) aC rfl rfl rfl,λi=>⟨λe=>⟨cM c,fZ (by rw [a A,jr c A]) aC rfl rfl rfl⟩,λj=>⟨λe=>⟨cM c,trivial,dZ (by rw [a A,dT c 0 A]) aC rfl rfl rfl⟩,
   λn2=>⟨λe=>⟨cM c,trivial,dZ (by rw [a A,dT c 1 A]) aC rfl rfl rfl⟩,λl=>⟨cM c,trivial,dZ (by rw [a A,dT c 2 (by have:=gR c.toNat;omega)]) aC rfl rfl rfl⟩⟩⟩⟩⟩
end Go.Proofs.zz
namespace Go.Keys
def Good(s:bI):Prop :=
 match s.nx with
 |.ground=>s.ak=[]/\s.ay=[]/\s.ax=[]
 |.cQ=>s.ak=[27]/\s.ay=[]/\s.ax=[]
 |.cp=>s.ax=[]/\s.ay=s.ak.drop (at' s.ak)/\0<s.ay.length/\s.ay.length<=3/\(first s.ay).2.2=true
 |.sequence=>s.ay=[]/\s.ax=[]/\2<=s.ak.length/\s.ak.length<64
 |.single=>s.ay=[]/\s.ax=[]/\s.ak=[27,79]
 |.cD=>s.ay=[]/\s.ak.length<6/\s.ak.isPrefixOf cm=true/\s.ax.length<=65536
def FQ:∀(k i aD ah v:Nat)(l:Bytes),(tail k i aD ah v l).2.2=true->l.length<k/\(tail k i aD ah v l).2.1=i+l.length
 |0,i,aD,ah,v,l,h=>by simp [tail]at h
 |k+1,i,aD,ah,v,[],h=>by simp [tail]
 |k +1,i,aD,ah,v,c::r,h=>by
  simp only [tail]at h⊢;split at h
  .simp at h
  .rename_i aj;rw [ai aj];have:=FQ k (i+1) 128 191 (v*64+c.toNat%64) r h;simp only [bK];omega
def FR:∀(k i aD ah v:Nat)(l:Bytes)(c:UInt8),(tail k i aD ah v l).2.2=true ->
 (tail k i aD ah v (l++[c])).2.2=true\/((tail k i aD ah v (l++[c])).2.2=false/\(tail k i aD ah v (l++[c])).2.1=i+l.length+1)\/(tail k i aD ah v (l++[c]))=(65533,i+l.length,false)
 |0,i,aD,ah,v,l,c,h=>by simp [tail]at h
 |k +1,i,aD,ah,v,[],c,h=>by
  simp only [eQ,tail,cq];split
  .exact .inr (.inr rfl)
  .cases k with
   |zero=>exact .inr (.inl ⟨rfl,rfl⟩)
   |succ k=>exact .inl rfl
 |k +1,i,aD,ah,v,b::r,c,h=>by
  simp only [tail,hB]at h⊢;split at h
  .simp at h
  .rename_i aj;rw [ai aj];have:=FR k (i+1) 128 191 (v*64+b.toNat%64) r c h;simp only [bK];have e:i+1+r.length=i+(r.length+1):= A
   rwa [e]at this
def pM{h:Bytes}(a:(first h).2.2=true):∃b r,h=b::r/\1<(lead b.toNat).1/\first h=tail ((lead b.toNat).1-1) 1 (lead b.toNat).2.1 (lead b.toNat).2.2 (b.toNat%2^(7- (lead b.toNat).1)) r:=by
 cases h with
 |nil=>simp [first]at a
 |cons b r =>
  refine⟨b,r,rfl,?_⟩;by_cases aM:(lead b.toNat).1=0
  .simp [first,aM]at a
  .by_cases Y:(lead b.toNat).1=1
   .simp [first,Y]at a
   .exact⟨A,by simp only [first,ai aM,ai Y]⟩
def FT{h:Bytes}(a:(first h).2.2=true):h.length<=3:=by obtain⟨b,r,rfl,c,e⟩:=pM a;rw [e]at a;have:=(FQ _ _ _ _ _ _ a).1;have:=FF b.toNat;simp only [bK];omega
def O0{h:Bytes}(a:(first h).2.2=true)(c:UInt8) :
 (first (h++[c])).2.2=true\/((first (h++[c])).2.2=false/\(first (h++[c])).2.1=h.length+1)\/first (h++[c])=(65533,h.length,false):=by
 obtain⟨b,r,rfl,f,e⟩:=pM a;rw [e]at a;have k:=FR _ _ _ _ _ _ c a
 have aZ:first (b::r++[c])=tail ((lead b.toNat).1-1) 1 (lead b.toNat).2.1 (lead b.toNat).2.2 (b.toNat%2^(7- (lead b.toNat).1)) (r++[c]):=by simp only [hB,first];rw [ai A,ai A]
 rw [aZ];have d:1+r.length=(b::r).length:=by simp only [bK];omega
 rw [d]at k;exact k
def O1(c:UInt8):((first [c]).2.2=true)\/((first [c]).2.2=false/\(first [c]).2.1=1):=by
 simp only [first];split
 .exact .inr ⟨rfl,rfl⟩
 .split
  .exact .inr ⟨rfl,rfl⟩
  .have h:(lead c.toNat).1-1≠0:= A;obtain⟨k,a⟩:=Nat.exists_eq_succ_of_ne_zero h;rw [a];exact .inl rfl
def ra(k:Nat):fr k []=([],[]):=by cases k<;>rfl
variable {c:UInt8}
def O2{h:Bytes} :(h++[c]).drop (h.length+1)=[]:=by rw [vd];simp
def O3{h:Bytes} :(h++[c]).drop h.length=[c]:=by rw [yO (Nat.le_refl _),nI];rfl
inductive O4(h:Bytes)(c:UInt8):Prop where
 |more (e:bM h c=([],h++[c])) (o:(first (h++[c])).2.2=true)
 |whole (r:Nat) (e:bM h c=([r],[]))
 |broken (l:List Nat) (t:Bytes) (e:bM h c=(65533::l,t)) (aM:h≠[]) (aZ:first (h++[c])=(65533,h.length,false))
def O5(h:Bytes)(c:UInt8)(d:h=[]\/(first h).2.2=true):O4 h c:=by
 have ex:∀x:Bytes,x≠[]-> ∀k,fr (k+1) x=if(first x).2.2 then([],x)else((first x).1::(fr k (x.drop (first x).2.1)).1,(fr k (x.drop (first x).2.1)).2):=by
  intro x g k;cases x with
  |nil=>exact absurd rfl g
  |cons b r=>rfl
 have f:h++[c]≠[]:= au;have a:bM h c=fr (h.length+1) (h++[c]):=rfl;rw [ex _ f]at a;rcases d with rfl|d
 .simp only [eQ]at a;rcases O1 c with o|⟨o,n⟩
  .rw [o,az rfl]at a;exact .more a o
  .rw [o,ai au,n]at a;exact .whole (first [c]).1 (by rw [a];simp [ra])
 .rcases O0 d c with o|⟨o,n⟩|e
  .rw [o,az rfl]at a;exact .more a o
  .rw [o,ai au,n,O2,ra]at a;exact .whole _ a
  .rw [e]at a;simp only [ai (show ¬(false=true)by simp)]at a;exact .broken _ _ a (by rintro rfl;simp [first]at d) e
def ti(r:Nat):1<=(put r).length:=by
 unfold put;simp only
 repeat' split
 all_goals simp
def Av:put 65533=[239,191,189]:= aC
def O6{k n:Nat}{b:UInt8}{r:Bytes}(e:first (b::r)=(65533,n,false)):gZ (k+1) (b::r)=65533::gZ k ((b::r).drop n):=by simp only [gZ,e]
def FU{h:Bytes}(a:(first h).2.2=true)(e:first (h++[c])=(65533,h.length,false)):valid (h++[c])=false:=by
 have d:=FT a;obtain⟨b,r,rfl,l,_⟩:=pM a
 have f:dv (b::r++[c])=65533::gZ (r++[c]).length [c]:=by
  have e':first (b::(r++[c]))=(65533,(b::r).length,false):=e
  show gZ ((r++[c]).length+1) (b::(r++[c]))=_;rw [O6 e']
  congr 1
  have:(b::(r++[c])).drop (b::r).length=[c]:=O3 (h:=b::r);rw [this]
 have g:∃x,gZ (r++[c]).length [c]=x::gZ ((r++[c]).length-1) ([c].drop (first [c]).2.1):=by have:(r++[c]).length=r.length+1:= au;rw [this];exact⟨_,rfl⟩
 obtain⟨x,i⟩:=g;unfold valid;rw [f,i];rw [mu];intro eq;simp only [eM,kP,Av]at eq;have j:=dm List.length eq;have p:=ti x;simp only [dt,bK,cq]at j;simp only [bK]at d;have k:r.length=2:= A
 match r,k with
 |[m,n],_ =>
  simp only [hB,eQ,fJ]at eq;obtain⟨rfl,rfl,rfl,_⟩:=eq;revert a
  decide
def O7{k:Bytes}(h:k≠[]\/c≠27):at' (k++[c])=at' k:=by
 cases k with
 |nil =>
  rcases h with h|h
  .exact absurd rfl h
  .simp [at',h]
 |cons b r=>rfl
def O8(k:Bytes):at' k<=k.length:=by
 cases k with
 |nil=>simp [at']
 |cons b r=>simp only [at',bK];split<;>omega
def O9(k:Bytes):at' k<=1:=by
 cases k with
 |nil=>simp [at']
 |cons b r=>simp only [at'];split<;>omega
def Aw{s:bI}{no:bI->bI×List aP}(ae:s.ax=[])(b:s.ay=s.ak.drop (at' s.ak))(a:s.ay=[]\/(first s.ay).2.2=true)(f:s.ak≠[]\/c≠27)(d:∀s1:bI,s1.ax=[]->s1.ay=[]->Good (no s1).1):Good (e5 s c no).1:=by
 have key:=O5 s.ay c a;unfold e5;simp only;cases key with
 |more e o =>
  rw [e];simp only [ne_eq,List.append_eq_nil_iff,List.cons_ne_self,and_false,lB,and_self,dG];refine⟨ae,?_,au,?_,o⟩
  .show s.ay++[c]=(s.ak++[c]).drop (at' (s.ak++[c]));rw [O7 f,b,yO (O8 _)]
  .exact FT o
 |whole r e =>
  rw [e];simp only [ne_eq,not_true_eq_false,false_and,ez];split
  .split<;>exact⟨rfl,rfl,ae⟩
  .exact d _ ae rfl
 |broken l t e aM aZ =>
  rw [e]
  have h:valid (s.ak.drop (at' s.ak)++[c])=false:=by
   rw [<-b];rcases a with a|a
   .exact absurd a aM
   .exact FU a aZ
  have g:¬s.ak.length=at' s.ak:=by intro q;apply aM;rw [b,vd];omega
  rw [ai au,ai (by simp [h,g])];exact d _ ae rfl
def ob{s:bI}{e:aP}(h:s.ay=[])(p:s.ax=[]):Good (tell s e).1:=⟨rfl,h,p⟩
def wN{s:bI}(e:s.ak=[])(d:s.ay=[])(ae:s.ax=[]):Good (ground s c).1:=by
 unfold ground;split
 .exact⟨rfl,d,ae⟩
 .rename_i aj;unfold h2;split
  .exact ob d ae
  .exact Aw ae (by rw [e,d];rfl) (.inl d) (.inr aj) λs1 a b=>ob b a
def Ax{s:bI}(a:s.ay=[])(ae:s.ax=[]):Good (bad s c).1:=wN rfl a ae
def O'{s:bI}(e:s.ak=[27])(d:s.ay=[])(ae:s.ax=[]):Good (plain s c).1:=by
 unfold plain h2;split
 .exact ob d ae
 .exact Aw ae (by rw [e,d];rfl) (.inl d) (.inl (by rw [e];simp)) λs1 a b=>Ax b a
def FV:∀(n:Nat)(k p:Bytes),k.length<=n->p.length<=65536->(shift n k p).1.isPrefixOf cm=true/\(shift n k p).2.length<=65536
 |0,k,p,h,ae=>by have:k=[]:=pc A;subst this;exact⟨by simp [shift],ae⟩
 |n+1,[],p,h,ae=>by simp [shift,ae]
 |n +1,b::r,p,h,ae=>by
  simp only [shift];split
  .exact⟨‹_›,ae⟩
  .refine FV n r _ (by simp only [bK]at h;omega) ?_;split
   .simp;omega
   .exact ae
def Pa{k:Bytes}(h:k.isPrefixOf cm=true):k.length<=6:=by rw [qB]at h;exact h.length_le
def FW{s:bI}(c:UInt8)(h:Good s):Good (step s c).1:=by
 obtain⟨nx,ak,ay,ax⟩:=s;unfold step;cases nx with
 |ground=>exact wN h.1 h.2.1 h.2.2
 |cQ =>
  obtain⟨Y,ag,d⟩:=h;simp only at Y ag d⊢;unfold cQ;split
  .exact wN rfl ag d
  .split
   .exact⟨ag,d,by simp [Y],by simp [Y]⟩
   .split
    .rename_i aj;exact⟨ag,d,by simp [Y,aj]⟩
    .exact O' Y ag d
 |cp =>
  obtain⟨Y,ag,d,e,f⟩:=h;simp only at Y ag d e f⊢;have g:ak≠[]:=by rintro rfl;rw [ag]at d;simp at d
  exact Aw Y ag (.inr f) (.inl g) λs1 a b=>Ax b a
 |sequence =>
  obtain⟨Y,ag,d,e⟩:=h;simp only at Y ag d e⊢;unfold sequence;split
  .unfold done;split
   .exact⟨Y,au,au,by simp [ag]⟩
   .exact ob Y ag
  .split
   .exact Ax Y ag
   .split
    .exact ob Y ag
    .refine⟨Y,ag,?_,?_⟩
     .show 2<=(ak++[c]).length;simp;omega
     .show(ak++[c]).length<64;simp only at *;simp;omega
 |single =>
  obtain⟨Y,ag,d⟩:=h;simp only at Y ag d⊢;unfold single;split
  .exact ob Y ag
  .split
   .exact ob Y ag
   .split
    .exact ob Y ag
    .exact wN rfl Y ag
 |cD =>
  obtain⟨Y,ag,d,e⟩:=h;simp only at Y ag d e⊢;unfold cD;simp only;have k:=FV (ak.length+1) (ak++[c]) ax au e;split
  .exact⟨rfl,Y,rfl⟩
  .have:=Pa k.1;exact⟨Y,by show(shift _ _ _).1.length<6;omega,k.1,k.2⟩
def FX:∀(b:Bytes){s:bI},Good s->Good (cB s b).1
 |[],s,h=>h
 |c::r,s,h=>FX r (FW c h)
def Ay{s:bI}{no:bI->bI×List aP}{k:Nat}(a:1<=k)(h:∀s1,(no s1).2.length<=k):(e5 s c no).2.length<=k:=by
 unfold e5;simp only;split
 .simp
 .split
  .split<;>(simp only [tell,bK,cq];omega)
  .exact h _
def wO(s:bI)(c:UInt8):(ground s c).2.length<=1:=by
 unfold ground;split
 .simp
 .unfold h2;split
  .simp [tell]
  .exact Ay aC λs1=>by simp [tell]
def Az(s:bI)(c:UInt8):(bad s c).2.length<=2:=by unfold bad;simp only [bK];have:=wO (tell s (dc s.ak)).1 c;omega
def Pb(s:bI)(c:UInt8):(plain s c).2.length<=2:=by
 unfold plain h2;split
 .simp [tell]
 .exact Ay aC λs1=>Az s1 c
def Pc(s:bI)(c:UInt8):(step s c).2.length<=2:=by
 unfold step;split
 .have:=wO s c;omega
 .unfold cQ;split
  .simp only [bK];have:=wO (tell s (dp 4)).1 c;omega
  .split
   .simp
   .split
    .simp
    .exact Pb s c
 .exact Ay aC λs1=>Az s1 c
 .unfold sequence;split
  .unfold done;split<;>simp [tell]
  .split
   .exact Az s c
   .split<;>simp [tell]
 .unfold single;split
  .simp [tell]
  .split
   .simp [tell]
   .split
    .simp [tell]
    .simp only [bK];have:=wO (tell s (eb 79 2)).1 c;omega
 .unfold cD;simp only;split<;>simp [tell]
end Go.Keys
namespace Go.Proofs.zz
open Go.br Go.Keys
def Pd(a:aU)(b:a (.tuple [.av 0,.V 0]) (af 7 [(0,aa.an [.str []] 1 true (some (9,1)))])) :
 bl 54 [.str []] bG a :=
 bm ci (.nil) b
def Pe(a:UInt8)(b:Bytes)(e d:Int)(c:aU)(f:bk 99 [.ac (↑(UInt8.toNat a):Int)] (af 36 [(0,aa.an [.str (a::b)] 1 true (some (9,1)))]) (.tuple [.V 0,.ac e,.ac d]) (af 36 [(0,aa.an [.str (a::b)] 1 true (some (9,1)))])/\c (.tuple [.av 65533,.V 1]) (af 45 [(0,aa.an [.str (a::b)] 1 true (some (9,1)))])) :
 bl 54 [.str (a::b)] bG c :=
 bm ci (he 3003<|he 1001<|ap 2001 (.tuple [.V 0,.ac e,.ac d]) .nil) f
def Pf(a:UInt8)(b:Bytes)(e d:Int)(c:aU)(f:bk 99 [.ac (↑(UInt8.toNat a):Int)] (af 36 [(0,aa.an [.str (a::b)] 1 true (some (9,1)))]) (.tuple [.V 1,.ac e,.ac d]) (af 36 [(0,aa.an [.str (a::b)] 1 true (some (9,1)))])/\(-2147483648<=(↑(UInt8.toNat a):Int)/\(↑(UInt8.toNat a):Int)<=2147483647)/\c (.tuple [.av (↑(UInt8.toNat a):Int),.V 1]) (af 49 [(0,aa.an [.str (a::b)] 1 true (some (9,1)))])) :
 bl 54 [.str (a::b)] bG c :=
 bm ci (he 3003<|he 1001<|ap 2001 (.tuple [.V 1,.ac e,.ac d])<|ab 6001 .nil) f
def Pg(a:UInt8)(d c:Int)(b:aU)(e:bk 99 [.ac (↑(UInt8.toNat a):Int)] (af 36 [(0,aa.an [.str [a]] 1 true (some (9,1)))]) (.tuple [.V 2,.ac d,.ac c]) (af 36 [(0,aa.an [.str [a]] 1 true (some (9,1)))])/\(-2147483648<=(↑(UInt8.toNat a):Int)/\(↑(UInt8.toNat a):Int)<=2147483647)/\True/\b (.tuple [.av 65533,.V 1]) (af 61 [(0,aa.an [.str [a]] 1 true (some (9,1)))])) :
 bl 54 [.str ([a])] bG b :=
 bm ci (he 3003<|he 1001<|ap 2001 (.tuple [.V 2,.ac d,.ac c]) mK) e
def Ph(b a:UInt8)(c:Bytes)(f e:Int)(d:aU)(g:bk 99 [.ac (↑(UInt8.toNat b):Int)] (af 36 [(0,aa.an [.str (b::a::c)] 1 true (some (9,1)))]) (.tuple [.V 2,.ac f,.ac e]) (af 36 [(0,aa.an [.str (b::a::c)] 1 true (some (9,1)))])/\(-2147483648<=(↑(UInt8.toNat b):Int)/\(↑(UInt8.toNat b):Int)<=2147483647)/\True/\((↑(UInt8.toNat a):Int)<f->d (.tuple [.av 65533,.V 1]) (af 78 [(0,aa.an [.str (b::a::c)] 1 true (some (9,1)))]))/\(¬(↑(UInt8.toNat a):Int)<f->(e<(↑(UInt8.toNat a):Int)->d (.tuple [.av 65533,.V 1]) (af 78 [(0,aa.an [.str (b::a::c)] 1 true (some (9,1)))]))/\(¬e<(↑(UInt8.toNat a):Int)->Int.NonNeg (6-0)/\True/\(-2147483648<=a' .u8 (↑(UInt8.toNat a):Int) (63)/\a' .u8 (↑(UInt8.toNat a):Int) (63)<=2147483647)/\True/\d (.tuple [.av (bP .i32 (eu .i32 (a' .i32 (↑(UInt8.toNat b):Int) (31)) (6)) (a' .u8 (↑(UInt8.toNat a):Int) (63))),.V 2]) (af 94 [(0,aa.an [.str (b::a::c)] 1 true (some (9,1)))])))) :
 bl 54 [.str (b::a::c)] bG d :=
 bm ci (he 3003<|he 1001<|ap 2001 (.tuple [.V 2,.ac f,.ac e])<|ab 7001<|ab 7004<|.aG (.rounds 300)<|he 13002<|.al 14002 .nil<|.al 14006 .nil<|ab 17001<|ab 17003<|ab 17004<|ab 17005 .nil) g
def Pj(a:UInt8)(d c:Int)(b:aU)(e:bk 99 [.ac (↑(UInt8.toNat a):Int)] (af 36 [(0,aa.an [.str [a]] 1 true (some (9,1)))]) (.tuple [.V 3,.ac d,.ac c]) (af 36 [(0,aa.an [.str [a]] 1 true (some (9,1)))])/\(-2147483648<=(↑(UInt8.toNat a):Int)/\(↑(UInt8.toNat a):Int)<=2147483647)/\True/\b (.tuple [.av 65533,.V 1]) (af 61 [(0,aa.an [.str [a]] 1 true (some (9,1)))])) :
 bl 54 [.str ([a])] bG b :=
 bm ci (he 3003<|he 1001<|ap 2001 (.tuple [.V 3,.ac d,.ac c]) mK) e
def Pk(b a:UInt8)(e d:Int)(c:aU)(f:bk 99 [.ac (↑(UInt8.toNat b):Int)] (af 36 [(0,aa.an [.str [b,a]] 1 true (some (9,1)))]) (.tuple [.V 3,.ac e,.ac d]) (af 36 [(0,aa.an [.str [b,a]] 1 true (some (9,1)))])/\(-2147483648<=(↑(UInt8.toNat b):Int)/\(↑(UInt8.toNat b):Int)<=2147483647)/\True/\((↑(UInt8.toNat a):Int)<e->c (.tuple [.av 65533,.V 1]) (af 78 [(0,aa.an [.str [b,a]] 1 true (some (9,1)))]))/\(¬(↑(UInt8.toNat a):Int)<e->(d<(↑(UInt8.toNat a):Int)->c (.tuple [.av 65533,.V 1]) (af 78 [(0,aa.an [.str [b,a]] 1 true (some (9,1)))]))/\(¬d<(↑(UInt8.toNat a):Int)->Int.NonNeg (6-0)/\True/\(-2147483648<=a' .u8 (↑(UInt8.toNat a):Int) (63)/\a' .u8 (↑(UInt8.toNat a):Int) (63)<=2147483647)/\True/\c (.tuple [.av 65533,.V 2]) (af 96 [(0,aa.an [.str [b,a]] 1 true (some (9,1)))])))) :
 bl 54 [.str ([b,a])] bG c :=
 bm ci (he 3003<|he 1001<|ap 2001 (.tuple [.V 3,.ac e,.ac d])<|ab 7001<|ab 7004<|.aG (.rounds 300)<|he 13002<|.al 14002 .nil<|.al 14006 .nil<|ab 17001<|ab 17003<|ab 17004<|ab 17005 .nil) f
def Pl(c a b:UInt8)(d:Bytes)(g f:Int)(e:aU)(h:bk 99 [.ac (↑(UInt8.toNat c):Int)] (af 36 [(0,aa.an [.str (c::a::b::d)] 1 true (some (9,1)))]) (.tuple [.V 3,.ac g,.ac f]) (af 36 [(0,aa.an [.str (c::a::b::d)] 1 true (some (9,1)))])/\(-2147483648<=(↑(UInt8.toNat c):Int)/\(↑(UInt8.toNat c):Int)<=2147483647)/\True/\((↑(UInt8.toNat a):Int)<g->e (.tuple [.av 65533,.V 1]) (af 78 [(0,aa.an [.str (c::a::b::d)] 1 true (some (9,1)))]))/\(¬(↑(UInt8.toNat a):Int)<g->(f<(↑(UInt8.toNat a):Int)->e (.tuple [.av 65533,.V 1]) (af 78 [(0,aa.an [.str (c::a::b::d)] 1 true (some (9,1)))]))/\(¬f<(↑(UInt8.toNat a):Int)->Int.NonNeg (6-0)/\True/\(-2147483648<=a' .u8 (↑(UInt8.toNat a):Int) (63)/\a' .u8 (↑(UInt8.toNat a):Int) (63)<=2147483647)/\True/\((↑(UInt8.toNat b):Int)<128->e (.tuple [.av 65533,.V 2]) (af 113 [(0,aa.an [.str (c::a::b::d)] 1 true (some (9,1)))]))/\(¬(↑(UInt8.toNat b):Int)<128->(191<(↑(UInt8.toNat b):Int)->e (.tuple [.av 65533,.V 2]) (af 113 [(0,aa.an [.str (c::a::b::d)] 1 true (some (9,1)))]))/\(¬191<(↑(UInt8.toNat b):Int)->Int.NonNeg (6-0)/\True/\(-2147483648<=a' .u8 (↑(UInt8.toNat b):Int) (63)/\a' .u8 (↑(UInt8.toNat b):Int) (63)<=2147483647)/\True/\e (.tuple [.av (bP .i32 (eu .i32 (bP .i32 (eu .i32 (a' .i32 (↑(UInt8.toNat c):Int) (15)) (6)) (a' .u8 (↑(UInt8.toNat a):Int) (63))) (6)) (a' .u8 (↑(UInt8.toNat b):Int) (63))),.V 3]) (af 129 [(0,aa.an [.str (c::a::b::d)] 1 true (some (9,1)))])))))) :
 bl 54 [.str (c::a::b::d)] bG e :=
 bm ci (he 3003<|he 1001<|ap 2001 (.tuple [.V 3,.ac g,.ac f])<|ab 7001<|ab 7004<|.aG (.rounds 300)<|he 13002<|.al 14002 .nil<|.al 14006 .nil<|ab 17001<|ab 17003<|ab 17004<|ab 17005<|he 13002<|.al 14002 .nil<|.al 14006 .nil<|ab 17001<|ab 17003<|ab 17004<|ab 17005 .nil) h
def Pm(a:UInt8)(d c:Int)(b:aU)(e:bk 99 [.ac (↑(UInt8.toNat a):Int)] (af 36 [(0,aa.an [.str [a]] 1 true (some (9,1)))]) (.tuple [.V 4,.ac d,.ac c]) (af 36 [(0,aa.an [.str [a]] 1 true (some (9,1)))])/\(-2147483648<=(↑(UInt8.toNat a):Int)/\(↑(UInt8.toNat a):Int)<=2147483647)/\True/\b (.tuple [.av 65533,.V 1]) (af 61 [(0,aa.an [.str [a]] 1 true (some (9,1)))])) :
 bl 54 [.str ([a])] bG b :=
 bm ci (he 3003<|he 1001<|ap 2001 (.tuple [.V 4,.ac d,.ac c]) mK) e
def Pn(b a:UInt8)(e d:Int)(c:aU)(f:bk 99 [.ac (↑(UInt8.toNat b):Int)] (af 36 [(0,aa.an [.str [b,a]] 1 true (some (9,1)))]) (.tuple [.V 4,.ac e,.ac d]) (af 36 [(0,aa.an [.str [b,a]] 1 true (some (9,1)))])/\(-2147483648<=(↑(UInt8.toNat b):Int)/\(↑(UInt8.toNat b):Int)<=2147483647)/\True/\((↑(UInt8.toNat a):Int)<e->c (.tuple [.av 65533,.V 1]) (af 78 [(0,aa.an [.str [b,a]] 1 true (some (9,1)))]))/\(¬(↑(UInt8.toNat a):Int)<e->(d<(↑(UInt8.toNat a):Int)->c (.tuple [.av 65533,.V 1]) (af 78 [(0,aa.an [.str [b,a]] 1 true (some (9,1)))]))/\(¬d<(↑(UInt8.toNat a):Int)->Int.NonNeg (6-0)/\True/\(-2147483648<=a' .u8 (↑(UInt8.toNat a):Int) (63)/\a' .u8 (↑(UInt8.toNat a):Int) (63)<=2147483647)/\True/\c (.tuple [.av 65533,.V 2]) (af 96 [(0,aa.an [.str [b,a]] 1 true (some (9,1)))])))) :
 bl 54 [.str ([b,a])] bG c :=
 bm ci (he 3003<|he 1001<|ap 2001 (.tuple [.V 4,.ac e,.ac d])<|ab 7001<|ab 7004<|.aG (.rounds 300)<|he 13002<|.al 14002 .nil<|.al 14006 .nil<|ab 17001<|ab 17003<|ab 17004<|ab 17005 .nil) f
def Po(c a b:UInt8)(f e:Int)(d:aU)(g:bk 99 [.ac (↑(UInt8.toNat c):Int)] (af 36 [(0,aa.an [.str [c,a,b]] 1 true (some (9,1)))]) (.tuple [.V 4,.ac f,.ac e]) (af 36 [(0,aa.an [.str [c,a,b]] 1 true (some (9,1)))])/\(-2147483648<=(↑(UInt8.toNat c):Int)/\(↑(UInt8.toNat c):Int)<=2147483647)/\True/\((↑(UInt8.toNat a):Int)<f->d (.tuple [.av 65533,.V 1]) (af 78 [(0,aa.an [.str [c,a,b]] 1 true (some (9,1)))]))/\(¬(↑(UInt8.toNat a):Int)<f->(e<(↑(UInt8.toNat a):Int)->d (.tuple [.av 65533,.V 1]) (af 78 [(0,aa.an [.str [c,a,b]] 1 true (some (9,1)))]))/\(¬e<(↑(UInt8.toNat a):Int)->Int.NonNeg (6-0)/\True/\(-2147483648<=a' .u8 (↑(UInt8.toNat a):Int) (63)/\a' .u8 (↑(UInt8.toNat a):Int) (63)<=2147483647)/\True/\((↑(UInt8.toNat b):Int)<128->d (.tuple [.av 65533,.V 2]) (af 113 [(0,aa.an [.str [c,a,b]] 1 true (some (9,1)))]))/\(¬(↑(UInt8.toNat b):Int)<128->(191<(↑(UInt8.toNat b):Int)->d (.tuple [.av 65533,.V 2]) (af 113 [(0,aa.an [.str [c,a,b]] 1 true (some (9,1)))]))/\(¬191<(↑(UInt8.toNat b):Int)->Int.NonNeg (6-0)/\True/\(-2147483648<=a' .u8 (↑(UInt8.toNat b):Int) (63)/\a' .u8 (↑(UInt8.toNat b):Int) (63)<=2147483647)/\True/\d (.tuple [.av 65533,.V 3]) (af 131 [(0,aa.an [.str [c,a,b]] 1 true (some (9,1)))])))))) :
 bl 54 [.str ([c,a,b])] bG d :=
 bm ci (he 3003<|he 1001<|ap 2001 (.tuple [.V 4,.ac f,.ac e])<|ab 7001<|ab 7004<|.aG (.rounds 300)<|he 13002<|.al 14002 .nil<|.al 14006 .nil<|ab 17001<|ab 17003<|ab 17004<|ab 17005<|he 13002<|.al 14002 .nil<|.al 14006 .nil<|ab 17001<|ab 17003<|ab 17004<|ab 17005 .nil) g
def Pp(d a b c:UInt8)(e:Bytes)(h g:Int)(f:aU)(i:bk 99 [.ac (↑(UInt8.toNat d):Int)] (af 36 [(0,aa.an [.str (d::a::b::c::e)] 1 true (some (9,1)))]) (.tuple [.V 4,.ac h,.ac g]) (af 36 [(0,aa.an [.str (d::a::b::c::e)] 1 true (some (9,1)))])/\(-2147483648<=(↑(UInt8.toNat d):Int)/\(↑(UInt8.toNat d):Int)<=2147483647)/\True/\((↑(UInt8.toNat a):Int)<h->f (.tuple [.av 65533,.V 1]) (af 78 [(0,aa.an [.str (d::a::b::c::e)] 1 true (some (9,1)))]))/\(¬(↑(UInt8.toNat a):Int)<h->(g<(↑(UInt8.toNat a):Int)->f (.tuple [.av 65533,.V 1]) (af 78 [(0,aa.an [.str (d::a::b::c::e)] 1 true (some (9,1)))]))/\(¬g<(↑(UInt8.toNat a):Int)->Int.NonNeg (6-0)/\True/\(-2147483648<=a' .u8 (↑(UInt8.toNat a):Int) (63)/\a' .u8 (↑(UInt8.toNat a):Int) (63)<=2147483647)/\True/\((↑(UInt8.toNat b):Int)<128->f (.tuple [.av 65533,.V 2]) (af 113 [(0,aa.an [.str (d::a::b::c::e)] 1 true (some (9,1)))]))/\(¬(↑(UInt8.toNat b):Int)<128->(191<(↑(UInt8.toNat b):Int)->f (.tuple [.av 65533,.V 2]) (af 113 [(0,aa.an [.str (d::a::b::c::e)] 1 true (some (9,1)))]))/\(¬191<(↑(UInt8.toNat b):Int)->Int.NonNeg (6-0)/\True/\(-2147483648<=a' .u8 (↑(UInt8.toNat b):Int) (63)/\a' .u8 (↑(UInt8.toNat b):Int) (63)<=2147483647)/\True/\((↑(UInt8.toNat c):Int)<128->f (.tuple [.av 65533,.V 3]) (af 148 [(0,aa.an [.str (d::a::b::c::e)] 1 true (some (9,1)))]))/\(¬(↑(UInt8.toNat c):Int)<128->(191<(↑(UInt8.toNat c):Int)->f (.tuple [.av 65533,.V 3]) (af 148 [(0,aa.an [.str (d::a::b::c::e)] 1 true (some (9,1)))]))/\(¬191<(↑(UInt8.toNat c):Int)->Int.NonNeg (6-0)/\True/\(-2147483648<=a' .u8 (↑(UInt8.toNat c):Int) (63)/\a' .u8 (↑(UInt8.toNat c):Int) (63)<=2147483647)/\True/\f (.tuple [.av (bP .i32 (eu .i32 (bP .i32 (eu .i32 (bP .i32 (eu .i32 (a' .i32 (↑(UInt8.toNat d):Int) (7)) (6)) (a' .u8 (↑(UInt8.toNat a):Int) (63))) (6)) (a' .u8 (↑(UInt8.toNat b):Int) (63))) (6)) (a' .u8 (↑(UInt8.toNat c):Int) (63))),.V 4]) (af 164 [(0,aa.an [.str (d::a::b::c::e)] 1 true (some (9,1)))])))))))) :
 bl 54 [.str (d::a::b::c::e)] bG f :=
 bm ci (he 3003<|he 1001<|ap 2001 (.tuple [.V 4,.ac h,.ac g])<|ab 7001<|ab 7004<|.aG (.rounds 300)<|he 13002<|.al 14002 .nil<|.al 14006 .nil<|ab 17001<|ab 17003<|ab 17004<|ab 17005<|he 13002<|.al 14002 .nil<|.al 14006 .nil<|ab 17001<|ab 17003<|ab 17004<|ab 17005<|he 13002<|.al 14002 .nil<|.al 14006 .nil<|ab 17001<|ab 17003<|ab 17004<|ab 17005 .nil) i
def fh(s:Bytes):J:= .tuple [.int .i32 ((first s).1:Int),.int .i64 ((first s).2.1:Int)]
def eU{s:Bytes}{a k:Nat}{x:Bool}(h:first s=(a,k,x)){b k':Int}(c:b=a)(d:k'=k):J.tuple [.av b,.V k']=fh s:=by unfold fh;rw [h,c,d]
def Pq(H:T):be 54 [.str []] H (fh []) H:=bj.bU (Pd (λv _=>v=fh []) rfl) rfl rfl H
def k4(b:UInt8)(n:Nat)(h:(lead b.toNat).1=n)(H:T):be 99 [.ac (b.toNat:Int)] H (.tuple [.V (n:Int),.ac ((lead b.toNat).2.1:Int),.ac ((lead b.toNat).2.2:Int)]) H:=by have k:=n8 b.toNat H;simp only [k2,oa,h]at k;exact k
def Pr(ar:UInt8)(r:Bytes)(a:(lead ar.toNat).1=0)(H:T):be 54 [.str (ar::r)] H (fh (ar::r)) H:=by refine bj.bU (Pe ar r (lead ar.toNat).2.1 (lead ar.toNat).2.2 (λv _=>v=fh (ar::r)) ?_) rfl rfl H;exact⟨⟨k4 ar 0 a _⟩,eU (show first (ar::r)=(65533,1,false)by simp [first,a]) rfl rfl⟩
def Ps(ar:UInt8)(r:Bytes)(a:(lead ar.toNat).1=1)(H:T):be 54 [.str (ar::r)] H (fh (ar::r)) H:=by refine bj.bU (Pf ar r (lead ar.toNat).2.1 (lead ar.toNat).2.2 (λv _=>v=fh (ar::r)) ?_) rfl rfl H;exact⟨⟨k4 ar 1 a _⟩,cM ar,eU (show first (ar::r)=(ar.toNat,1,false)by simp [first,a]) rfl rfl⟩
def Pt(ar:UInt8)(a:(lead ar.toNat).1=2)(H:T):be 54 [.str (ar:: [])] H (fh (ar:: [])) H:=by
 refine bj.bU (Pg ar (lead ar.toNat).2.1 (lead ar.toNat).2.2 (λv _=>v=fh (ar:: [])) ?_) rfl rfl H;have c:∀r,first (ar::r)=tail 1 1 (lead ar.toNat).2.1 (lead ar.toNat).2.2 (ar.toNat%2^(7-2)) r:=λr=>h3 ar r 0 a
 have b:first (ar:: [])=(65533,1,true):=by rw [c];rfl
 exact⟨⟨k4 ar 2 a _⟩,cM ar,trivial,eU b rfl rfl⟩
def Pu(ar aN:UInt8)(r:Bytes)(c:(lead ar.toNat).1=2)(H:T):be 54 [.str (ar::aN::r)] H (fh (ar::aN::r)) H:=by
 refine bj.bU (Ph ar aN r (lead ar.toNat).2.1 (lead ar.toNat).2.2 (λv _=>v=fh (ar::aN::r)) ?_) rfl rfl H;have b:∀r,first (ar::r)=tail 1 1 (lead ar.toNat).2.1 (lead ar.toNat).2.2 (ar.toNat%2^(7-2)) r:=λr=>h3 ar r 0 c
 have a:∀(aj:aN.toNat<(lead ar.toNat).2.1\/(lead ar.toNat).2.2<aN.toNat),first (ar::aN::r)=(65533,1,false):=λaj=>by rw [b];simp only [tail];rw [az aj]
 have d:∀(Y:¬(aN.toNat<(lead ar.toNat).2.1\/(lead ar.toNat).2.2<aN.toNat)),first (ar::aN::r)=((ar.toNat%32)*64+aN.toNat%64,2,false):=λY=>by rw [b];simp only [tail];rw [ai Y]
 have e:bP .i32 (eu .i32 (a' .i32 (ar.toNat:Int) 31) 6) (a' .u8 (aN.toNat:Int) 63)=(((ar.toNat%32)*64+aN.toNat%64:Nat):Int):=by rw [FN,jP aN,kp _ A,kq _ _ A A]
 exact⟨⟨k4 ar 2 c _⟩,cM ar,trivial,⟨λaq=>eU (a A) rfl rfl,λf=>⟨λcL=>eU (a A) rfl rfl,λd1=>⟨f',trivial,g' aN,trivial,eU (d A) e rfl⟩⟩⟩⟩
def Pv(ar:UInt8)(a:(lead ar.toNat).1=3)(H:T):be 54 [.str (ar:: [])] H (fh (ar:: [])) H:=by
 refine bj.bU (Pj ar (lead ar.toNat).2.1 (lead ar.toNat).2.2 (λv _=>v=fh (ar:: [])) ?_) rfl rfl H;have c:∀r,first (ar::r)=tail 2 1 (lead ar.toNat).2.1 (lead ar.toNat).2.2 (ar.toNat%2^(7-3)) r:=λr=>h3 ar r 1 a
 have b:first (ar:: [])=(65533,1,true):=by rw [c];rfl
 exact⟨⟨k4 ar 3 a _⟩,cM ar,trivial,eU b rfl rfl⟩
def Pw(ar aN:UInt8)(c:(lead ar.toNat).1=3)(H:T):be 54 [.str (ar::aN:: [])] H (fh (ar::aN:: [])) H:=by
 refine bj.bU (Pk ar aN (lead ar.toNat).2.1 (lead ar.toNat).2.2 (λv _=>v=fh (ar::aN:: [])) ?_) rfl rfl H;have b:∀r,first (ar::r)=tail 2 1 (lead ar.toNat).2.1 (lead ar.toNat).2.2 (ar.toNat%2^(7-3)) r:=λr=>h3 ar r 1 c
 have a:∀(aj:aN.toNat<(lead ar.toNat).2.1\/(lead ar.toNat).2.2<aN.toNat),first (ar::aN:: [])=(65533,1,false):=λaj=>by rw [b];simp only [tail];rw [az aj]
 have d:∀(Y:¬(aN.toNat<(lead ar.toNat).2.1\/(lead ar.toNat).2.2<aN.toNat)),first (ar::aN:: [])=(65533,2,true):=λY=>by rw [b];simp only [tail];rw [ai Y]
 exact⟨⟨k4 ar 3 c _⟩,cM ar,trivial,⟨λaq=>eU (a A) rfl rfl,λe=>⟨λcL=>eU (a A) rfl rfl,λd1=>⟨f',trivial,g' aN,trivial,eU (d A) rfl rfl⟩⟩⟩⟩
def Px(ar aN bx:UInt8)(r:Bytes)(d:(lead ar.toNat).1=3)(H:T):be 54 [.str (ar::aN::bx::r)] H (fh (ar::aN::bx::r)) H:=by
 refine bj.bU (Pl ar aN bx r (lead ar.toNat).2.1 (lead ar.toNat).2.2 (λv _=>v=fh (ar::aN::bx::r)) ?_) rfl rfl H;have a:∀r,first (ar::r)=tail 2 1 (lead ar.toNat).2.1 (lead ar.toNat).2.2 (ar.toNat%2^(7-3)) r:=λr=>h3 ar r 1 d
 have b:∀(aj:aN.toNat<(lead ar.toNat).2.1\/(lead ar.toNat).2.2<aN.toNat),first (ar::aN::bx::r)=(65533,1,false):=λaj=>by rw [a];simp only [tail];rw [az aj]
 have c:∀(Y:¬(aN.toNat<(lead ar.toNat).2.1\/(lead ar.toNat).2.2<aN.toNat)) (aj:bx.toNat<128\/191<bx.toNat),first (ar::aN::bx::r)=(65533,2,false):=λY aj=>by rw [a];simp only [tail];rw [ai Y,az aj]
 have e:∀(Y:¬(aN.toNat<(lead ar.toNat).2.1\/(lead ar.toNat).2.2<aN.toNat)) (ag:¬(bx.toNat<128\/191<bx.toNat)),first (ar::aN::bx::r)=(((ar.toNat%16)*64+aN.toNat%64)*64+bx.toNat%64,3,false):=λY ag=>by rw [a];simp only [tail];rw [ai Y,ai ag]
 have f:bP .i32 (eu .i32 (bP .i32 (eu .i32 (a' .i32 (ar.toNat:Int) 15) 6) (a' .u8 (aN.toNat:Int) 63)) 6) (a' .u8 (bx.toNat:Int) 63)=((((ar.toNat%16)*64+aN.toNat%64)*64+bx.toNat%64:Nat):Int):=by rw [FO,jP aN,jP bx,kp _ A,kq _ _ A A,kp _ A,kq _ _ A A]
 exact⟨⟨k4 ar 3 d _⟩,cM ar,trivial,⟨λaq=>eU (b A) rfl rfl,λg=>⟨λcL=>eU (b A) rfl rfl,λd1=>⟨f',trivial,g' aN,trivial,⟨λa2=>eU (c A A) rfl rfl,λh=>⟨λc2=>eU (c A A) rfl rfl,λd2=>⟨f',trivial,g' bx,trivial,eU (e A A) f rfl⟩⟩⟩⟩⟩⟩⟩
def Py(ar:UInt8)(a:(lead ar.toNat).1=4)(H:T):be 54 [.str (ar:: [])] H (fh (ar:: [])) H:=by
 refine bj.bU (Pm ar (lead ar.toNat).2.1 (lead ar.toNat).2.2 (λv _=>v=fh (ar:: [])) ?_) rfl rfl H;have c:∀r,first (ar::r)=tail 3 1 (lead ar.toNat).2.1 (lead ar.toNat).2.2 (ar.toNat%2^(7-4)) r:=λr=>h3 ar r 2 a
 have b:first (ar:: [])=(65533,1,true):=by rw [c];rfl
 exact⟨⟨k4 ar 4 a _⟩,cM ar,trivial,eU b rfl rfl⟩
def Pz(ar aN:UInt8)(c:(lead ar.toNat).1=4)(H:T):be 54 [.str (ar::aN:: [])] H (fh (ar::aN:: [])) H:=by
 refine bj.bU (Pn ar aN (lead ar.toNat).2.1 (lead ar.toNat).2.2 (λv _=>v=fh (ar::aN:: [])) ?_) rfl rfl H;have b:∀r,first (ar::r)=tail 3 1 (lead ar.toNat).2.1 (lead ar.toNat).2.2 (ar.toNat%2^(7-4)) r:=λr=>h3 ar r 2 c
 have a:∀(aj:aN.toNat<(lead ar.toNat).2.1\/(lead ar.toNat).2.2<aN.toNat),first (ar::aN:: [])=(65533,1,false):=λaj=>by rw [b];simp only [tail];rw [az aj]
 have d:∀(Y:¬(aN.toNat<(lead ar.toNat).2.1\/(lead ar.toNat).2.2<aN.toNat)),first (ar::aN:: [])=(65533,2,true):=λY=>by rw [b];simp only [tail];rw [ai Y]
 exact⟨⟨k4 ar 4 c _⟩,cM ar,trivial,⟨λaq=>eU (a A) rfl rfl,λe=>⟨λcL=>eU (a A) rfl rfl,λd1=>⟨f',trivial,g' aN,trivial,eU (d A) rfl rfl⟩⟩⟩⟩
def PA(ar aN bx:UInt8)(d:(lead ar.toNat).1=4)(H:T):be 54 [.str (ar::aN::bx:: [])] H (fh (ar::aN::bx:: [])) H:=by
 refine bj.bU (Po ar aN bx (lead ar.toNat).2.1 (lead ar.toNat).2.2 (λv _=>v=fh (ar::aN::bx:: [])) ?_) rfl rfl H;have a:∀r,first (ar::r)=tail 3 1 (lead ar.toNat).2.1 (lead ar.toNat).2.2 (ar.toNat%2^(7-4)) r:=λr=>h3 ar r 2 d
 have b:∀(aj:aN.toNat<(lead ar.toNat).2.1\/(lead ar.toNat).2.2<aN.toNat),first (ar::aN::bx:: [])=(65533,1,false):=λaj=>by rw [a];simp only [tail];rw [az aj]
 have c:∀(Y:¬(aN.toNat<(lead ar.toNat).2.1\/(lead ar.toNat).2.2<aN.toNat)) (aj:bx.toNat<128\/191<bx.toNat),first (ar::aN::bx:: [])=(65533,2,false):=λY aj=>by rw [a];simp only [tail];rw [ai Y,az aj]
 have e:∀(Y:¬(aN.toNat<(lead ar.toNat).2.1\/(lead ar.toNat).2.2<aN.toNat)) (ag:¬(bx.toNat<128\/191<bx.toNat)),first (ar::aN::bx:: [])=(65533,3,true):=λY ag=>by rw [a];simp only [tail];rw [ai Y,ai ag]
 exact⟨⟨k4 ar 4 d _⟩,cM ar,trivial,⟨λaq=>eU (b A) rfl rfl,λf=>⟨λcL=>eU (b A) rfl rfl,λd1=>⟨f',trivial,g' aN,trivial,⟨λa2=>eU (c A A) rfl rfl,λg=>⟨λc2=>eU (c A A) rfl rfl,λd2=>⟨f',trivial,g' bx,trivial,eU (e A A) rfl rfl⟩⟩⟩⟩⟩⟩⟩
def PB(ar aN bx a:UInt8)(r:Bytes)(g:(lead ar.toNat).1=4)(H:T):be 54 [.str (ar::aN::bx::a::r)] H (fh (ar::aN::bx::a::r)) H:=by
 refine bj.bU (Pp ar aN bx a r (lead ar.toNat).2.1 (lead ar.toNat).2.2 (λv _=>v=fh (ar::aN::bx::a::r)) ?_) rfl rfl H;have b:∀r,first (ar::r)=tail 3 1 (lead ar.toNat).2.1 (lead ar.toNat).2.2 (ar.toNat%2^(7-4)) r:=λr=>h3 ar r 2 g
 have c:∀(aj:aN.toNat<(lead ar.toNat).2.1\/(lead ar.toNat).2.2<aN.toNat),first (ar::aN::bx::a::r)=(65533,1,false):=λaj=>by rw [b];simp only [tail];rw [az aj]
 have d:∀(Y:¬(aN.toNat<(lead ar.toNat).2.1\/(lead ar.toNat).2.2<aN.toNat)) (aj:bx.toNat<128\/191<bx.toNat),first (ar::aN::bx::a::r)=(65533,2,false):=λY aj=>by rw [b];simp only [tail];rw [ai Y,az aj]
 have e:∀(Y:¬(aN.toNat<(lead ar.toNat).2.1\/(lead ar.toNat).2.2<aN.toNat)) (ag:¬(bx.toNat<128\/191<bx.toNat)) (aj:a.toNat<128\/191<a.toNat),first (ar::aN::bx::a::r)=(65533,3,false):=λY ag aj=>by rw [b];simp only [tail];rw [ai Y,ai ag,az aj]
 have h:∀(Y:¬(aN.toNat<(lead ar.toNat).2.1\/(lead ar.toNat).2.2<aN.toNat)) (ag:¬(bx.toNat<128\/191<bx.toNat)) (f:¬(a.toNat<128\/191<a.toNat)),first (ar::aN::bx::a::r)=((((ar.toNat%8)*64+aN.toNat%64)*64+bx.toNat%64)*64+a.toNat%64,4,false):=λY ag f=>by rw [b];simp only [tail];rw [ai Y,ai ag,ai f]
 have i:bP .i32 (eu .i32 (bP .i32 (eu .i32 (bP .i32 (eu .i32 (a' .i32 (ar.toNat:Int) 7) 6) (a' .u8 (aN.toNat:Int) 63)) 6) (a' .u8 (bx.toNat:Int) 63)) 6) (a' .u8 (a.toNat:Int) 63)=(((((ar.toNat%8)*64+aN.toNat%64)*64+bx.toNat%64)*64+a.toNat%64:Nat):Int):=by rw [FP,jP aN,jP bx,jP a,kp _ A,kq _ _ A A,kp _ A,kq _ _ A A,kp _ A,kq _ _ A A]
 exact⟨⟨k4 ar 4 g _⟩,cM ar,trivial,⟨λaq=>eU (c A) rfl rfl,λj=>⟨λcL=>eU (c A) rfl rfl,λd1=>⟨f',trivial,g' aN,trivial,⟨λa2=>eU (d A A) rfl rfl,λk=>⟨λc2=>eU (d A A) rfl rfl,λd2=>⟨f',trivial,g' bx,trivial,⟨λa3=>eU (e A A A) rfl rfl,λl=>⟨λc3=>eU (e A A A) rfl rfl,λd3=>⟨f',trivial,g' a,trivial,eU (h A A A) i rfl⟩⟩⟩⟩⟩⟩⟩⟩⟩⟩
def PC(s:Bytes)(H:T):be 54 [.str s] H (fh s) H:=by
 match s with
 |[]=>exact Pq H
 |ar::t =>
  rcases gR ar.toNat with h|h|h|h|h
  .exact Pr ar t h H
  .exact Ps ar t h H
  .match t with
   |[]=>exact Pt ar h H
   |aN::r=>exact Pu ar aN r h H
  .match t with
   |[]=>exact Pv ar h H
   |[aN]=>exact Pw ar aN h H
   |aN::bx::r=>exact Px ar aN bx r h H
  .match t with
   |[]=>exact Py ar h H
   |[aN]=>exact Pz ar aN h H
   |[aN,bx]=>exact PA ar aN bx h H
   |aN::bx::a::r=>exact PB ar aN bx a r h H
def FY:List J->T->Option dx:=io λa=>match a with | [.str s]=>some (fh s,[])|_=>none
def PD:∀args h a,FY args h=some a->a.cG Tryz.prog cz 54 args h:=by
 refine jo ?_;intro args v ps e ae H;split at e<;>first|(cases e;done)|skip
 simp only [a8,bC]at e;obtain⟨rfl,rfl⟩:=e;exact PC _ H
abbrev fu(l:List J)(v f:Nat):aa:= {bg:=l,es:=1,exact:=false,ro:=false,ad:=v,eH:=0,fo:=f,ty:=some (21,0)}
noncomputable def PE:dQ:=mJ.add 54 FY
def AA:dC Tryz.prog cz PE:=ci.add PD
def FZ(a:Bytes)(b:b8->bc->T->Prop)(d:(0<(↑(a.length):Int)->(-9223372036854775808<=0+(↑(((first ((a.take (a.length)).drop 0)).2).1):Int)/\0+(↑(((first ((a.take (a.length)).drop 0)).2).1):Int)<=9223372036854775807)/\b .normal [(0,.str a),(3,.slice (b5 16) 1 1),(4,.V (0+(↑(((first ((a.take (a.length)).drop 0)).2).1):Int)))] (af 22 [(15,aa.an [.av (↑((first ((a.take (a.length)).drop 0)).1):Int)] 1 true),(16,aa.an [.av (↑((first ((a.take (a.length)).drop 0)).1):Int)] 1 false (some (21,0)))]))/\(¬0<(↑(a.length):Int)->b (.exit 0) [(0,.str a),(3,.slice none 0 0),(4,.V 0)] (af 4 []))) :
 ∃e c Y,bN 0 26 (bu 150 0) [(0,.str a),(3,.slice none 0 0),(4,.V 0)] bG e c Y/\b e c Y :=
 dD c6 mixed AA (hs:= .al 3003 (ab 6002 .nil) .nil) (keep:=[0,3,4]) ao d
def AB(c:Bytes)(a d h b:Nat)(f:List J)(g:b8->bc->T->Prop)(j:((a:Int)<(↑(c.length):Int)->(0<=(a:Int)/\(a:Int)<=(↑(c.length):Int))/\(d=d/\0+b=f.length/\b<b+1/\(b+1+(b+1)/4+512)*4<=281474976710656/\b+1<4611686018427387904)/\(-9223372036854775808<=(a:Int)+(↑(((first (c.drop a)).2).1):Int)/\(a:Int)+(↑(((first (c.drop a)).2).1):Int)<=9223372036854775807)/\g .normal [(0,.str c),(3,.aB 16 (d+1) 0 (b+1) (b+1)),(4,.V ((a:Int)+(↑(((first (c.drop a)).2).1):Int)))] (af 42 [(16,⟨f++[.av (↑((first (c.drop a)).1):Int)],1,false,false,d+1,0,if 0=d then f.length else min h (f.length),some (21,0)⟩),(35,aa.an [.av (↑((first (c.drop a)).1):Int)] 1 true)]))/\(¬(a:Int)<(↑(c.length):Int)->g (.exit 0) [(0,.str c),(3,.aB 16 d 0 b b),(4,.V a)] (af 24 [(16,⟨f,1,false,false,d,0,h,some (21,0)⟩)]))) :
 ∃e i Y,bN 0 26 (bu 150 0) [(0,.str c),(3,.aB 16 d 0 b b),(4,.V a)] (T.rows 20 [(16,fu f d h)]) e i Y/\g e i Y :=
 dD c6 mixed AA (hs:= .al 3003 (ab 4002 (ab 5003 (ab 6002 .nil))) .nil) (keep:=[0,3,4]) ao j
def F0(b:Bytes)(c e:J)(a:T)(d:aU)(f:bN 0 26 (Code.loop (bu 150 0)) [(0,.str b),(3,.slice none 0 0),(4,.V 0)] (af 3 []) (.exit 0) [(0,.str b),(3,c),(4,e)] a/\d c (T.mk (a.M+2) (T.aF a))) :
 bl 150 [.str b] bG d :=
 bm AA (.aG (.keep [0,3,4])<|.aG (.loop [(0,.str b),(3,c),(4,e)] a (.exit 0)) .nil) f
end Go.Proofs.zz
