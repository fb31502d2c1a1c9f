/-
  Parts of the proof of KeysScripts.
-/
import Derived.Test.YtddnafghiejcoaaGreatDoorRows
import Derived.Shelf.Strconv.Itoa1
import Derived.Shelf.Strings.Fields
import Derived.Test.YtddnafghiejcoaaGreatDoorKKeysScriptsB
set_option linter.unusedVariables false
set_option linter.unusedSimpArgs false
namespace Go.bh
noncomputable section
open Go.RowKit
section
variable {P:Program}{E:a'}
def uH(φ:Map)(S:Nat->Prop)(aS:World)(n:Nat)(F:a8)(h:T)(a:Act)(w:World):Prop:= ∃s:List J,s.length=n/\Has F s/\eI φ S aS ⟨s,h⟩ a w
def h8(P:Program)(C:(Nat->Prop)->World->Prop)(base n:Nat)(f:(Exit->Act->World->Prop)->Act->World->Prop)(F:a8)(h:T)(e:bW)(d:a8)(ad:T):Prop :=
 ∀(S:Nat->Prop)(aS:World),dN S aS.heap.size->C S aS-> ∀(b φ:Map)(a:Act)(w:World),(∀i v p,b i v=some p->i<base)->dH b φ base->uH φ S aS n F h a w ->
  ∀Q:Exit->Act->World->Prop,(∀c bK aZ,dH b c base->uH c S aS n d ad bK aZ->Q (rv e) bK aZ)->f Q a w
def cZ(P:Program)(C:(Nat->Prop)->World->Prop)(base n:Nat)(c:Code)(F:a8)(h:T)(e:bW)(b:a8)(ad:T):Prop:=h8 P C base n (λQ a w=>c.wp P Q a w) F h e b ad
def bX(P:Program)(C:(Nat->Prop)->World->Prop)(base n:Nat)(c:Code)(F:a8)(h:T)(e:bW)(b:a8)(ad:T):Prop:=h8 P C base n (λQ a w=>ox P c Q a w) F h e b ad
def oC(P:Program)(body:Option Code)(c:Code):(Exit->Act->World->Prop)->Act->World->Prop :=
 match body with
 |none=>λQ a w=>c.wp P Q a w
 |some b=>λQ a w=>pO P b c Q a w
theorem cZ.dJ{C:(Nat->Prop)->World->Prop}{base n:Nat}{c:Code}{F b:a8}{h ad:T}{e:bW}(k:bX P C base n c F h e b ad):cZ P C base n (.loop c) F h e b ad :=
 λS aS f ef i φ a w aN g r Q d=>Cf (k S aS f ef i φ a w aN g r Q d)
theorem bX.step{C:(Nat->Prop)->World->Prop}{base n:Nat}{c:Code}{F b d:a8}{h aa h2:T}{e:bW}(l:cZ P C base n c F h .normal b aa)(m:bX P C base n c b aa e d h2):bX P C base n c F h e d h2 :=
 λS aS f ef g φ a w aN j r Q i=>xL (l S aS f ef g φ a w aN j r _ λp bK aZ k o=>m S aS f ef g p bK aZ aN k o Q i)
theorem bX.last{C:(Nat->Prop)->World->Prop}{base n:Nat}{c:Code}{F b:a8}{h aa:T}{e:bW}(he:e≠ .normal)(j:cZ P C base n c F h e b aa):bX P C base n c F h e b aa :=
 λS aS f ef m φ a w aN g r Q d=>xL (j S aS f ef m φ a w aN g r _ λl bK aZ i k=>by
  have:=d l bK aZ i k;cases e with
  |normal=>exact absurd rfl he
  |_=>exact this)
def b5(base n:Nat)(F:a8)(h:T)(d:a8)(aa:T):Prop :=
 ∀(S:Nat->Prop)(aS:World)(b φ:Map)(a:Act)(w:World),(∀i v p,b i v=some p->i<base)->dH b φ base->uH φ S aS n F h a w-> ∃c,dH b c base/\uH c S aS n d aa a w
theorem h8.pre{C:(Nat->Prop)->World->Prop}{base n:Nat}{c:(Exit->Act->World->Prop)->Act->World->Prop}{F G b:a8}{h g ad:T}{e:bW}(k:h8 P C base n c F h e b ad)(i:b5 base n G g F h):h8 P C base n c G g e b ad :=
 λS aS j ef d φ a w aN l r Q f=>by obtain⟨p,m,o⟩:=i S aS d φ a w aN l r;exact k S aS j ef d p a w aN m o Q f
theorem h8.post{C:(Nat->Prop)->World->Prop}{base n:Nat}{f:(Exit->Act->World->Prop)->Act->World->Prop}{F b c:a8}{h ad d:T}{e:bW}(k:h8 P C base n f F h e b ad)(i:b5 base n b ad c d):h8 P C base n f F h e c d :=
 λS aS l ef g φ a w aN m r Q j=>k S aS l ef g φ a w aN m r Q λt bK aZ o q=>by obtain⟨u,p,s⟩:=i S aS g t bK aZ aN o q;exact j u bK aZ p s
def a8.le(G F:a8):Prop:= ∀t v,fh G t=some v->fh F t=some v
theorem a8.nj(F:a8)(l:List Nat):a8.le (nf F l) F:=λ_ _ h=>uA h
theorem b5.facts{base n:Nat}{F G:a8}{h:T}(k:a8.le G F):b5 base n F h G h :=
 λS aS e φ a w aN c ⟨s,az,b,r⟩=>⟨φ,c,s,az,λt v d=>b t v (k t v d),r⟩
theorem CJ:∀(l:List J)(i t:Nat)(v:J),fh (oB i l) t=some v->i<=t/\l[t-i]? =some v
 |[],i,t,v,h=>by cases h
 |a ::r,i,t,v,h=>by
  simp only [oB,gH]at h;split at h
  .rename_i e;subst e;exact⟨Nat.le_refl _,by simpa using h⟩
  .rename_i e;obtain⟨aa,h2⟩:=CJ r (i+1) t v h;refine⟨V,?_⟩;rw [show t-i=(t- (i+1))+1 by omega,hj];exact h2
theorem uI{D:cN}{F:a8}{h:T}{s:List J}(b:Has F s):∀{cW:List ResultVar}{hs:List Hint}{l:List J}{aX:List Prop},jd D F h cW hs=some (l,aX)->a7 aX->g' D cW ⟨s,h⟩=some l
 |[],hs,l,aX,ae,al=>by
  cases hs with
  |nil=>simp only [jd,a6,bo]at ae;obtain⟨rfl,_⟩:=ae;rfl
  |cons a r=>simp [jd]at ae
 |.tmp t::r,hs,l,aX,ae,al=>by
  simp only [jd]at ae;split at ae
  .rename_i v f e c d;simp only [a6,bo]at ae;obtain⟨rfl,rfl⟩:=ae;simp only [g',uI b d al,gf,b t v c];rfl
  .cases ae
 |.cell a t::r,hs,l,aX,ae,al=>by
  have go :∀{hs:List Hint}{l:List J}{aX:List Prop},(match fh F a with
   |some (.ptr (some p)) =>
    match a1 D t p h with
    |some v=>match jd D F h r hs with|some (l,aX)=>some (v::l,aX)|none=>none
    |none=>none
   |_=>none)=some (l,aX)->a7 aX->g' D (.cell a t::r) ⟨s,h⟩=some l:=by
   intro hs l aX ae al;split at ae
   .rename_i p c;split at ae
    .rename_i v g;split at ae
     .rename_i f e d;simp only [a6,bo]at ae;obtain⟨rfl,rfl⟩:=ae;simp only [g',uI b d al,gf,b a _ c,ob,g]
     .cases ae
    .cases ae
   .cases ae
  cases hs with
  |nil=>exact go (hs:=[]) ae al
  |cons q hs =>
   cases q with
   |cell v =>
    simp only [jd]at ae;split at ae
    .rename_i p f e c d;simp only [a6,bo]at ae;obtain⟨rfl,rfl⟩:=ae;have i:a7 e:=λp ae=>al p (by simp [ae])
     simp only [g',uI b d i,gf,b a _ c,ob,al.head]
    .cases ae
   |_=>exact go (hs:=_::hs) ae al
theorem bl.Kv(z:e4 P E){f:FuncId}{fn:Func}{c:Code}(n:P.funcs[f]? =some fn)(m:fn.body=some c){args:List J}{h ad:T}{e:bW}(he:e=.normal\/e=.ret){g:a8}{cW:List Hint}{l:List J}{aX:List Prop}
 (G:cZ P E.cond h.Y (args.length+(fn.ntmps-args.length)) c (oB 0 args) h e g ad) (ae:jd E.D g ad fn.results.toList cW=some (l,aX)) (al:a7 aX) (az:h.Y<=ad.Y):bl P E.cond f args h (jJ l) ad:=by
 intro S aS B y φ w d k H j;refine⟨⟨fn,c,n,m⟩,calls_of_wp n m ?_⟩;have hlen:d.size=args.length:=by have:=j.length;rwa [gh]at this
 have A:Has (oB 0 args) (args++List.replicate (fn.ntmps-args.length) eN):=by intro t u hu;obtain⟨_,h2⟩:=CJ args 0 t u hu;simp only [n8]at h2;obtain⟨F,_⟩:=dT.1 h2;rw [hW F];exact h2
 have r:eI φ S aS ⟨args++List.replicate (fn.ntmps-args.length) eN,h⟩ {tmps:=d++Array.replicate (fn.ntmps-d.size) undef,defers:=[]} w:=by refine⟨?_,k,H,rfl⟩;simp only [lL,Array.toList_replicate,hlen];exact j.append (bc.replicate (aB.eN φ) _)
 refine G S aS B y φ φ _ w (λi v p ae=>(k.cI i v p ae).1) (dH.refl _ _) ⟨_,an,A,r⟩ _ λx bK aZ o ⟨K,I,f1,a⟩=> ?_
 have C:=uI f1 ae al;obtain⟨b,q,s⟩:=Ch z.fM a C;rcases he with rfl|rfl
 .exact⟨a.defers,b,q,b,x,rfl,o,s,a.heap,a.below,az⟩
 .exact⟨a.defers,b,q,b,x,rfl,o,s,a.heap,a.below,az⟩
theorem b5.trans{base n:Nat}{F G K:a8}{h g k:T}(i:b5 base n F h G g)(j:b5 base n G g K k):b5 base n F h K k :=
 λS aS b φ a w aN c r=>by obtain⟨f,d,e⟩:=i S aS b φ a w aN c r;exact j S aS b f a w aN d e
theorem b5.refl(base n:Nat)(F:a8)(h:T):b5 base n F h F h:=λS aS c φ a w aN b r=>⟨φ,b,r⟩
theorem b5.aK{base n:Nat}{F f:a8}{h aa:T}{r:Nat->Nat}(hw:uj r aa h)(m:∀t v,fh f t=some v->t<n/\fh F t=some (v.aK r)/\bQ (In aa) v)
 (aH:∀i,i<base->In h i->In aa i) (b2:∀i,i<base->In aa i->r i=i) (q:∀i,In aa i->r i<base->i<base):b5 base n F h f aa:=by
 intro S aS I φ a w aN g ⟨s,az,y,kw⟩;have E:a.tmps.toList.length=n:=by rw [kw.dA.length];exact az
 refine⟨gC φ r aa,⟨?_,?_,?_⟩,(List.range n).map (λt=>(fh f t).getD .undef),an,?_,⟨?_,kw.heap.gC hw ?_,kw.below,kw.defers⟩⟩
 .intro i v p ae;have ah:=aN i v p ae;have e:=g.le i v p ae;obtain⟨_,b,A,_⟩:=kw.heap.cI i v p e;have d:=aH i ah (by unfold In;rw [A];rfl);rw [lU d,b2 i ah d];exact e
 .intro i ah C u;have:=g.new i ah C;unfold gC;split
  .rename_i d;rw [b2 i ah d];exact this u
  .rfl
 .intro i v p ae k;obtain⟨d,e⟩:=ix ae;have aa:=g.ro _ _ _ e k;have h2:=q i d (aN _ _ _ aa);rw [b2 i h2 d]at aa;exact aa
 .intro t v o;obtain⟨l,_,_⟩:=m t v o;simp [l,o]
 .refine bc.dG (by simp [E]) λt x G c z=> ?_
  have l:t<n:=by have:=(dT.1 c).1;simpa using this
  simp only [fc,tr l,ev,a6]at c;cases j:fh f t with
  |none=>rw [j]at c;simp at c;subst c;simp [aB]
  |some v =>
   rw [j]at c;simp at c;subst c;obtain⟨_,g1,g2⟩:=m t v j;obtain⟨H,aI,aO⟩:=kw.dA.get (y t _ g1);rw [z]at aI;simp at aI;subst aI;exact aB.iv (λi ah v p ae=>by rw [lU ah];exact ae) g2 aO
 .intro i v p ae k;obtain⟨_,e⟩:=ix ae;obtain⟨_,B,_,_,_,_,_,_,D⟩:=kw.heap.cI _ _ _ e;exact D.base k
def loops:Code->List Code
 |.seq a b=>loops a++loops b
 |.cond _ a b=>loops a++loops b
 |.block _ c=>loops c
 |.scope c=>loops c
 |.loop c=>c::loops c
 |_=> []
def Kw(P:Program)(f:FuncId):Code :=
 match P.funcs[f]? with
 |some fn=>match fn.body with|some c=>c|none=> .skip
 |none=> .skip
def Kx(P:Program)(f:FuncId)(k:Nat):Code:=(loops (Kw P f))[k]?.getD .skip
theorem bl.aK{C:(Nat->Prop)->World->Prop}{f:FuncId}{args:List J}{h ad h2:T}{v v2:J}{r:Nat->Nat}(k:bl P C f args h v ad)(hw:uj r h2 ad)(l:v=v2.aK r)(y:bQ (In h2) v2)
 (aH:∀i,i<h.Y->In ad i->In h2 i) (b2:∀i,i<h.Y->In h2 i->r i=i) (o:∀i,In h2 i->r i<h.Y->i<h.Y) (az:h.Y<=h2.Y):bl P C f args h v2 h2:=by
 subst l;intro S aS t s φ w n d D q;obtain⟨g1,g2⟩:=k S aS t s φ w n d D q;refine⟨g1,g2.mono λe aZ ⟨E,F,he,m,l,g,hs,hn'⟩=> ?_⟩;refine⟨E,gC F r h2,he,⟨?_,?_,?_⟩,aB.iv (λi ah v p ae=>by rw [lU ah];exact ae) y l,g.gC hw ?_,hs,az⟩
 .intro i u p ae;have ah:=(d.cI i u p ae).1;have c:=m.le i u p ae;obtain⟨_,b,x,_⟩:=g.cI i u p c;have a:=aH i ah (by unfold In;rw [x];rfl);rw [lU a,b2 i ah a];exact c
 .intro i ah z u;have:=m.new i ah z;unfold gC;split
  .rename_i a;rw [b2 i ah a];exact this u
  .rfl
 .intro i u p ae j;obtain⟨a,c⟩:=ix ae;have aa:=m.ro _ _ _ c j;have h2:=o i a (d.cI _ _ _ aa).1;rw [b2 i h2 a]at aa;exact aa
 .intro i u p ae j;obtain⟨_,c⟩:=ix ae;obtain⟨_,B,_,_,_,_,_,_,A⟩:=g.cI _ _ _ c;exact A.base j
theorem a7.nil:a7 []:=λp ae=>by simp at ae
theorem a7.cons{p:Prop}{l:List Prop}(h:p)(k:a7 l):a7 (p::l):=λq a=>by
 rcases cM.1 a with rfl|a
 .exact h
 .exact k q a
theorem okF{p:Prop}[Decidable p](c:¬p):some (J.bool (decide p))=some (J.bool false):=by rw [gi c]
def ci(v:J):Prop:=(∀r,v.aK r=v)/\bQ (λ_=>False) v
theorem ci.bool(b:Bool):ci (.bool b):=⟨λ_=>rfl,trivial⟩
theorem ci.int(k:IntKind)(n:Int):ci (.int k n):=⟨λ_=>rfl,trivial⟩
theorem ci.str(s:List UInt8):ci (.str s):=⟨λ_=>rfl,trivial⟩
mutual
theorem bQ.mono{D b:Nat->Prop}(h:∀i,D i->b i):∀{v:J},bQ D v->bQ b v
 |.ptr (some a),k=>by simp only [bQ]at k⊢; exact h _ k
 |.slice (some a) _ _,k=>by simp only [bQ]at k⊢; exact h _ k
 |.func _ f c,k=>by simp only [bQ]at k⊢; exact⟨dI.mono h k.1,dI.mono h k.2⟩
 |.iface _ v,k=>by simp only [bQ]at k⊢; exact bQ.mono h k
 |.agg aX,k=>by simp only [bQ]at k⊢; exact dI.mono h k
 |.tuple vs,k=>by simp only [bQ]at k⊢; exact dI.mono h k
 |.undef,_=>by simp [bQ]
 |.bool _,_=>by simp [bQ]
 |.int _ _,_=>by simp [bQ]
 |.str _,_=>by simp [bQ]
 |.ptr none,_=>by simp [bQ]
 |.slice none _ _,_=>by simp [bQ]
 |.nilFunc,_=>by simp [bQ]
 |.nilIface,_=>by simp [bQ]
theorem dI.mono{D b:Nat->Prop}(h:∀i,D i->b i):∀{l:List J},dI D l->dI b l
 |[],_=>by simp [dI]
 |a::l,k=>by simp only [dI]at k⊢; exact⟨bQ.mono h k.1,dI.mono h k.2⟩
end
theorem bl.bare{C:(Nat->Prop)->World->Prop}[hM C]{f:FuncId}{args:List J}{v:J}{ad:T}(k:bl P C f args ⟨0,.nil⟩ v ad)(g:∀a∈args,ci a)(d:ci v)(H:T):bl P C f args H v H:=by
 have h:bl P C f args ⟨0,.nil⟩ v ⟨0,.nil⟩:=by
  refine k.aK (r:=λi=>i) (v2:=v) ⟨?_,?_,?_⟩ (d.1 _).symm (bQ.mono (λi ah=>ah.elim) d.2) ?_ ?_ ?_ (Nat.le_refl _)
  .intro i b c;cases c
  .intro i j ah;cases ah
  .intro i b c;cases c
  .intro i ah;simp at ah
  .intro i ah;simp at ah
  .intro i ah;cases ah
 have e:=h.frame (r:=λi=>H.Y+i) (H:=H) (H':=H) ⟨?_,?_,?_⟩ (rz.2 λa hm=>bQ.mono (λi ah=>ah.elim) (g a hm).2) (λi _=> an) ?_ an (λ_ _ _=>rfl)
 .rw [d.1]at e
  have:args.map (J.aK λi=>H.Y+i)=args:=by
   conv=>rhs;rw [<-List.map_id args]
   exact jF λa hm=>(g a hm).1 _
  rw [this]at e;exact e
 .intro i b c;cases c
 .intro i j ah;cases ah
 .intro i b c;cases c
 .intro i b c;cases c
mutual
def J.je:J->Bool
 |.ptr (some _)=>false
 |.slice (some _) _ _=>false
 |.func _ f c=>J.k6 f&&J.k6 c
 |.iface _ v=>J.je v
 |.agg aX=>J.k6 aX
 |.tuple vs=>J.k6 vs
 |_=>true
def J.k6:List J->Bool
 |[]=>true
 |a::l=>J.je a&&J.k6 l
end
mutual
theorem yc:∀{v:J},v.je=true->(∀r,v.aK r=v)/\bQ (λ_=>False) v
 |.ptr (some a),k=>by simp [J.je]at k
 |.slice (some a) _ _,k=>by simp [J.je]at k
 |.func fn f c,k=>by simp only [J.je,cS]at k;have aa:=rM k.1;have h2:=rM k.2;exact⟨λr=>by simp only [J.aK,aa.1 r,h2.1 r],by simp only [bQ];exact⟨aa.2,h2.2⟩⟩
 |.iface t v,k=>by simp only [J.je]at k;have aa:=yc k;exact⟨λr=>by simp only [J.aK,aa.1 r],by simp only [bQ];exact aa.2⟩
 |.agg aX,k=>by simp only [J.je]at k;have aa:=rM k;exact⟨λr=>by simp only [J.aK,aa.1 r],by simp only [bQ];exact aa.2⟩
 |.tuple vs,k=>by simp only [J.je]at k;have aa:=rM k;exact⟨λr=>by simp only [J.aK,aa.1 r],by simp only [bQ];exact aa.2⟩
 |.undef,_=>⟨λ_=>rfl,by simp [bQ]⟩
 |.bool _,_=>⟨λ_=>rfl,by simp [bQ]⟩
 |.int _ _,_=>⟨λ_=>rfl,by simp [bQ]⟩
 |.str _,_=>⟨λ_=>rfl,by simp [bQ]⟩
 |.ptr none,_=>⟨λ_=>rfl,by simp [bQ]⟩
 |.slice none _ _,_=>⟨λ_=>rfl,by simp [bQ]⟩
 |.nilFunc,_=>⟨λ_=>rfl,by simp [bQ]⟩
 |.nilIface,_=>⟨λ_=>rfl,by simp [bQ]⟩
theorem rM:∀{l:List J},J.k6 l=true->(∀r,J.fD r l=l)/\dI (λ_=>False) l
 |[],_=>⟨λ_=>rfl,by simp [dI]⟩
 |a::l,k=>by simp only [J.k6,cS]at k;have aa:=yc k.1;have h2:=rM k.2;exact⟨λr=>by simp only [J.fD,aa.1 r,h2.1 r],by simp only [dI];exact⟨aa.2,h2.2⟩⟩
end
theorem ci.of{v:J}(h:v.je=true):ci v:=yc h
end
end
noncomputable section
open Go.RowKit
def T.rows(n:Nat)(l:List (Nat×ac)):T:=l.foldl (λh p=>h.set p.1 p.2) ⟨n,.nil⟩
theorem T.Ky(l:List (Nat×ac)):∀(h:T)(i:Nat)(b:ac),(l.foldl (λh p=>h.set p.1 p.2) h).get i=some b->h.get i=some b\/(i,b)∈l:=by
 induction l with
 |nil=>intro h i b k;exact .inl k
 |cons p r ih =>
  intro h i b k;rcases ih _ i b k with k|k
  .rw [T.h4]at k;split at k
   .rename_i e;simp only [a6]at k;exact .inr (by rw [<-e,<-k];exact jG ..)
   .exact .inl k
  .exact .inr (by simp [k])
theorem T.Kz(l:List (Nat×ac)):∀(h:T)(i:Nat),(In h i\/i∈l.map (·.1))->In (l.foldl (λh p=>h.set p.1 p.2) h) i:=by
 induction l with
 |nil=>intro h i k;rcases k with k|k;exact k;simp at k
 |cons p r ih =>
  intro h i k;refine ih _ i ?_;by_cases e:p.1=i
  .left;unfold In;rw [T.h4,aE e];rfl
  .rcases k with k|k
   .left;unfold In;rw [T.h4,ap e];exact k
   .simp only [eF,cM]at k;rcases k with k|k
    .exact absurd k.symm e
    .exact .inr k
theorem T.KA(l:List (Nat×ac)):∀(h:T),(l.foldl (λh p=>h.set p.1 p.2) h).Y=h.Y:=by
 induction l with
 |nil=>intro h;rfl
 |cons p r ih=>intro h;rw [hB,ih];rfl
@[simp] theorem T.uJ(n:Nat)(l:List (Nat × ac)) : (T.rows n l).Y = n := T.KA _ _
theorem T.oD{n:Nat}{l:List (Nat×ac)}{i:Nat}{b:ac}(h:(T.rows n l).get i=some b):(i,b)∈l:=by
 rcases T.Ky l _ i b h with k|k
 .cases k
 .exact k
theorem T.pV{n:Nat}{l:List (Nat×ac)}{i:Nat}(h:i∈l.map (·.1)):In (T.rows n l) i:=T.Kz l _ i (.inr h)
theorem T.pW{n:Nat}{l:List (Nat×ac)}{i:Nat}(h:In (T.rows n l) i):i∈l.map (·.1):=by obtain⟨b,a⟩:=tq.1 h;exact dz.2 ⟨_,T.oD a,rfl⟩
mutual
theorem J.pX:∀(v:J),v.aK (λi=>i)=v
 |.ptr (some a)=>rfl
 |.slice (some a) _ _=>rfl
 |.func fn f c=>by simp only [J.aK,J.uK]
 |.iface t v=>by simp only [J.aK,J.pX v]
 |.agg aX=>by simp only [J.aK,J.uK]
 |.tuple vs=>by simp only [J.aK,J.uK]
 |.undef=>rfl
 |.bool _=>rfl
 |.int _ _=>rfl
 |.str _=>rfl
 |.ptr none=>rfl
 |.slice none _ _=>rfl
 |.nilFunc=>rfl
 |.nilIface=>rfl
theorem J.uK:∀(l:List J),J.fD (λi=>i) l=l
 |[]=>rfl
 |a::l=>by simp only [J.fD,J.pX a,J.uK l]
end
theorem ac.pX(b:ac):b.aK (λi=>i)=b:=by
 unfold ac.aK
 have:b.aQ.map (J.aK λi=>i)=b.aQ:=by
  conv=>rhs;rw [<-List.map_id b.aQ]
  exact jF λe he=>J.pX e
 rw [this]
def cj(b:ac):Prop:= ∀e∈b.aQ,ci e
theorem cj.aK{b:ac}(h:cj b)(r:Nat->Nat):b.aK r=b:=by
 unfold ac.aK
 have:b.aQ.map (J.aK r)=b.aQ:=by
  conv=>rhs;rw [<-List.map_id b.aQ]
  exact jF λe he=>(h e he).1 r
 rw [this]
theorem cj.dh{b:ac}(h:cj b)(D:Nat->Prop):∀e∈b.aQ,bQ D e:=λe he=>bQ.mono (λ_ k=>k.elim) (h e he).2
theorem ci.ints{α:Type}(l:List α)(k:IntKind)(f:α->Int):∀e∈l.map (λx=>J.int k (f x)),ci e:=by intro e he;obtain⟨x,_,rfl⟩:=dz.1 he;exact ci.int k _
theorem ci.dh{v:J}(h:ci v)(D:Nat->Prop):bQ D v:=bQ.mono (λ_ k=>k.elim) h.2
def bO(l:List Nat):Nat->Prop:=λi=>i∈l
theorem b5.drop{base n:Nat}{F:a8}{h:T}{K:Nat}{l:List (Nat×ac)}(q:l.map (λp=>h.get p.1)=l.map (λp=>some p.2))(g:l.all (λp=>Nat.blt p.1 K)=true)
 (m:(List.range base).all (λi=>(l.map (·.1)).contains i)=true) (az:F.all (λp=>Nat.blt p.1 n)=true) (c:a7 (F.map λp=>bQ (bO (l.map (·.1))) p.2))
 (al:a7 (l.map λp=> ∀e∈p.2.aQ,bQ (bO (l.map (·.1))) e)):b5 base n F h F (T.rows K l):=by
 have d:∀i b,(T.rows K l).get i=some b->i<K/\h.get i=some b:=by intro i b k;have hm:=T.oD k;refine⟨eH.mp (dV.1 g _ hm),?_⟩;obtain⟨j,o,e⟩:=lK.1 hm;have aa:=dW (fun(x:List (Option ac))=>x[j]?) q;simp only [fc,c7 o,ev,e,a6]at aa;exact aa
 have f:∀{v:J},bQ (bO (l.map (·.1))) v->bQ (In (T.rows K l)) v:=bQ.mono λi ah=>T.pV ah
 refine b5.aK (r:=λi=>i) ⟨λi b k=>⟨by rw [T.uJ];exact(d i b k).1,by rw [ac.pX];exact(d i b k).2⟩,λi j _ _ e=>e,?_⟩ ?_ ?_ ?_ ?_
 .intro i b k e he;have hm:=T.oD k;exact f (al _ (dz.2 ⟨_,hm,rfl⟩) e he)
 .intro t v a
  have hm:(t,v)∈F:=by
   clear az c
   induction F with
   |nil=>cases a
   |cons p r ih =>
    obtain⟨k,u⟩:=p;rw [gH]at a;split at a
    .rename_i e;simp only [a6]at a;subst e;subst a;simp
    .exact iR _ (ih a)
  exact⟨eH.mp (dV.1 az _ hm),by rw [J.pX];exact a,f (c _ (dz.2 ⟨_,hm,rfl⟩))⟩
 .intro i ah _;exact T.pV (by simpa using dV.1 m i (dX.2 ah))
 .intro i _ _;rfl
 .intro i _ k;exact k
theorem bl.KB{P:Program}{C:(Nat->Prop)->World->Prop}[hM C]{f:FuncId}{args:List J}{h ad:T}{v:J}(k:bl P C f args h v ad)(r:Nat->Nat)(v2:J)(K:Nat)(l:List (Nat×ac))
 (s:l.map (λp=>ad.get (r p.1))=l.map (λp=>some (p.2.aK r))) (w:v=v2.aK r) (n:l.all (λp=>Nat.blt p.1 K)=true) (u:((l.map (·.1)).map r).Nodup)
 (d:(List.range h.Y).all (λi=>(l.map (·.1)).contains i&&Nat.beq (r i) i)=true) (t:l.all (λp=>Nat.blt p.1 h.Y || Nat.ble h.Y (r p.1))=true) (az:Nat.ble h.Y K=true)
 (y:bQ (bO (l.map (·.1))) v2) (al:a7 (l.map λp=> ∀e∈p.2.aQ,bQ (bO (l.map (·.1))) e)):bl P C f args h v2 (T.rows K l):=by
 have g:∀i b,(T.rows K l).get i=some b->i<K/\ad.get (r i)=some (b.aK r):=by intro i b k;have hm:=T.oD k;refine⟨eH.mp (dV.1 n _ hm),?_⟩;obtain⟨j,c,e⟩:=lK.1 hm;have aa:=dW (fun(x:List (Option ac))=>x[j]?) s;simp only [fc,c7 c,ev,e,a6]at aa;exact aa
 have m:∀{v:J},bQ (bO (l.map (·.1))) v->bQ (In (T.rows K l)) v:=bQ.mono λi ah=>T.pV ah
 refine k.aK (r:=r) ⟨λi b k=>⟨by rw [T.uJ];exact(g i b k).1,(g i b k).2⟩,?_,?_⟩ w (m y) ?_ ?_ ?_ (by rw [T.uJ];exact hC az)
 .intro i j ah c e;have ah:=T.pW ah;have c:=T.pW c;obtain⟨a,o,rfl⟩:=lK.1 ah;obtain⟨b,q,rfl⟩:=lK.1 c;have aa:((l.map (·.1)).map r)[a]'(by simpa using o)=((l.map (·.1)).map r)[b]'(by simpa using q):=by simpa using e
  have:=(q0 u).1 aa;subst this;rfl
 .intro i b k e he;have hm:=T.oD k;exact m (al _ (dz.2 ⟨_,hm,rfl⟩) e he)
 .intro i ah _;have:=dV.1 d i (dX.2 ah);simp only [cS]at this;exact T.pV (by simpa using this.1)
 .intro i ah _;have:=dV.1 d i (dX.2 ah);simp only [cS]at this;exact ij this.2
 .intro i ah z;have ah:=T.pW ah;obtain⟨p,hm,rfl⟩:=dz.1 ah;have:=dV.1 t p hm;simp only [fI]at this;rcases this with aa|aa
  .exact eH.mp aa
  .have:=hC aa;omega
def T.k7:Nat->List ac->T->T
 |_,[],h=>h
 |i,b::r,h=>T.k7 (i+1) r (h.set i b)
def T.of(l:List ac):T:=T.k7 0 l ⟨l.length,.nil⟩
theorem T.uL:∀(l:List ac)(i:Nat)(h:T)(j:Nat),(T.k7 i l h).get j=if i<=j/\j<i+l.length then l[j-i]? else h.get j
 |[],i,h,j=>by simp only [T.k7,dx];rw [ap V]
 |b ::r,i,h,j=>by
  simp only [T.k7,T.uL r,b',T.h4];by_cases e:i=j
  .subst e;rw [ap V,aE rfl,aE V];simp
  .by_cases c:i+1<=j/\j<i+1+r.length
   .rw [aE c,aE V,show j-i=(j- (i+1))+1 by omega];simp
   .rw [ap c,ap e,ap V]
theorem T.yd:∀(l:List ac)(i:Nat)(h:T),(T.k7 i l h).Y=h.Y
 |[],i,h=>rfl
 |b::r,i,h=>by simp only [T.k7,T.yd r];rfl
@[simp] theorem T.of_next(l:List ac) : (T.of l).Y = l.length := T.yd _ _ _
theorem T.dG(l:List ac)(j:Nat):(T.of l).get j=l[j]? :=by
 unfold T.of;rw [T.uL];split
 .simp
 .rw [hV V];rfl
theorem T.pY{l:List ac}{j:Nat} :In (T.of l) j↔j<l.length:=by unfold In;rw [T.dG];simp
def cK(ids:List Nat)(n i:Nat):Nat :=
 match ids[i]? with
 |some j=>j
 |none=>n+(i-ids.length)
def T.jf:List Nat->List ac->T->T
 |j::ids,b::r,h=>T.jf ids r (h.set j b)
 |[],r,h=>T.k7 h.Y r {h with Y:=h.Y+r.length}
 |_::_,[],h=>h
def T.dO(h:T)(ids:List Nat)(l:List ac):T:=T.jf ids l h
theorem T.ye:∀(ids:List Nat)(l:List ac)(h:T),ids.length<=l.length->(T.jf ids l h).Y=h.Y+(l.length-ids.length)
 |[],l,h,_=>by simp [T.jf,T.yd]
 |j::ids,[],h,k=>by simp at k
 |j::ids,b::r,h,k=>by simp only [T.jf];rw [T.ye ids r _ (by simpa using k)];simp
theorem T.rN:∀(ids:List Nat)(l:List ac)(h:T)(j:Nat),ids.length<=l.length->j<h.Y->j ∉ ids->(T.jf ids l h).get j=h.get j
 |[],l,h,j,_,a,_=>by simp only [T.jf];rw [T.uL,ap V];rfl
 |i::ids,[],h,j,k,_,_=>by simp at k
 |i::ids,b::r,h,j,k,a,hm=>by simp only [cM,eR]at hm;simp only [T.jf];rw [T.rN ids r (h.set i b) j (by simpa using k) a hm.2,T.eO _ _ (ki hm.1)]
theorem T.yf:∀(ids:List Nat)(l:List ac)(h:T)(i:Nat),ids.length<=l.length->ids.Nodup->(∀j∈ids,j<h.Y)->i<l.length->(T.jf ids l h).get (cK ids h.Y i)=l[i]?
 |[],l,h,i,_,_,_,ah=>by simp only [T.jf,cK,List.getElem?_nil,dx,n8];rw [T.uL,aE V];congr 1;omega
 |j::ids,[],h,i,k,_,_,_=>by simp at k
 |j ::ids,b::r,h,i,k,a,c,ah=>by
  simp only [pr]at a;simp only [T.jf];cases i with
  |zero =>
   simp only [cK,fe];rw [T.rN ids r (h.set j b) j (by simpa using k) (c j an) a.1,T.eT]
  |succ i =>
   have e:cK (j::ids) h.Y (i+1)=cK ids (h.set j b).Y i:=by
    simp only [cK,hj,b',T.IQ];cases ids[i]? with
    |some x=>rfl
    |none=>simp only;omega
   rw [e,T.yf ids r (h.set j b) i (by simpa using k) a.2 (λx d=>c x (by simp [d])) (by simpa using ah)];simp
theorem bl.up{P:Program}{C:(Nat->Prop)->World->Prop}[hM C]{f:FuncId}{args:List J}{v:J}{l a:List ac}(k:bl P C f args (T.of l) v (T.of a))(g:∀b∈l,cj b)(o:∀b∈a,cj b)(t:l.length<=a.length)(m:dI (λi=>i<l.length) args)
 {H H':T} (ids:List Nat) (az:ids.Nodup) (u:∀j∈ids,j<H.Y) (h:ids.map H.get=l.map some) (q:H'.Y=H.Y+(a.length-l.length)) (n:∀i,i<a.length->H'.get (cK ids H.Y i)=a[i]?)
 (s:∀j,j<H.Y->j ∉ ids->H'.get j=H.get j):bl P C f (args.map (J.aK (cK ids H.Y))) H (v.aK (cK ids H.Y)) H':=by
 have hlen:ids.length=l.length:=by have:=dW List.length h;simpa using this
 have c:∀i (ah:i<ids.length),cK ids H.Y i=ids[i]:=λi ah=>by simp [cK,c7 ah]
 refine k.frame (r:=cK ids H.Y) ⟨?_,?_,?_⟩ ?_ ?_ ?_ ?_ ?_
 .intro i b ag;rw [T.dG]at ag;have ah:=(dT.1 ag).1;refine⟨by rw [T.of_next];exact ah,?_⟩;rw [(g b (fR ag)).aK,c i V];have aa:=dW (fun(x:List (Option ac))=>x[i]?) h;simp only [fc,c7 (show i<ids.length by omega),ev,ag,a6]at aa;exact aa
 .intro i j ah d e;rw [T.pY]at ah d;rw [c i V,c j V]at e;exact(q0 az).1 e
 .intro i b ag e he;rw [T.dG]at ag;exact(g b (fR ag) e he).dh _
 .exact dI.mono (λi ah=>T.pY.2 ah) m
 .intro i ah;rw [T.of_next]at ah;simp only [cK,hV (show ids.length<=i by omega),T.of_next,hlen]
 .intro i b ag _;rw [T.dG]at ag;rw [(o b (fR ag)).aK,n i (dT.1 ag).1,ag]
 .rw [q];simp
 .intro j d p;refine s j d λhm=> ?_
  obtain⟨i,ah,e⟩:=lK.1 hm;exact p i (T.pY.2 V) (by rw [c i ah];exact e)
theorem bl.KC{P:Program}{C:(Nat->Prop)->World->Prop}[hM C]{f:FuncId}{args:List J}{v:J}{l:List ac}(k:bl P C f args (T.of l) v (T.of l))(c:∀b∈l,cj b)(d:dI (λi=>i<l.length) args)
 {H:T} (ids:List Nat) (az:ids.Nodup) (e:∀j∈ids,j<H.Y) (a:ids.map H.get=l.map some):bl P C f (args.map (J.aK (cK ids H.Y))) H (v.aK (cK ids H.Y)) H:=by
 have hlen:ids.length=l.length:=by have:=dW List.length a;simpa using this
 refine k.up c c (Nat.le_refl _) d ids az e a an (λi ah=> ?_) λ_ _ _=>rfl
 have aa:=dW (fun(x:List (Option ac))=>x[i]?) a;simp only [fc,c7 (show i<ids.length by omega),c7 ah,ev,a6]at aa;simp only [cK,c7 (show i<ids.length by omega),aa,c7 ah]
theorem bl.KD{P:Program}{C:(Nat->Prop)->World->Prop}[hM C]{f:FuncId}{args:List J}{v:J}{l a:List ac}(k:bl P C f args (T.of l) v (T.of a))(g:∀b∈l,cj b)(h:∀b∈a,cj b)(n:l.length<=a.length)(e:dI (λi=>i<l.length) args)
 {H:T} (ids:List Nat) (az:ids.Nodup) (d:∀j∈ids,j<H.Y) (c:ids.map H.get=l.map some):bl P C f (args.map (J.aK (cK ids H.Y))) H (v.aK (cK ids H.Y)) (H.dO ids a):=by
 have hlen:ids.length=l.length:=by have:=dW List.length c;simpa using this
 refine k.up g h n e ids az d c ?_ ?_ ?_
 .rw [<-hlen];exact T.ye ids a H V
 .intro i ah;exact T.yf ids a H i V az d ah
 .intro j m hm;exact T.rN ids a H j V m hm
theorem bl.yg{P:Program}{C:(Nat->Prop)->World->Prop}[hM C]{f:FuncId}{args:List J}{v:J}{l l2:List ac}(k:bl P C f args (T.of l) v (T.of (l++l2)))(d:∀b∈l,cj b)(m:∀b∈l2,cj b)(h:dI (λi=>i<l.length) args)
 {H:T} (ids:List Nat) (az:ids.Nodup) (g:∀j∈ids,j<H.Y) (a:ids.map H.get=l.map some):bl P C f (args.map (J.aK (cK ids H.Y))) H (v.aK (cK ids H.Y)) (H.dO [] l2):=by
 have hlen:ids.length=l.length:=by have:=dW List.length a;simpa using this
 refine k.up d (λb hm=>(eG.1 hm).elim (d b) (m b)) an h ids az g a ?_ ?_ ?_
 .show(T.jf [] l2 H).Y=_;rw [T.ye [] l2 H an];simp
 .intro i ah;show(T.jf [] l2 H).get _=_;by_cases c:i<ids.length
  .have aa:=dW (fun(x:List (Option ac))=>x[i]?) a;simp only [fc,c7 c,c7 (show i<l.length by omega),ev,a6]at aa;simp only [cK,c7 c];rw [T.rN [] l2 H _ an (g _ (gw c)) an,aa,hW V,c7 (show i<l.length by omega)]
  .have e:cK ids H.Y i=cK [] H.Y (i-ids.length):=by simp [cK,hV (show ids.length<=i by omega)]
   rw [dt]at ah;rw [e,T.yf [] l2 H (i-ids.length) an an an V,hX V,hlen]
 .intro j n hm;exact T.rN [] l2 H j an n an
def hF:Nat->List ac->List (Nat×ac)
 |_,[]=> []
 |i,b::r=>(i,b)::hF (i+1) r
theorem T.CK:∀(l:List ac)(i:Nat)(h:T),T.k7 i l h=(hF i l).foldl (λh p=>h.set p.1 p.2) h
 |[],i,h=>rfl
 |b::r,i,h=>by simp only [T.k7,hF,hB];exact T.CK r _ _
theorem T.yh(l:List ac):T.of l=T.rows l.length (hF 0 l):=T.CK _ _ _
theorem CL:∀(l:List ac)(i:Nat),(hF i l).map (·.1)=List.range' i l.length
 |[],i=>rfl
 |b::r,i=>by simp only [hF,eF,CL r,b',qW]
theorem yi:∀(l:List ac)(i:Nat),(hF i l).map (·.2)=l
 |[],i=>rfl
 |b::r,i=>by simp only [hF,eF,yi r]
theorem List.Nodup.KE{f:Nat->Nat}{n:Nat}(h:∀a∈List.range n,∀b∈List.range n,f a=f b->a=b):((List.range n).map f).Nodup:=by rw [q1,List.pairwise_map];refine List.Pairwise.imp_of_mem ?_ (tz (n:=n));intro a b c d g e;exact g (h a c b d e)
def eV(k:Nat)(a:List Nat)(i:Nat):Nat:=if i<k then i else(a[i-k]?).getD 0
theorem bl.fin{P:Program}{C:(Nat->Prop)->World->Prop}[hM C]{f:FuncId}{args:List J}{ad:T}{v:J}{l:List ac}(k:bl P C f args (T.of l) v ad)(g:List Nat)(d:List ac)(v2:J)(w:∀b∈d,cj b)
 (hlen:d.length=l.length+g.length) (y:(List.range d.length).map (λi=>ad.get (eV l.length g i))=d.map some) (F:v=v2.aK (eV l.length g)) (G:bQ (λi=>i<d.length) v2)
 (A:g.all (λj=>Nat.ble l.length j)=true) (D:g.Nodup):bl P C f args (T.of l) v2 (T.of d):=by
 have o:(hF 0 d).map (·.1)=List.range d.length:=by rw [CL,qX]
 have u:∀j∈g,l.length<=j:=λj z=>hC (dV.1 A j z)
 have r:∀i,l.length<=i->i<d.length-> ∃(h:i-l.length<g.length),eV l.length g i=g[i-l.length]:=by intro i aa h2;have m:i-l.length<g.length:= V;exact⟨m,by simp only [eV,ap (show ¬i<l.length by omega),c7 m,ob]⟩
 rw [T.yh d];refine k.KB (eV l.length g) v2 d.length (hF 0 d) ?_ F ?_ ?_ ?_ ?_ (Nat.ble_eq.mpr ?_) ?_ ?_
 .have aa:(hF 0 d).map (λp=>ad.get (eV l.length g p.1))=((hF 0 d).map (·.1)).map (λi=>ad.get (eV l.length g i)):=by rw [n9];rfl
  have h2:(hF 0 d).map (λp=>some (p.2.aK (eV l.length g)))=((hF 0 d).map (·.2)).map (λb=>some (b.aK (eV l.length g))):=by rw [n9];rfl
  rw [aa,h2,o,yi,y];exact jF λb hm=>by rw [(w b hm).aK]
 .rw [dV];intro p ae;have:p.1∈(hF 0 d).map (·.1):=dz.2 ⟨p,ae,rfl⟩;rw [o]at this;exact eH.mpr (dX.1 this)
 .rw [o];refine List.Nodup.KE ?_;intro a s b t e;have s:=dX.1 s;have t:=dX.1 t;by_cases cs:a<l.length<;>by_cases c2:b<l.length
  .simpa [eV,cs,c2]using e
  .obtain⟨m,n⟩:=r b V t;rw [n,show eV l.length g a=a by simp [eV,cs]]at e;have:=u _ (gw m);omega
  .obtain⟨m,n⟩:=r a V s;rw [n,show eV l.length g b=b by simp [eV,c2]]at e;have:=u _ (gw m);omega
  .obtain⟨m,n⟩:=r a V s;obtain⟨H,x⟩:=r b V t;rw [n,x]at e;have:=(q0 D).1 e;omega
 .rw [dV,T.of_next];intro i ah;have ah:=dX.1 ah;rw [o,cS];exact⟨by simp;omega,beq_true (by simp [eV,ah])⟩
 .rw [dV,T.of_next];intro p ae;have:p.1∈(hF 0 d).map (·.1):=dz.2 ⟨p,ae,rfl⟩;rw [o]at this;have B:=dX.1 this;rw [fI];by_cases c:p.1<l.length
  .exact .inl (eH.mpr c)
  .obtain⟨m,n⟩:=r p.1 V B;exact .inr (Nat.ble_eq.mpr (by rw [n];exact u _ (gw m)))
 .rw [T.of_next];omega
 .rw [o];exact bQ.mono (λi ah=>dX.2 ah) G
 .intro p ae;obtain⟨q,E,rfl⟩:=dz.1 ae;intro e he;exact(w q.2 (by have:q.2∈(hF 0 d).map (·.2):=dz.2 ⟨q,E,rfl⟩;rwa [yi]at this) e he).dh _
theorem bl.pure{P:Program}{C:(Nat->Prop)->World->Prop}[hM C]{f:FuncId}{args:List J}{ad:T}{v:J}{l:List ac}(k:bl P C f args (T.of l) v ad)(c:∀b∈l,cj b)(e:(List.range l.length).map ad.get=l.map some)(a:ci v)
 (d:dI (λi=>i<l.length) args) {H:T} (ids:List Nat) (az:ids.Nodup) (h:∀j∈ids,j<H.Y) (g:ids.map H.get=l.map some):bl P C f (args.map (J.aK (cK ids H.Y))) H v H:=by
 have m:=k.fin [] l v c an (by
  rw [<-e]
  exact jF λi ah=>by rw [show eV l.length [] i=i by simp [eV,dX.1 ah]]) (a.1 _).symm (a.dh _) rfl an
 have n:=m.KC c d ids az h g
 rwa [a.1]at n
theorem bl.yj{P:Program}{C:(Nat->Prop)->World->Prop}[hM C]{f:FuncId}{args:List J}{ad:T}{j es n c ab:Nat}{l:List ac}{bn:ac}(k:bl P C f args (T.of l) (.slice (some ⟨j,ab,0,0,es⟩) n c) ad)(a:∀b∈l,cj b)(d:cj bn)
 (o:(List.range l.length).map ad.get=l.map some) (r:ad.get j=some bn) (p:l.length<=j) (m:dI (λi=>i<l.length) args) {H:T} (ids:List Nat) (az:ids.Nodup) (q:∀j∈ids,j<H.Y) (g:ids.map H.get=l.map some) :
 bl P C f (args.map (J.aK (cK ids H.Y))) H (.slice (some ⟨H.Y,ab,0,0,es⟩) n c) (H.dO [] [bn]):=by
 have hlen:ids.length=l.length:=by have:=dW List.length g;simpa using this
 have s:=k.fin [j] (l++[bn]) (.slice (some ⟨l.length,ab,0,0,es⟩) n c) (λb hm=>(eG.1 hm).elim (a b) (λh=>by rw [cC.1 h];exact d)) an (by
  rw [dt,hk,List.range_succ,kj,kj]
  congr 1
  .rw [<-o];exact jF λi ah=>by rw [show eV l.length [j] i=i by simp [eV,dX.1 ah]]
  .simp [eV,r]) (by simp [J.aK,aT.aK,eV]) (by simp [bQ]) (by simp [p]) an
 have t:=s.yg a (λb hm=>by rw [cC.1 hm];exact d) m ids az q g
 have e:(J.slice (some ⟨l.length,ab,0,0,es⟩) n c).aK (cK ids H.Y)=.slice (some ⟨H.Y,ab,0,0,es⟩) n c:=by simp only [J.aK,aT.aK,cK,hV (show ids.length<=l.length by omega),hlen,oc,lI]
 rwa [e]at t
theorem cg.more{φ:Map}{S:Nat->Prop}{h h2:T}{w:World}(r:cg φ S h w)(az:h.Y<=h2.Y)(ag:∀i,i<h.Y->h2.get i=h.get i):cg φ S h2 w where
 cI i v p ae:=by obtain⟨aa,b,a,c⟩:=r.cI i v p ae;exact⟨iN aa az,b,by rw [ag i aa];exact a,c⟩
 apart:=r.apart
 same:=r.same
theorem bl.pad{P:Program}{C:(Nat->Prop)->World->Prop}[hM C]{f:FuncId}{args:List J}{h ad h2:T}{v:J}(k:bl P C f args h v ad)(az:ad.Y<=h2.Y)(ag:∀i,i<ad.Y->h2.get i=ad.get i):bl P C f args h v h2 :=
 λS aS l g φ w b j d c=>by obtain⟨g1,g2⟩:=k S aS l g φ w b j d c;exact⟨g1,g2.mono λe aZ ⟨m,n,ao,a2,a3,a4,a5,a⟩=>⟨m,n,ao,a2,a3,a4.more az ag,a5,Nat.le_trans a az⟩⟩
def lY(o:Option aT)(n c id ab off es:Nat):Prop:=o=some ⟨id,ab,off,0,es⟩\/(o=none/\n=0/\c=0)
theorem lY.index{o:Option aT}{n c id ab off es:Nat}(h:lY o n c id ab off es){D:cN}{t e:TypeId}{d b9:mN}(a:D t=some d)(f:d.kind=.slice e)(g:D e=some b9)(b:es=b9.size){k:IntKind}{i:Int}(aN:0<=i)(ah:i<n) :
 dL D t (.slice o n c) (.int k i)=some (.ptr (some ⟨id,ab,off+i.toNat,0,es⟩)):=by
 rcases h with rfl|⟨_,rfl,_⟩
 .simp only [dL,a,f,g];rw [aE ⟨aN,ah,b,trivial⟩]
 .omega
structure nk(D:cN)(t e:TypeId)(sz jO:Nat):Prop where
 ty:∃d b9,D t=some d/\d.kind=.slice e/\D e=some b9/\b9.size=sz/\b9.bytes=jO/\0<sz/\b9.mQ=true
section
variable {E:a'}{t e:TypeId}{sz jO nid:Nat}{h:T}{x:J}{new:List J}
theorem yk(hs:nk E.D t e sz jO)(s:J):eB E .append #[t,t] [s,x] nid h=gz E.D t s x nid h:=by obtain⟨d,b9,aa,h2,a,rfl,rfl,b,c⟩:=hs.ty;simp only [eB,List.getElem?_toArray,fe,hj,aa,h2]
theorem KF(hs:nk E.D t e sz jO)(k:dF sz x h=some new)(j:new≠[])(g:(new.length+new.length/4+512)*jO<=2^48)(i:new.length<2^62) :
 eB E .append #[t,t] [.slice none 0 0,x] nid h=some (h5 nid sz new.length new.length,h.set nid (.aj new sz false (some (e,0)))):=by
 rw [yk hs];obtain⟨d,b9,aa,h2,a,rfl,rfl,b,f⟩:=hs.ty;have az:¬0+new.length=0:=by rw [eM];intro c;exact j (mI c)
 simp only [gz,aa,h2,a,k];rw [aE ⟨b,by simpa using g,by simpa using i,f⟩];rw [ap az,aE ⟨trivial,trivial⟩,eM]
theorem CM(hs:nk E.D t e sz jO)(s:dF sz x h=some new)(r:new≠[]){a:aT}{len cap:Nat}{b:ac}(n:((len+new.length)+(len+new.length)/4+512)*jO<=2^48)(q:len+new.length<2^62)
 (ag:h.get a.id=some b) (p:a.es=sz/\a.fld=0) (o:¬len+new.length<=cap) (j:b.exact=false) (k:b.ro=false) (l:a.ab=b.ab) (m:a.idx+len=b.aQ.length) (c:b.ty=none\/b.ty=some (e,0)) :
 eB E .append #[t,t] [.slice (some a) len cap,x] nid h=some (.slice (some {a with ab:=a.ab+1}) (len+new.length) (len+new.length),h.set a.id (b.grow new)):=by
 rw [yk hs];obtain⟨d,b9,aa,h2,f,rfl,rfl,g,i⟩:=hs.ty;simp only [gz,aa,h2,f,s];rw [aE ⟨g,n,q,i⟩];rw [aE p];simp only [ag];rw [ap o,ap (by rw [j];simp),aE ⟨k,l,m,r,c⟩]
theorem CN(hs:nk E.D t e sz jO)(l:dF sz x h=some []){o:Option aT}{len cap:Nat}{b:ac}(i:(len+len/4+512)*jO<=2^48)(k:len<2^62)
 (ag:∀a,o=some a->h.get a.id=some b/\a.es=sz/\a.fld=0) (j:len<=cap) (az:o=none->len=0):eB E .append #[t,t] [.slice o len cap,x] nid h=some (.slice o len cap,h):=by
 rw [yk hs];obtain⟨d,b9,aa,h2,c,rfl,rfl,f,g⟩:=hs.ty;simp only [gz,aa,h2,c,l];rw [aE ⟨f,by simpa using i,by simpa using k,g⟩];cases o with
 |none=>have:=az rfl;subst this;simp
 |some a =>
  obtain⟨m,n⟩:=ag a rfl;simp only;rw [aE n];simp only [m];rw [aE (by simpa using j),aE trivial];simp
end
theorem KG{h:T}{o:Option aT}{n c id ab off sz:Nat}(hs:lY o n c id ab off sz){b:ac}(ag:h.get id=some b){f:Nat->J}(e:∀j,j<n->b.elem? ab (off+j)=some (f j)) :
 dF sz (.slice o n c) h=some ((List.range n).map f):=by
 rcases hs with rfl|⟨rfl,rfl,rfl⟩
 .simp only [dF,dy,ag];by_cases az:n=0
  .subst az;simp
  .rw [ap az]
   have key:∀j,j<n->off+j<b.b0 ab/\b.aQ[off+j]? =some (f j):=by
    intro j a;have:=e j a;unfold ac.elem? at this;split at this
    .exact⟨‹_›,this⟩
    .cases this
   have d:=key (n-1) V;have hlen:=(dT.1 d.2).1;rw [aE ⟨V,V⟩]
   congr 1
   apply pn;intro j;by_cases a:j<n
   .rw [lH,aE a,n7,(key j a).2];simp [a]
   .rw [lH,ap a,hV (by simp;omega)]
 .simp [dF]
theorem bX.round{P:Program}{C:(Nat->Prop)->World->Prop}{base n:Nat}{c:Code}{F a b:a8}{h aa d h2:T}{e:bW}(f:cZ P C base n c F h .normal a aa)(i:b5 base n a aa a d)(g:bX P C base n c a d e b h2):bX P C base n c F h e b h2 :=
 bX.step (f.post i) g
end
end Go.bh
namespace Go.Proofs.YtddnafghiejcoaaGreatDoor
open Go.bh Go.Shelf
set_option maxRecDepth 1000000
def CO:Ren where
 f:=λx=>if x=129 then 136 else if x=284 then 120 else if x=317 then 135 else if x=318 then 137 else 0
 t:=λx=>if x=0 then 0 else if x=3 then 3 else if x=4 then 4 else if x=5 then 5 else if x=9 then 9 else if x=46 then 108 else if x=53 then 151 else if x=212 then 179 else 0
 g:=λx=>if x=17 then 5 else 0
theorem KH:Lays.n284 Tryz.prog CO:=by constructor;all_goals first|kernel_rfl|(intro w;kernel_rfl)
theorem KI:LaysM.n284 Tryz.prog CO:=by constructor;all_goals first|exact KH|kernel_rfl
end Go.Proofs.YtddnafghiejcoaaGreatDoor
namespace Go.Proofs.YtddnafghiejcoaaGreatDoor
open Go.bh
set_option maxRecDepth 1000000
structure ck(aM:Nat->Prop)(w:World):Prop where
 p:aM 5
 pow:Lib.TabIs Tryz.prog w "internal/strconv.uint64pow10" .u64 Lib.pow10Tab
 q:aM 0
 uM:Lib.TabIs Tryz.prog w "strings.asciiSpace" .u8 Lib.asciiSpaceTab
 s:aM 3
 CP:∃jg pe,w.cell? ⟨3,0,none⟩=some (.iface jg pe)
 r:aM 4
 CQ:∃jg pe,w.cell? ⟨4,0,none⟩=some (.iface jg pe)
 x:aM 2
 mx:∃m,w.cell? ⟨2,0,none⟩=some (.int .i64 m)
theorem yl:Tryz.prog.globalNamed "internal/strconv.uint64pow10" =some 5:= ar
theorem ym:Tryz.prog.globalNamed "strings.asciiSpace" =some 0:= ar
theorem CR{w aZ:World}{n:String}{g:Nat}{k:IntKind}{t:List Int}(ag:Tryz.prog.globalNamed n=some g)(a:aZ.heap[g]? =w.heap[g]?)(h:Lib.TabIs Tryz.prog w n k t):Lib.TabIs Tryz.prog aZ n k t:=by unfold Lib.TabIs World.var? at h⊢;rw [ag]at h⊢;simp only [pq]at h⊢;rw [a];exact h
theorem ck.keep{aM rA:Nat->Prop}{aS w:World}(h:ck aM aS)(hs:Go.bh.Safe aM aS w)(az:∀x,aM x->rA x):ck rA w where
 p:=az _ h.p
 pow:=CR yl (hs.block _ h.p) h.pow
 q:=az _ h.q
 uM:=CR ym (hs.block _ h.q) h.uM
 s:=az _ h.s
 CP:=by obtain⟨jg,a,e⟩:=h.CP;exact⟨jg,a,by rw [World.cell?_of_block (hs.block _ h.s)];exact e⟩
 r:=az _ h.r
 CQ:=by obtain⟨jg,a,e⟩:=h.CQ;exact⟨jg,a,by rw [World.cell?_of_block (hs.block _ h.r)];exact e⟩
 x:=az _ h.x
 mx:=by obtain⟨m,e⟩:=h.mx;exact⟨m,by rw [World.cell?_of_block (hs.block _ h.x)];exact e⟩
instance:hM ck where
 mono _ ef hs az:=ef.keep hs az
def yn(n:Nat):Nat :=
 if n<10 then 1 else if n<100 then 2 else if n<1000 then 3 else if n<10000 then 4 else if n<100000 then 5 else if n<1000000 then 6 else if n<10000000 then 7 else if n<100000000 then 8 else if n<1000000000 then 9 else 10
theorem KJ(n:Nat)(h:n<10000000000):yn n=Lib.nDigits n:=by
 unfold yn
 repeat' split
 .exact(Lib.nDigits_small ‹_›).symm
 .exact(Lib.nDigits_unique 1 n V V).symm
 .exact(Lib.nDigits_unique 2 n V V).symm
 .exact(Lib.nDigits_unique 3 n V V).symm
 .exact(Lib.nDigits_unique 4 n V V).symm
 .exact(Lib.nDigits_unique 5 n V V).symm
 .exact(Lib.nDigits_unique 6 n V V).symm
 .exact(Lib.nDigits_unique 7 n V V).symm
 .exact(Lib.nDigits_unique 8 n V V).symm
 .exact(Lib.nDigits_unique 9 n V V).symm
def yo:xg:=λargs h =>
 match args with
 |[.int .u64 n]=>if 1<=n/\n<10000000000 then some (.int .i64 (yn n.toNat),h)else none
 |_=>none
theorem KK:BS Tryz.prog ck 120 yo:=by
 intro aM aS o ef args h v ad ag φ w f i c b;unfold yo at ag;split at ag
 .rename_i n;split at ag
  .rename_i az;simp only [a6,bo]at ag;obtain⟨rfl,rfl⟩:=ag;obtain⟨l⟩:=f;simp only [bc]at b;obtain⟨a,t,rfl,d,rfl⟩:=b;simp only [aB]at d;subst d;have g:=ef.keep c λ_ m=>m
   refine⟨⟨Tryz.f120,_,ar,rfl⟩,?_⟩;have k:=Any.internal_strconv_numDigits KI n.toNat V V w g.pow;rw [Int.toNat_of_nonneg V]at k;refine k.mono λe aZ j=> ?_
   obtain⟨he,hw⟩:=j;subst hw;exact⟨_,φ,he,dH.refl _ _,by simp only [aB];rw [KJ _ V],i,c,Nat.le_refl _⟩
  .cases ag
 .cases ag
noncomputable def env:a':= {cond:=ck,pD:=λf=>if f=120 then some yo else none,D:=tN Tryz.prog,eqs:=[42],ext:=λf=>if f=170 then some 0 else if f=133 then some 1 else none}
instance:hM env.cond:=inferInstanceAs (hM ck)
theorem cP:e4 Tryz.prog env where
 fM:=cN.J3 _
 eqs:=J5 (by decide+kernel)
 names:=J4 (by decide+kernel)
 BT:=λf g h=>by
  simp only [env]at h;split at h
  .rename_i e;subst e;simp only [a6]at h;subst h;exact KK
  .cases h
 BU :=λf k h=>by
  simp only [env]at h;split at h
  .rename_i e;subst e;simp only [a6]at h;subst h;exact⟨Tryz.f170,_,ar,ar,ar,ar,rfl⟩
  .split at h
   .rename_i e;subst e;simp only [a6]at h;subst h;exact⟨Tryz.f133,_,ar,ar,ar,ar,rfl⟩
   .cases h
theorem mixed:Tryz.prog.follows .mixedOrders=true:=by decide+kernel
end Go.Proofs.YtddnafghiejcoaaGreatDoor
namespace Go.bh
noncomputable section
open Go.RowKit
inductive ch:Type 1 where
 |nil
 |ak (x:Hint) (r:ch)
 |aq (i:Nat) (y n:ch)
 |cases (i:Nat) (p:Prop) (y n:ch)
 |ex (i:Nat) {α:Type} (p:α->Prop) (f:α->ch)
 |skip (i:Nat) (r:ch)
def hG:List Prop->Prop->Prop
 |[],k=>k
 |p::r,k=>p/\hG r k
theorem h9:∀{l:List Prop}{k:Prop},hG l k->a7 l/\k
 |[],k,h=>⟨a7.nil,h⟩
 |p::r,k,h=>⟨a7.cons h.1 (h9 h.2).1,(h9 h.2).2⟩
abbrev iy:=J->T->ch->List eU->Prop
abbrev nl:=FuncId->List J->T->ch->(J->T->ch->Prop)->Prop
abbrev rO:=bW->a8->T->ch->Prop
def yp(ρ:Operand->J)(o:Op):Option (Prop×Bool) :=
 match o with
 |.binOp op t x y _ =>
  match ρ x,ρ y with
  |.int k a,.int k' b =>
   match decEq k k' with
   |isTrue _ =>
    match op with
    |.eql=>some (a=b,true)
    |.neq=>some (a=b,false)
    |.lss=>some (a<b,true)
    |.leq=>some (a<=b,true)
    |.gtr=>some (b<a,true)
    |.geq=>some (b<=a,true)
    |_=>none
   |isFalse _=>none
  |.str a,.str b =>
   match op with
   |.eql=>some (a=b,true)
   |.neq=>some (a=b,false)
   |_=>none
  |_,_=>none
 |_=>none
theorem CS{E:a'}{ρ:Operand->J}{o:Op}{p:Prop}{b:Bool}(k:yp ρ o=some (p,b))(call:cJ)(nid:Nat)(h:T):(p->bd E call nid ρ h o=some (.bool b,h))/\(¬p->bd E call nid ρ h o=some (.bool (!b),h)):=by
 cases o<;>simp only [yp]at k<;>try (cases k;done)
 rename_i op t x y ty;split at k
 .rename_i g a i c d e;split at k
  .rename_i f _;subst f;split at k<;>first|(cases k;done)|(simp only [a6,bo]at k)
   all_goals (obtain⟨rfl,rfl⟩:=k)
   all_goals (constructor<;>intro ae<;>simp [bd,d,e,iV,hK,ae])
   all_goals omega
  .cases k
 .rename_i a c d e;split at k<;>first|(cases k;done)|(simp only [a6,bo]at k)
  all_goals (obtain⟨rfl,rfl⟩:=k)
  all_goals (constructor<;>intro ae<;>simp [bd,d,e,iV,q5,ae])
 .cases k
inductive dm where
 |one (v:J) (h:T) (ps:List Prop)
 |or (p:Prop) (a b:dm)
 |some (v:J) (ps:List Prop) (p:T->Prop)
def dm.cx(P:Program)(C:(Nat->Prop)->World->Prop)(f:FuncId)(args:List J)(h:T):dm->Prop
 |.one v ad ps=>a7 ps->bl P C f args h v ad
 |.or p a b=>(p->dm.cx P C f args h a)/\(¬p->dm.cx P C f args h b)
 |.some v ps p=>a7 ps-> ∃ad,bl P C f args h v ad/\p ad
abbrev dB:=FuncId->Option (List J->T->Option dm)
def dv(P:Program)(C:(Nat->Prop)->World->Prop)(S:dB):Prop:= ∀f g,S f=some g-> ∀args h a,g args h=some a->a.cx P C f args h
def CT:dB:=λ_=>none
theorem bT{P:Program}{C:(Nat->Prop)->World->Prop} :dv P C CT:=λ_ _ h=>by cases h
def dB.add(S:dB)(f:FuncId)(g:List J->T->Option dm):dB:=λk=>_root_.cond (Nat.beq k f) (some g) (S k)
theorem dv.add{P:Program}{C:(Nat->Prop)->World->Prop}{S:dB}(k:dv P C S){f:FuncId}{g:List J->T->Option dm}(ag:∀args h a,g args h=some a->a.cx P C f args h):dv P C (S.add f g):=by
 intro c d b;unfold dB.add at b;rcases ku c f with ⟨e,e'⟩|⟨e,e'⟩
 .rw [e',cond_true]at b;simp only [a6]at b;subst b;subst e;exact ag
 .rw [e',cond_false]at b;exact k c d b
def aG(l:List UInt8):List J:=l.map λb=> .int .u8 b.toNat
def strOf(l:List J):List UInt8:=(bytesOf l).getD []
def aL(l:List J)(i:Nat):Int:=match l[i]? with|some (.int _ n)=>n|_=>0
def yq(E:a')(draw:Bool)(ops:Array Oper)(f i:Nat)(ρ:Operand->J)(h:T)(o:Op):Option (J×T×List Prop) :=
 match o with
 |.convert s d x =>
  match ρ x with
  |.slice (some a) n c =>
   match E.D s,E.D d,h.get a.id with
   |some m,some g,some b =>
    match m.kind,g.kind with
    |.slice e,.string =>
     match E.D e with
     |some j =>
      match j.kind with
      |.int .u8 =>
       cond (Nat.beq a.fld 0&&Nat.beq a.es 1&&(!draw || (im ops i || gl ops f i ρ (.convert s d x))))
        (some (.str (strOf ((b.aQ.drop a.idx).take n)),h,[a.ab=b.ab,a.idx+n<=b.aQ.length,∃l,(b.aQ.drop a.idx).take n=aG l])) none
      |_=>none
     |none=>none
    |_,_=>none
   |_,_,_=>none
  |_=>none
 |.load t x =>
  match ρ x with
  |.ptr (some a) =>
   match E.D t,h.get a.id with
   |some d,some b =>
    match d.kind with
    |.int k =>
     cond (Nat.beq a.fld 0&&Nat.beq d.size 1)
      (some (.int k (aL b.aQ a.idx),h,[a.ab=b.ab,b.aQ[a.idx]? =some (.int k (aL b.aQ a.idx))]++cond draw (gD ops f i ρ h o h) [])) none
    |_=>none
   |_,_=>none
  |_=>none
 |_=>none
theorem rP:∀(l:List UInt8),bytesOf (aG l)=some l
 |[]=>rfl
 |b::r=>by have:=rP r;unfold aG at this;simp only [aG,eF,bytesOf,this,ev];simp
theorem hb(l:List UInt8):strOf (aG l)=l:=by unfold strOf;rw [rP];rfl
theorem KL{P:Program}{E:a'}{draw:Bool}{ops:Array Oper}{q i:Nat}{ρ:Operand->J}{h ad:T}{o:Op}{v:J}{ps:List Prop}(k:yq E draw ops q i ρ h o=some (v,ad,ps))(ae:a7 ps)(call:cJ):h7 E call ops draw q i ρ h o=some (v,ad):=by
 cases o<;>simp only [yq]at k<;>try (cases k;done)
 case convert s d x =>
  split at k
  .rename_i a n c m;split at k
   .rename_i I G b hs j ag;split at k
    .rename_i e B C;split at k
     .rename_i H he;split at k
      .rename_i z;cases f:(Nat.beq a.fld 0&&Nat.beq a.es 1&&(!draw || (im ops i || gl ops q i ρ (.convert s d x))))with
       |false=>rw [f]at k;cases k
       |true =>
        rw [f,cond_true]at k;simp only [a6,bo]at k;obtain⟨rfl,rfl,rfl⟩:=k;simp only [cS]at f;have cq:=ij f.1.1;have cn:=ij f.1.2;have r:a.ab=b.ab:=ae.head;have g:a.idx+n<=b.aQ.length:=ae.tail.head;obtain⟨l,u⟩:∃l,(b.aQ.drop a.idx).take n=aG l:=ae.tail.tail.head;have D:b.b0 a.ab=b.aQ.length:=by rw [r];simp [ac.b0]
        have p:dF 1 (.slice (some a) n c) h=some (aG l):=by
         by_cases az:n=0
         .subst az;simp only [dF,cq,cn,dy,ag];rw [<-u];simp
         .simp only [dF,cq,cn,dy,ag];rw [ap az,aE ⟨by rw [D];exact g,g⟩,u]
        refine uF E ?_ ?_ ?_
        .simp only [bd,m,q8,hs,j];rfl
        .simp only [er,m,oh,hs,j,B,C,he,z,p,rP,ev];rw [u,hb]
        .intro y;refine⟨rfl,?_⟩;have:=f.2;rw [y]at this;simpa using this
      .cases k
     .cases k
    .cases k
   .cases k
  .cases k
 case load t x =>
  split at k
  .rename_i a m;split at k
   .rename_i d b j ag;split at k
    .rename_i w A;cases f:(Nat.beq a.fld 0&&Nat.beq d.size 1)with
     |false=>rw [f]at k;cases k
     |true =>
      rw [f,cond_true]at k;simp only [a6,bo]at k;obtain⟨rfl,rfl,rfl⟩:=k;simp only [cS]at f;have cq:=ij f.1;have r:a.ab=b.ab:=ae.head;have g:b.aQ[a.idx]? =some (.int w (aL b.aQ a.idx)):=ae.tail.head;refine hp E ?_ ae.tail.tail;have F:=(dT.1 g).1
      have p:b.elem? a.ab a.idx=some (.int w (aL b.aQ a.idx)):=by unfold ac.elem?;rw [aE (by rw [r];simpa [ac.b0]using F)];exact g
      simp only [bd,m,a1,j,ag,p,A,lP.isAgg,ft,cq,dy,ev,ew,ey]
    .cases k
   .cases k
  .cases k
section
variable(P:Program)(E:a')(S:dB)
def uN(draw:Bool)(ops:Array Oper)(a i:Nat)(F:a8)(h:T)(o:Op):Option (J×T×List Prop×List eU) :=
 match o with
 |.call c =>
  match c.callee with
  |.value f =>
   match bf F f with
   |.func (.func g) fs aX =>
    match S g with
    |some b =>
     match b (fs++c.args.toList.map (bf F)++aX) h with
     |some (.one v ad ps)=>some (v,ad,ps++cond draw (gD ops a i (bf F) h o ad) [],[⟨g,fs++c.args.toList.map (bf F)++aX,h,v,ad⟩])
     |_=>none
    |none=>none
   |_=>none
  |_=>match k4 E draw ops a i F h o []with|some (v,ad,_,aX,ks)=>some (v,ad,aX,ks)|none=>none
 |_=>match k4 E draw ops a i F h o []with|some (v,ad,_,aX,ks)=>some (v,ad,aX,ks)|none=>none
def lZ(draw:Bool)(ops:Array Oper)(c i:Nat)(F:a8)(o:Op)(g:FuncId)(args:List J)(h:T)(K:iy):dm->ch->Prop
 |.one v ad ps,hs=>hG (ps++cond draw (gD ops c i (bf F) h o ad) []) (K v ad hs [⟨g,args,h,v,ad⟩])
 |.or p a b,.aq _ y n=>(p->lZ draw ops c i F o g args h K a y)/\(¬p->lZ draw ops c i F o g args h K b n)
 |.or _ _ _,_=>False
 |.some v ps p,hs=>hG ps (∀ad,p ad->hG (cond draw (gD ops c i (bf F) h o ad) []) (K v ad hs [⟨g,args,h,v,ad⟩]))
def uO(F:a8)(h:T)(o:Op):Option (dm×FuncId×List J) :=
 match o with
 |.call c =>
  match c.callee with
  |.value f =>
   match bf F f with
   |.func (.func g) fs aX =>
    match S g with
    |some b=>match b (fs++c.args.toList.map (bf F)++aX) h with|some a=>some (a,g,fs++c.args.toList.map (bf F)++aX)|none=>none
    |none=>none
   |_=>none
  |_=>none
 |_=>none
def k8(draw:Bool)(ops:Array Oper)(a i:Nat)(F:a8)(h:T)(o:Op)(hs:ch)(K:iy):Prop :=
 match uN E S draw ops a i F h o with
 |some (v,ad,aX,ks)=>hG aX (K v ad hs ks)
 |none =>
  match uO S F h o with
  |some (.some v ps p,g,args)=>lZ draw ops a i F o g args h K (.some v ps p) hs
  |_=>False
def yr(draw:Bool)(ops:Array Oper)(a i:Nat)(F:a8)(h:T)(o:Op)(y n:ch)(K:iy):Prop :=
 match yp (bf F) o with
 |some (p,b)=>(p->hG (cond draw (gD ops a i (bf F) h o h) []) (K (.bool b) h y []))/\(¬p->hG (cond draw (gD ops a i (bf F) h o h) []) (K (.bool (!b)) h n []))
 |none =>
  match uN E S draw ops a i F h o with
  |some (.bool b,ad,aX,ks)=>hG aX ((b=true->K (.bool true) ad y ks)/\(b=false->K (.bool false) ad n ks))
  |_=>False
def yt(draw:Bool)(ops:Array Oper)(c i:Nat)(F:a8)(h:T)(o:Op)(j:Nat)(y n:ch)(K:iy):Prop :=
 match uO S F h o with
 |some (.or p a b,g,args)=>lZ draw ops c i F o g args h K (.or p a b) (.aq j y n)
 |_=>yr E S draw ops c i F h o y n K
def yu(b:nl)(draw:Bool)(ops:Array Oper)(a i:Nat)(F:a8)(h:T)(o:Op)(x:Hint)(r:ch)(K:iy):Prop :=
 match x with
 |.enter _ =>
  match o with
  |.call c =>
   match c.callee with
   |.value f =>
    match bf F f with
    |.func (.func g) fs aX =>
     b g (fs++c.args.toList.map (bf F)++aX) h r λv ad d=>hG (cond draw (gD ops a i (bf F) h o ad) []) (K v ad d [⟨g,fs++c.args.toList.map (bf F)++aX,h,v,ad⟩])
    |_=>False
   |_=>False
  |_=>False
 |_ =>
  match rL P E (λ_ _ _ _=>none) draw ops a i F h o x []with
  |some (v,ad,_,aX,ks)=>hG aX (K v ad r ks)
  |none=>match yq E draw ops a i (bf F) h o with|some (v,ad,aX)=>hG aX (K v ad r [])|none=>False
def k9(b:nl)(q:Nat)(ops:Array Oper)(draw:Bool)(a i:Nat)(F:a8)(h:T)(o:Op)(K:iy):ch->Prop
 |.nil=>k8 E S draw ops a i F h o .nil K
 |.ak x r=>match x.at with|some j=>cond (Nat.beq (1000*q+i) j) (yu P E b draw ops a i F h o x r K) (k8 E S draw ops a i F h o (.ak x r) K)|none=>k8 E S draw ops a i F h o (.ak x r) K
 |.aq j y n=>cond (Nat.beq (1000*q+i) j) (yt E S draw ops a i F h o j y n K) (k8 E S draw ops a i F h o (.aq j y n) K)
 |.cases j p y n=>cond (Nat.beq (1000*q+i) j) ((p->k9 b q ops draw a i F h o K y)/\(¬p->k9 b q ops draw a i F h o K n)) (k8 E S draw ops a i F h o (.cases j p y n) K)
 |.ex j p f=>cond (Nat.beq (1000*q+i) j) ((∃x,p x)/\∀x,p x->k9 b q ops draw a i F h o K (f x)) (k8 E S draw ops a i F h o (.ex j p f) K)
 |.skip j r=>cond (Nat.beq (1000*q+i) j) (k8 E S draw ops a i F h o r K) (k8 E S draw ops a i F h o (.skip j r) K)
def oE(ops:Array Oper)(draw:Bool)(b i:Nat)(F:a8)(h:T)(o:Op)(K:iy):Prop :=
 ∃v ad a ks,K v ad a ks/\(∀c∈ks,bl P E.cond c.f c.args c.h c.v c.ad)/\∀call:cJ,(∀c∈ks,c.holds call)->h7 E call ops draw b i (bf F) h o=some (v,ad)
def uP(a:nl):Prop:= ∀f args h hs K,a f args h hs K-> ∃v ad b,bl P E.cond f args h v ad/\K v ad b
variable {P E S}
theorem CU(e:e4 P E)(p:P.follows .mixedOrders=true)(j:dv P E.cond S){draw:Bool}{ops:Array Oper}{a i:Nat}{F:a8}{h ad:T}{o:Op}{v:J}{aX:List Prop}{ks:List eU}(k:uN E S draw ops a i F h o=some (v,ad,aX,ks))(al:a7 aX) :
 (∀c∈ks,bl P E.cond c.f c.args c.h c.v c.ad)/\∀call:cJ,(∀c∈ks,c.holds call)->h7 E call ops draw a i (bf F) h o=some (v,ad):=by
 have plain:∀{r:Option (J×T×List Prop×List eU)},(match k4 E draw ops a i F h o []with|some (v,ad,_,aX,ks)=>some (v,ad,aX,ks)|none=>none)=some (v,ad,aX,ks) ->
  (∀c∈ks,bl P E.cond c.f c.args c.h c.v c.ad)/\∀call:cJ,(∀c∈ks,c.holds call)->h7 E call ops draw a i (bf F) h o=some (v,ad):=by
  intro r k;split at k
  .rename_i v1 aa s cs t ae;simp only [a6,bo]at k;obtain⟨rfl,rfl,rfl,rfl⟩:=k;have m:ya P E (λ_ _ _ _=>none):=λ_ _ _ _ _ _ _ _ h=>by cases h
   have d:pop P E (λ_ _ _ _=>none) 0 ops draw a i F h o []=some (v1,aa,s,cs,t):=ae;exact⟨CE P E e p m d al,λcall b=>CD P E d al b⟩
  .cases k
 unfold uN at k;split at k
 .rename_i c;split at k
  .rename_i f n;split at k
   .rename_i g fs u ag;split at k
    .rename_i w q;split at k
     .rename_i v1 aa ps l;simp only [a6,bo]at k;obtain⟨rfl,rfl,rfl,rfl⟩:=k;refine⟨λc hm=> ?_,λcall b=> ?_⟩
      .rw [cC.1 hm];exact j _ _ q _ _ _ l al.left
      .refine hp E ?_ al.right;simp only [bd,n,ag,kp];exact b _ (cC.2 rfl)
     .cases k
    .cases k
   .cases k
  .exact plain (r:=none) k
 .exact plain (r:=none) k
theorem yv{draw:Bool}{ops:Array Oper}{m i:Nat}{F:a8}{h:T}{c:Call}{f:Operand}(e:c.callee=.value f){g:FuncId}{fs aX:List J}(ag:bf F f=.func (.func g) fs aX){K:iy} :
 ∀(a:dm)(hs:ch),a.cx P E.cond g (fs++c.args.toList.map (bf F)++aX) h->lZ draw ops m i F (.call c) g (fs++c.args.toList.map (bf F)++aX) h K a hs->oE P E ops draw m i F h (.call c) K
 |.one v ad ps,hs,ok,k=>by
  obtain⟨al,d⟩:=h9 (by simpa only [lZ]using k);refine⟨v,ad,hs,_,d,λc hm=> ?_,λcall l=> ?_⟩
  .rw [cC.1 hm];exact ok al.left
  .refine hp E ?_ al.right;simp only [bd,e,ag,kp];exact l _ (cC.2 rfl)
 |.some v ps p,hs,ok,k=>by
  obtain⟨al,d⟩:=h9 (by simpa only [lZ]using k);obtain⟨ad,q,ae⟩:=ok al;obtain⟨o,d⟩:=h9 (d ad ae);refine⟨v,ad,hs,_,d,λc hm=> ?_,λcall l=> ?_⟩
  .rw [cC.1 hm];exact q
  .refine hp E ?_ o;simp only [bd,e,ag,kp];exact l _ (cC.2 rfl)
 |.or p a b,.aq j y n,ok,k=>by
  simp only [lZ]at k;by_cases ae:p
  .exact yv e ag a y (ok.1 ae) (k.1 ae)
  .exact yv e ag b n (ok.2 ae) (k.2 ae)
 |.or p a b,.nil,ok,k=>k.elim
 |.or p a b,.ak _ _,ok,k=>k.elim
 |.or p a b,.cases _ _ _ _,ok,k=>k.elim
 |.or p a b,.ex _ _ _,ok,k=>k.elim
 |.or p a b,.skip _ _,ok,k=>k.elim
theorem CV(e:dv P E.cond S){draw:Bool}{ops:Array Oper}{d i:Nat}{F:a8}{h:T}{o:Op}{a:dm}{g:FuncId}{args:List J}(b:uO S F h o=some (a,g,args)){K:iy}{hs:ch}(k:lZ draw ops d i F o g args h K a hs):oE P E ops draw d i F h o K:=by
 unfold uO at b;split at b
 .rename_i c;split at b
  .rename_i f l;split at b
   .rename_i n fs aX ag;split at b
    .rename_i p m;split at b
     .rename_i bK j;simp only [a6,bo]at b;obtain⟨rfl,rfl,rfl⟩:=b;exact yv l ag _ _ (e _ _ m _ _ _ j) k
     .cases b
    .cases b
   .cases b
  .cases b
 .cases b
theorem nn(c:e4 P E)(f:P.follows .mixedOrders=true)(a:dv P E.cond S){draw:Bool}{ops:Array Oper}{b i:Nat}{F:a8}{h:T}{o:Op}{hs:ch}{K:iy}(k:k8 E S draw ops b i F h o hs K):oE P E ops draw b i F h o K:=by
 unfold k8 at k;split at k
 .rename_i v ad aX ks e;obtain⟨al,d⟩:=h9 k;obtain⟨j,l⟩:=CU c f a e al;exact⟨v,ad,hs,ks,d,j,l⟩
 .split at k
  .rename_i g;exact CV a g k
  .exact k.elim
theorem KM(j:e4 P E)(m:P.follows .mixedOrders=true)(l:dv P E.cond S){draw:Bool}{ops:Array Oper}{e i:Nat}{F:a8}{h:T}{o:Op}{y n:ch}{K:iy}(k:yr E S draw ops e i F h o y n K):oE P E ops draw e i F h o K:=by
 unfold yr at k;split at k
 .rename_i p b d;by_cases ae:p
  .obtain⟨al,a⟩:=h9 (k.1 ae);exact⟨_,_,_,_,a,λc hm=>by simp at hm,λcall _=>hp E ((CS d call (e+i) h).1 ae) al⟩
  .obtain⟨al,a⟩:=h9 (k.2 ae);exact⟨_,_,_,_,a,λc hm=>by simp at hm,λcall _=>hp E ((CS d call (e+i) h).2 ae) al⟩
 .split at k
  .rename_i b ad aX ks d;obtain⟨al,a⟩:=h9 k;obtain⟨f,g⟩:=CU j m l d al;cases b with
   |true=>exact⟨_,_,_,_,a.1 rfl,f,g⟩
   |false=>exact⟨_,_,_,_,a.2 rfl,f,g⟩
  .exact k.elim
theorem KN(c:e4 P E)(d:P.follows .mixedOrders=true)(a:dv P E.cond S){draw:Bool}{ops:Array Oper}{b i:Nat}{F:a8}{h:T}{o:Op}{j:Nat}{y n:ch}{K:iy}(k:yt E S draw ops b i F h o j y n K):oE P E ops draw b i F h o K:=by
 unfold yt at k;split at k
 .rename_i e;exact CV a e k
 .exact KM c d a k
theorem KO(l:e4 P E)(t:P.follows .mixedOrders=true)(z:dv P E.cond S){e:nl}(n:uP P E e){q:Nat}{draw:Bool}{ops:Array Oper}{d i:Nat}{F:a8}{h:T}{o:Op}{x:Hint}(y:x.at=some (1000*q+i)){r:ch}{K:iy}(k:yu P E e draw ops d i F h o x r K) :
 oE P E ops draw d i F h o K:=by
 unfold yu at k;split at k
 .split at k
  .rename_i c;split at k
   .rename_i f s;split at k
    .rename_i g fs aX ag;obtain⟨v,ad,u,m,a⟩:=n _ _ _ _ _ k;obtain⟨al,a⟩:=h9 a;refine⟨v,ad,u,_,a,λc hm=> ?_,λcall b=> ?_⟩
     .rw [cC.1 hm];exact m
     .refine hp E ?_ al;simp only [bd,s,ag,kp];exact b _ (cC.2 rfl)
    .exact k.elim
   .exact k.elim
  .exact k.elim
 .split at k
  .rename_i v ad w aX ks ae;obtain⟨al,a⟩:=h9 k;have p:ya P E (λ_ _ _ _=>none):=λ_ _ _ _ _ _ _ _ h=>by cases h
   have j:pop P E (λ_ _ _ _=>none) q ops draw d i F h o [x]=some (v,ad,w,aX,ks):=by unfold pop;simp only [y];rw [beq_true rfl,cond_true];exact ae
   exact⟨v,ad,r,ks,a,CE P E l t p j al,λcall b=>CD P E j al b⟩
  .split at k
   .rename_i v ad aX ae;obtain⟨al,a⟩:=h9 k;exact⟨v,ad,r,[],a,λc hm=>by simp at hm,λcall _=>KL (P:=P) ae al call⟩
   .exact k.elim
theorem uQ(a:e4 P E)(c:P.follows .mixedOrders=true)(b:dv P E.cond S){g:nl}(d:uP P E g){q:Nat}{draw:Bool}{ops:Array Oper}{l i:Nat}{F:a8}{h:T}{o:Op}{K:iy} :∀(hs:ch),k9 P E S g q ops draw l i F h o K hs->oE P E ops draw l i F h o K
 |.nil,k=>nn a c b k
 |.ak x r,k=>by
  simp only [k9]at k;split at k
  .rename_i j m;rcases ku (1000*q+i) j with ⟨e,e'⟩|⟨e,e'⟩
   .rw [e',cond_true]at k;exact KO a c b d (by rw [m,e]) k
   .rw [e',cond_false]at k;exact nn a c b k
  .exact nn a c b k
 |.aq j y n,k=>by
  simp only [k9]at k;rcases ku (1000*q+i) j with ⟨e,e'⟩|⟨e,e'⟩
  .rw [e',cond_true]at k;exact KN a c b k
  .rw [e',cond_false]at k;exact nn a c b k
 |.cases j p y n,k=>by
  simp only [k9]at k;rcases ku (1000*q+i) j with ⟨e,e'⟩|⟨e,e'⟩
  .rw [e',cond_true]at k;by_cases ae:p
   .exact uQ a c b d y (k.1 ae)
   .exact uQ a c b d n (k.2 ae)
  .rw [e',cond_false]at k;exact nn a c b k
 |.ex j p f,k=>by
  simp only [k9]at k;rcases ku (1000*q+i) j with ⟨e,e'⟩|⟨e,e'⟩
  .rw [e',cond_true]at k;obtain⟨⟨x,s⟩,k⟩:=k;exact uQ a c b d (f x) (k x s)
  .rw [e',cond_false]at k;exact nn a c b k
 |.skip j r,k=>by
  simp only [k9]at k;rcases ku (1000*q+i) j with ⟨e,e'⟩|⟨e,e'⟩
  .rw [e',cond_true]at k;exact nn a c b k
  .rw [e',cond_false]at k;exact nn a c b k
variable(P E S)
def oF(a:nl)(q:Nat)(ops:Array Oper)(draw:Bool)(n b:Nat):List Oper->Nat->a8->T->ch->List eU->(a8->T->ch->List eU->Prop)->Prop
 |[],_,F,h,hs,ks,K=>K F h hs ks
 |o::r,i,F,h,hs,ks,K =>
  cond (yb n o)
  (match x1 ops F o with
  |some true=>cond (o.op.operands.toList.all (pT F)) (k9 P E S a q ops draw b i F h o.op (λv ad c d=>oF a q ops draw n b r (i+1) (uz F o.dst v) ad c (ks++d) K) hs) False
  |some false=>oF a q ops draw n b r (i+1) (uz F o.dst eN) h hs ks K
  |none=>False) False
variable {P E S}
theorem uR(D:e4 P E)(Q:P.follows .mixedOrders=true)(H:dv P E.cond S){W:nl}(M:uP P E W){q:Nat}{ops:Array Oper}{draw:Bool}{n B:Nat} :∀(l:List Oper)(i:Nat)(F:a8)(h:T)(hs:ch)(ks:List eU){K:a8->T->ch->List eU->Prop},(∀j,l[j]? =ops[i+j]?) ->
 oF P E S W q ops draw n B l i F h hs ks K-> ∃w ad A p,K w ad A (ks++p)/\(∀c∈p,bl P E.cond c.f c.args c.h c.v c.ad)/\∀call:cJ,(∀c∈p,c.holds call)-> ∀s:List J,s.length=n->Has F s-> ∃u,u.length=n/\Has w u /\
  k5 E call ops draw B (List.range' i l.length) ⟨s,h⟩=some ⟨u,ad⟩
 |[],i,F,h,hs,ks,K,N,k=>⟨F,h,hs,[],by simpa [oF]using k,λc hm=>by simp at hm,λcall _ s az e=>⟨s,az,e,by unfold k5;cases draw<;>rfl⟩⟩
 |o :: r, i,F,h,hs,ks,K,N,k=>by
  have Z:ops[i]? =some o:=by have:=N 0;simpa using this.symm
  have am:∀j,r[j]? =ops[i+1+j]? :=λj=>by have:=N (j+1);simp at this;rw [this];congr 1;omega
  simp only [oF]at k;cases z:yb n o with
  |false=>rw [z]at k;exact k.elim
  |true =>
   rw [z,cond_true]at k
   have X:∀m,m=n-> ∀t,o.dst=some t->t<m:=by intro m hm t b2;unfold yb at z;rw [b2]at z;rw [hm];exact eH.mp z
   rw [b',qW];split at k
   .rename_i ag;cases I:o.op.operands.toList.all (pT F)with
    |false=>rw [I]at k;exact k.elim
    |true =>
     rw [I,cond_true]at k;obtain⟨v,aa,ct,co,av,a3,bn⟩:=uQ D Q H M hs k;obtain⟨w,ad,A,p,G,L,R⟩:=uR D Q H M r (i+1) _ _ _ _ am av;refine⟨w,ad,A,co++p,by rw [<-ik];exact G,λc hm=>(eG.1 hm).elim (a3 c) (L c),λcall C s az e=> ?_⟩;have a0:=bn call λc hm=>C c (by simp [hm])
     obtain⟨u,aI,aO,O⟩:=R call (λc hm=>C c (by simp [hm])) (fJ s o.dst v) (by rw [CF];exact az) (e.set (X s.length az) v);refine⟨u,aI,aO,?_⟩
     have a4:h7 E call ops draw B i (cp s) h o.op=some (v,aa):=by
      rw [<-a0];have d:∀x∈o.op.operands.toList,cp s x=bf F x:=λx U=>(e.get (dV.1 I x U)).symm
      have aN:∀nid,bd E call nid (cp s) h o.op=bd E call nid (bf F) h o.op:=λnid=>B3 d
      have a5:hL (cp s) o.op=hL (bf F) o.op:=by cases g:o.op<;>simp only [hL];rename_i t x;rw [g]at d;rw [d x (by simp [Op.operands])]
      have bv:kq (cp s) o.op=kq (bf F) o.op:=by cases g:o.op<;>simp only [kq];rename_i t x y;rw [g]at d;rw [d x (by simp [Op.operands])]
      have ce:∀nid,er E nid (cp s) h o.op=er E nid (bf F) h o.op:=λnid=>Kp E d
      have a2:fX (cp s) o.op=fX (bf F) o.op:=by cases g:o.op<;>simp only [fX];rename_i c;rw [g]at d;rw [pM (xs:=c.args) (λx U=>d x (by simp only [Op.operands,Call.operands,lL,eG];exact .inr U))]
      have a9:gl ops B i (cp s) o.op=gl ops B i (bf F) o.op:=by
       have:kr (cp s) o.op=kr (bf F) o.op:=by cases g:o.op<;>simp only [kr];rename_i a b x;rw [g]at d;rw [d x (by simp [Op.operands])]
       unfold gl;rw [this]
      unfold h7 dU gY;simp only [aN,a5,bv,ce,a2,a9]
     exact(Ks E Z (Cw e ag) a4).trans O
   .rename_i ag;obtain⟨w,ad,A,p,G,L,R⟩:=uR D Q H M r (i+1) _ _ _ _ am k;refine⟨w,ad,A,p,G,L,λcall C s az e=> ?_⟩;obtain⟨u,aI,aO,O⟩:=R call C (fJ s o.dst eN) (by rw [CF];exact az) (e.set (X s.length az) eN);exact⟨u,aI,aO,(Kt E Z (Cw e ag)).trans O⟩
   .exact k.elim
def uS(step:a8->T->ch->rO->Prop)(K:rO):Nat->a8->T->ch->Prop
 |0,_,_,_=>False
 |m+1,F,h,hs=>step F h hs λe a aa b=>match e with|.normal=>uS step K m a aa b|e=>K e a aa b
def CW(D:cN)(cW:List ResultVar)(e:bW)(F:a8)(h ad:T)(K:J->Prop):Prop :=
 match e with
 |.normal=>match jd D F ad cW []with|some (l,aX)=>hG aX (cond (Nat.ble h.Y ad.Y) (K (jJ l)) False)|none=>False
 |.ret=>match jd D F ad cW []with|some (l,aX)=>hG aX (cond (Nat.ble h.Y ad.Y) (K (jJ l)) False)|none=>False
 |_=>False
def uT(P:Program)(C:(Nat->Prop)->World->Prop):List eU->List Prop
 |[]=> []
 |[c]=> [c.ad=c.h,∀h,uB P C c.f c.args h c.v h]
 |_=> [False]
open Classical in
noncomputable def oG:List eU->cJ
 |[],_,_,_=>none
 |c::_,f,args,h=>if c.f=f/\c.args=args then some (c.v,h)else none
theorem KP(ks:List eU):rr (oG ks):=by
 intro f args h v ad e;cases ks with
 |nil=>cases e
 |cons c r =>
  simp only [oG]at e⊢;split at e
  .rename_i q;simp only [a6,bo]at e;exact⟨e.2.symm,λh2=>by rw [aE q,e.1]⟩
  .cases e
theorem KQ{P:Program}{C:(Nat->Prop)->World->Prop}{ks:List eU}(h:a7 (uT P C ks)):∀c∈ks,c.holds (oG ks):=by
 match ks,h with
 |[],_=>intro c al;cases al
 |[k],h =>
  intro c al;obtain rfl:=cC.1 al;have e:c.ad=c.h:=h.head;unfold eU.holds;simp only [oG];rw [aE ⟨trivial,trivial⟩,e]
 |a::b::r,h=>exact(h _ (cC.2 rfl):False).elim
theorem KR{P:Program}{E:a'}{ks:List eU}(c:a7 (uT P E.cond ks)){aM:Nat->Prop}{aS:World}(j:dN aM aS.heap.size)(ef:E.cond aM aS):iu P aM aS (oG ks):=by
 match ks,c with
 |[],_=>intro f args h v ad al;cases al
 |a::b::r,h=>exact(h _ (cC.2 rfl):False).elim
 |[k],c =>
  intro f args h v ad al φ w d i g e;simp only [oG]at al;split at al
  .rename_i q;simp only [a6,bo]at al;obtain⟨rfl,rfl⟩:=q;obtain⟨rfl,rfl⟩:=al;have l:∀h,uB P E.cond k.f k.args h k.v h:=c _ (by simp [uT]);exact(l h).Cy aM aS j ef φ w d i g e
  .cases al
variable(P E S)
def pZ(ex:Nat->Nat->Code->a8->T->ch->rO->Prop):nl:=λf args h hs K =>
 match P.funcs[f]? with
 |some fn =>
  match fn.body with
  |some c=>ex h.Y (args.length+(fn.ntmps-args.length)) c (oB 0 args) h hs λe F ad a=>CW E.D fn.results.toList e F h ad λv=>K v ad a
  |none=>False
 |none=>False
def fi(R:Nat->Nat->Code->a8->T->bW->a8->T->Prop):Nat->Nat->Nat->Option Code->Code->a8->T->ch->rO->Prop
 |0,_,_,_,_,_,_,_,_=>False
 |k + 1,base,n,some body,c,F,h,hs,K =>
  fi R k base n none c F h hs λe d aa g =>
   match e with
   |.goto l =>
    match findLabel body l with
    |some rest=>fi R k base n (some body) rest d aa g K
    |none=>K (.goto l) d aa g
   |e=>K e d aa g
 |k + 1,base,n,none,c,F,h,hs,K =>
  match c with
  |.skip=>K .normal F h hs
  |.label _=>K .normal F h hs
  |.region q ops draw =>
   cond (!draw || lQ ops)
   (cond (Nat.ble base h.Y&&true)
   (oF P E S (pZ P E λb m c F h hs K=>fi R k b m none c F h hs K) q ops draw n h.Y ops.toList 0 F {h with Y:=h.Y+ops.size} hs [] λd aa g ks=>hG (uG ks) (K .normal d aa g)) False)
   (cond (Nat.ble base h.Y&&ru ops)
   (oF P E S (pZ P E λb m c F h hs K=>fi R k b m none c F h hs K) q ops true n h.Y ops.toList 0 F {h with Y:=h.Y+ops.size} hs [] λd aa g ks=>hG (uT P E.cond ks) (K .normal d aa g)) False)
  |.seq a b =>
   fi R k base n none a F h hs λe d aa g =>
    match e with
    |.normal=>fi R k base n none b d aa g K
    |e=>K e d aa g
  |.cond x a b =>
   cond (pT F x)
   (match bf F x with
   |.bool true=>fi R k base n none a F h hs K
   |.bool false=>fi R k base n none b F h hs K
   |_=>False) False
  |.block id c =>
   fi R k base n none c F h hs λe d aa g =>
    match e with
    |.exit j=>K (cond (Nat.beq j id) .normal (.exit j)) d aa g
    |e=>K e d aa g
  |.loop c =>
   match hs with
   |.ak (.keep l) (.ak (.loop d aa e) r)=>R base n (.loop c) (nf F l) h e d aa/\K e d aa r
   |.ak (.loop d aa e) r=>R base n (.loop c) F h e d aa/\K e d aa r
   |.ak (.rounds m) r=>uS (λF h hs K=>fi R k base n none c F h hs K) K m F h r
   |.cases _ p y i=>(p->fi R k base n none (.loop c) F h y K)/\(¬p->fi R k base n none (.loop c) F h i K)
   |.ex _ p f=>(∃x,p x)/\∀x,p x->fi R k base n none (.loop c) F h (f x) K
   |_=>False
  |.scope c=>fi R k base n (some c) c F h hs K
  |.goto l=>K (.goto l) F h hs
  |.exit id=>K (.exit id) F h hs
  |.ret=>K .ret F h hs
  |_=>False
variable {P E S}
theorem CX(b:e4 P E){f:FuncId}{fn:Func}{c:Code}(g:P.funcs[f]? =some fn)(d:fn.body=some c){args:List J}{h ad:T}{e:bW}{a:a8}{K:J->Prop}
 (i:cZ P E.cond h.Y (args.length+(fn.ntmps-args.length)) c (oB 0 args) h e a ad) (k:CW E.D fn.results.toList e a h ad K):∃v,bl P E.cond f args h v ad/\K v:=by
 have fin:(e=.normal\/e=.ret)->(match jd E.D a ad fn.results.toList []with|some (l,aX)=>hG aX (cond (Nat.ble h.Y ad.Y) (K (jJ l)) False)|none=>False)-> ∃v,bl P E.cond f args h v ad/\K v:=by
  intro he k;split at k
  .rename_i l aX ae;obtain⟨al,k⟩:=h9 k;cases hle:Nat.ble h.Y ad.Y with
   |false=>rw [hle]at k;exact k.elim
   |true =>
    rw [hle,cond_true]at k;exact⟨_,bl.Kv b g d he i ae al (hC hle),k⟩
  .exact k.elim
 cases e with
 |normal=>exact fin (.inl rfl) k
 |ret=>exact fin (.inr rfl) k
 |exit j=>exact k.elim
 |goto l=>exact k.elim
theorem CY(X:e4 P E)(a4:P.follows .mixedOrders=true)(g:dv P E.cond S):∀(k:Nat){base n:Nat}(body:Option Code)(c:Code)(F:a8)(h:T)(hs:ch){K:rO},
 fi P E S (cZ P E.cond) k base n body c F h hs K-> ∃e I ad N,h8 P E.cond base n (oC P body c) F h e I ad/\K e I ad N:=by
 intro k;induction k with
 |zero=>intro base n body c F h hs K ae;exact ae.elim
 |succ k ih =>
  intro base n body c F h hs K ae;cases body with
  |some body =>
   simp only [fi]at ae;obtain⟨e,d,aa,i,t1,ae⟩:=ih none c F h hs ae
   have pass:(∀l,e≠ .goto l)->h8 P E.cond base n (oC P (some body) c) F h e d aa:=by
    intro av S aS g A C φ a w aN u r Q B;refine ug (t1 S aS g A C φ a w aN u r _ λD bK aZ H M=> ?_);have:=B D bK aZ H M;cases e with
    |goto l=>exact absurd rfl (av l)
    |_=>exact this
   cases e with
   |goto l =>
    simp only at ae;cases U:findLabel body l with
    |none =>
     rw [U]at ae;refine⟨.goto l,d,aa,i,?_,ae⟩;intro S aS g A C φ a w aN u r Q B;refine ug (t1 S aS g A C φ a w aN u r _ λD bK aZ H M=> ?_);show m' P body Q (.goto l) bK aZ;simp only [m',U];exact B D bK aZ H M
    |some rest =>
     rw [U]at ae;obtain⟨aO,W,h2,a0,t2,ae⟩:=ih (some body) rest d aa i ae;refine⟨aO,W,h2,a0,?_,ae⟩;intro S aS g A C φ a w aN u r Q B;refine ug (t1 S aS g A C φ a w aN u r _ λD bK aZ H M=> ?_);show m' P body Q (.goto l) bK aZ;simp only [m',U];exact t2 S aS g A C D bK aZ aN H M Q B
   |normal=>exact⟨_,d,aa,i,pass (λl=> an),ae⟩
   |exit j=>exact⟨_,d,aa,i,pass (λl=> an),ae⟩
   |ret=>exact⟨_,d,aa,i,pass (λl=> an),ae⟩
  |none =>
   have stop:∀{e0:bW},(∀(Q:Exit->Act->World->Prop)(a:Act)(w:World),Q (rv e0) a w->c.wp P Q a w)->K e0 F h hs-> ∃e I ad N,h8 P E.cond base n (oC P none c) F h e I ad/\K e I ad N:=by intro e0 aN ae;refine⟨e0,F,h,hs,?_,ae⟩;intro S aS g A C φ a w G u r Q B;exact aN Q a w (B φ a w u r)
   cases c;case skip=>exact stop (e0:= .normal) (λ_ _ _ o=>wp_skip o) ae
   case label l=>exact stop (e0:= .normal) (λ_ _ _ o=>wp_label o) ae
   case goto l=>exact stop (e0:= .goto l) (λ_ _ _ o=>wp_goto o) ae
   case exit id=>exact stop (e0:= .exit id) (λ_ _ _ o=>wp_exit o) ae
   case ret=>exact stop (e0:= .ret) (λ_ _ _ o=>wp_ret o) ae
   case region id ops draw =>
    simp only [fi]at ae;have U:∀j:Nat,ops.toList[j]? =ops[0+j]? :=λj=> an
    have co:uP P E (pZ P E λb m c F h hs K=>fi P E S (cZ P E.cond) k b m none c F h hs K):=by
     intro f args h hs K o;unfold pZ at o;split at o
     .rename_i fn c0;split at o
      .rename_i c am;obtain⟨e,I,ad,N,t,o⟩:=ih none c _ _ _ o;obtain⟨v,G,L⟩:=CX X c0 am t o;exact⟨v,ad,N,G,L⟩
      .exact o.elim
     .exact o.elim
    cases bn:(!draw || lQ ops)with
    |true =>
     rw [bn,cond_true]at ae;cases G:(Nat.ble base h.Y&&true)with
     |false=>rw [G]at ae;exact ae.elim
     |true =>
     rw [G,cond_true]at ae;rw [Bool.and_true]at G;have am:base<=h.Y:=hC G;obtain⟨d,aa,i,a2,L,ct,ce⟩:=uR X a4 g co ops.toList 0 F _ hs [] U ae;rw [eg]at L;obtain⟨a3,L⟩:=h9 L;refine⟨.normal,d,aa,i,?_,L⟩;intro S aS g A C φ a w aN u ⟨s,az,Z,r⟩ Q B;obtain⟨a5,g1,g2,O⟩:=ce (ni a2) (CI a3) s az Z;have b2:List.range' 0 ops.toList.length=List.range ops.size:=by rw [qX,gh]
     rw [b2]at O
     have c2:oj E (ni a2) ops draw ⟨s,h⟩=some ⟨a5,aa⟩:=by
      unfold oj;unfold k5 at O;cases draw with
      |false=>simpa using O
      |true =>
       have G:lQ ops=true:=by simpa using bn
       simp only [dy,G];simpa using O
     exact Ce X g (Ku P E ct g A) a4 r c2 λbK aZ D cq cn ei=>B D bK aZ (u.trans (cq.mono am)) ⟨a5,g1,g2,cn⟩
    |false =>
     rw [bn,cond_false]at ae;obtain rfl:draw=true:=by cases draw<;>simp_all
     cases G:(Nat.ble base h.Y&&ru ops)with
     |false=>rw [G]at ae;exact ae.elim
     |true =>
     rw [G,cond_true]at ae;rw [cS]at G;have am:base<=h.Y:=hC G.1;obtain⟨d,aa,i,a2,L,ct,ce⟩:=uR X a4 g co ops.toList 0 F _ hs [] U ae;rw [eg]at L;obtain⟨a3,L⟩:=h9 L;refine⟨.normal,d,aa,i,?_,L⟩;intro S aS g A C φ a w aN u ⟨s,az,Z,r⟩ Q B;obtain⟨a5,g1,g2,O⟩:=ce (oG a2) (KQ a3) s az Z;have b2:List.range' 0 ops.toList.length=List.range ops.size:=by rw [qX,gh]
     rw [b2]at O;unfold k5 at O;simp only [dy]at O;exact JZ X g (KR a3 g A) (KP a2) a4 r G.2 O λbK aZ D cq cn ei=>B D bK aZ (u.trans (cq.mono am)) ⟨a5,g1,g2,cn⟩
   case seq x y =>
    simp only [fi]at ae;obtain⟨e,d,aa,i,t1,ae⟩:=ih none x F h hs ae
    have pass:e≠ .normal->h8 P E.cond base n (oC P none (.seq x y)) F h e d aa:=by
     intro av S aS g A C φ a w aN u r Q B;refine wp_seq (t1 S aS g A C φ a w aN u r _ λD bK aZ H M=> ?_);have:=B D bK aZ H M;cases e with
     |normal=>exact absurd rfl av
     |_=>exact this
    cases e with
    |normal =>
     obtain⟨aO,W,h2,a0,t2,ae⟩:=ih none y d aa i ae;refine⟨aO,W,h2,a0,?_,ae⟩;intro S aS g A C φ a w aN u r Q B;exact wp_seq (t1 S aS g A C φ a w aN u r _ λD bK aZ H M=>t2 S aS g A C D bK aZ aN H M Q B)
    |exit j=>exact⟨_,d,aa,i,pass an,ae⟩
    |goto l=>exact⟨_,d,aa,i,pass an,ae⟩
    |ret=>exact⟨_,d,aa,i,pass an,ae⟩
   case cond x y z =>
    simp only [fi]at ae;cases u:pT F x with
    |false=>rw [u]at ae;exact ae.elim
    |true =>
     rw [u,cond_true]at ae
     have go:∀{q:Bool},bf F x=.bool q->fi P E S (cZ P E.cond) k base n none (cond q y z) F h hs K-> ∃e I ad N,h8 P E.cond base n (oC P none (.cond x y z)) F h e I ad/\K e I ad N:=by
      intro q o ae;obtain⟨e,d,aa,i,t1,ae⟩:=ih none (cond q y z) F h hs ae;refine⟨e,d,aa,i,?_,ae⟩;intro S aS g A C φ a w aN H r Q B;have hw:=t1 S aS g A C φ a w aN H r Q B;obtain⟨s,az,Z,r⟩:=r;have R:=r.eval x;simp only at R;rw [<-Z.get u,o]at R;simp only [aB]at R;cases q
      .exact wp_cond_false R hw
      .exact wp_cond_true R hw
     split at ae
     .rename_i o;exact go (q:=true) o ae
     .rename_i o;exact go (q:=false) o ae
     .exact ae.elim
   case block id c =>
    simp only [fi]at ae;obtain⟨e,d,aa,i,t1,ae⟩:=ih none c F h hs ae
    have pass:(∀j,e≠ .exit j)->h8 P E.cond base n (oC P none (.block id c)) F h e d aa:=by
     intro av S aS g A C φ a w aN u r Q B;refine wp_block (t1 S aS g A C φ a w aN u r _ λD bK aZ H M=> ?_);have:=B D bK aZ H M;cases e with
     |exit j=>exact absurd rfl (av j)
     |_=>exact this
    cases e with
    |exit j =>
     refine⟨_,d,aa,i,?_,ae⟩;intro S aS g A C φ a w aN u r Q B;refine wp_block (t1 S aS g A C φ a w aN u r _ λD bK aZ H M=> ?_);have:=B D bK aZ H M;simp only [rv,Exit.inBlock];rcases ku j id with ⟨bv,a9⟩|⟨bv,a9⟩
     .rw [a9,cond_true]at this;rw [aE bv];exact this
     .rw [a9,cond_false]at this;rw [ap bv];exact this
    |normal=>exact⟨_,d,aa,i,pass (λj=> an),ae⟩
    |goto l=>exact⟨_,d,aa,i,pass (λj=> an),ae⟩
    |ret=>exact⟨_,d,aa,i,pass (λj=> an),ae⟩
   case loop c =>
    simp only [fi]at ae;split at ae
    .rename_i l d aa aI c9;have R:h8 P E.cond base n (oC P none (.loop c)) (nf F l) h aI d aa:=ae.1;exact⟨_,_,_,_,R.pre (b5.facts λt v c3=>uA c3),ae.2⟩
    .exact⟨_,_,_,_,ae.1,ae.2⟩
    .rename_i m r
     have key:∀(m:Nat)(F:a8)(h:T)(hs:ch),uS (λF h hs K=>fi P E S (cZ P E.cond) k base n none c F h hs K) K m F h hs-> ∃e I ad N,bX P E.cond base n c F h e I ad/\K e I ad N:=by
      intro m;induction m with
      |zero=>intro F h hs ae;exact ae.elim
      |succ m c4 =>
       intro F h hs ae;simp only [uS]at ae;obtain⟨e,d,aa,i,t1,ae⟩:=ih none c F h hs ae;cases e with
       |normal =>
        obtain⟨aO,W,h2,a0,t2,ae⟩:=c4 d aa i ae;exact⟨aO,W,h2,a0,bX.step t1 t2,ae⟩
       |exit j=>exact⟨_,d,aa,i,bX.last an t1,ae⟩
       |goto j=>exact⟨_,d,aa,i,bX.last an t1,ae⟩
       |ret=>exact⟨_,d,aa,i,bX.last an t1,ae⟩
     obtain⟨e,I,ad,N,t,L⟩:=key m F h r ae;exact⟨e,I,ad,N,cZ.dJ t,L⟩
    .rename_i p y c5;by_cases o:p
     .exact ih none (.loop c) F h y (ae.1 o)
     .exact ih none (.loop c) F h c5 (ae.2 o)
    .rename_i α p f;obtain⟨⟨x,R⟩,ae⟩:=ae;exact ih none (.loop c) F h (f x) (ae x R)
    .exact ae.elim
   case scope c =>
    simp only [fi]at ae;obtain⟨e,d,aa,i,t1,ae⟩:=ih (some c) c F h hs ae;refine⟨e,d,aa,i,?_,ae⟩;intro S aS g A C φ a w aN u r Q B;exact Cg (t1 S aS g A C φ a w aN u r Q B)
   all_goals exact ae.elim
variable(P E S)
def yw(f:FuncId)(args:List J)(h:T)(hs:ch)(K:J->T->Prop):Prop :=
 pZ P E (λb m c F h hs K=>fi P E S (cZ P E.cond) 1000 b m none c F h hs K) f args h hs λv ad _=>K v ad
def KS(base n:Nat)(c:Code)(F:a8)(h:T)(hs:ch)(keep:List Nat)(K:bW->a8->T->Prop):Prop :=
 fi P E S (cZ P E.cond) 1000 base n none c F h hs λe a ad _=>K e (nf a keep) ad
variable {P E S}
theorem oH(a:e4 P E)(l:P.follows .mixedOrders=true)(d:dv P E.cond S){f:FuncId}{args:List J}{h:T}{hs:ch}{K:J->T->Prop}{p:Prop}(e:yw P E S f args h hs K=p)(k:p):∃v ad,bl P E.cond f args h v ad/\K v ad:=by
 rw [<-e]at k;unfold yw pZ at k;split at k
 .rename_i fn j;split at k
  .rename_i c g;obtain⟨e,n,ad,o,t,m⟩:=CY a l d 1000 none c _ _ _ k;obtain⟨v,i,b⟩:=CX a j g t m;exact⟨v,ad,i,b⟩
  .exact k.elim
 .exact k.elim
theorem di(b:e4 P E)(f:P.follows .mixedOrders=true)(d:dv P E.cond S){base n:Nat}{c:Code}{F:a8}{h:T}{hs:ch}{keep:List Nat}{K:bW->a8->T->Prop}{p:Prop}(e:KS P E S base n c F h hs keep K=p)(k:p) :
 ∃e a ad,cZ P E.cond base n c F h e a ad/\K e a ad:=by
 rw [<-e]at k;obtain⟨e,a,ad,i,t,g⟩:=CY b f d 1000 none c _ _ _ k;exact⟨e,_,ad,t.post (b5.facts (a8.nj _ _)),g⟩
end
end
abbrev ag(n:Nat)(r:ch):ch:= .ak (.go n) r
abbrev he(n:Nat)(r:ch):ch:= .ak (.enter n) r
abbrev TW(a b x:Int):Prop:=a<=x/\x<=b
abbrev aW(a b:Nat)(p:Prop):Prop:=bif Nat.ble a b&&true then p else False
abbrev bk(a b:Nat)(p:Prop):Prop:=bif Nat.ble a b then p else False
noncomputable section
open Go.RowKit
mutual
theorem J.uU{D:Nat->Prop}{r:Nat->Nat}(h:∀i,D i->r i=i):∀{v:J},bQ D v->v.aK r=v
 |.ptr (some a),k=>by simp only [bQ]at k;simp only [J.aK,aT.aK,h _ k]
 |.slice (some a) _ _,k=>by simp only [bQ]at k;simp only [J.aK,aT.aK,h _ k]
 |.func fn f c,k=>by simp only [bQ]at k;simp only [J.aK,J.rQ h k.1,J.rQ h k.2]
 |.iface t v,k=>by simp only [bQ]at k;simp only [J.aK,J.uU h k]
 |.agg aX,k=>by simp only [bQ]at k;simp only [J.aK,J.rQ h k]
 |.tuple vs,k=>by simp only [bQ]at k;simp only [J.aK,J.rQ h k]
 |.undef,_=>rfl
 |.bool _,_=>rfl
 |.int _ _,_=>rfl
 |.str _,_=>rfl
 |.ptr none,_=>rfl
 |.slice none _ _,_=>rfl
 |.nilFunc,_=>rfl
 |.nilIface,_=>rfl
theorem J.rQ{D:Nat->Prop}{r:Nat->Nat}(h:∀i,D i->r i=i):∀{l:List J},dI D l->J.fD r l=l
 |[],_=>rfl
 |a::l,k=>by simp only [dI]at k;simp only [J.fD,J.uU h k.1,J.rQ h k.2]
end
def CZ(D:Nat->Prop)(b:ac):Prop:= ∀e∈b.aQ,bQ D e
end
noncomputable section
open Go.RowKit
def C0:List (Nat×ac)->Option ac
 |[]=>none
 |(k,b)::r=>_root_.cond (Nat.beq k 0) (some b) (C0 r)
def rR(o:Nat):List (Nat×ac)->List (Nat×ac)
 |[]=> []
 |(k,b)::r=>_root_.cond (Nat.beq k 0) (rR o r) (_root_.cond (Nat.beq (Nat.mod k 2) o) (((k- (2-o))/2,b)::rR o r) (rR o r))
def ofLT:Nat->List (Nat×ac)->aF ac
 |_,[]=> .nil
 |0,_=> .nil
 |d+1,l=> .node (C0 l) (ofLT d (rR 1 l)) (ofLT d (rR 0 l))
def T.af(n:Nat)(l:List (Nat×ac)):T:=⟨n,ofLT 20 l⟩
def T.lay(H:T)(n:Nat)(l:List (Nat×ac)):T:=l.foldl (λh p=>h.set p.1 p.2) {H with Y:=n}
theorem KT(l:List (Nat×ac)):∀(h:T),(l.map (·.1)).Nodup-> ∀p∈l,(l.foldl (λh p=>h.set p.1 p.2) h).get p.1=some p.2:=by
 induction l with
 |nil=>intro h _ p ae;cases ae
 |cons a r ih =>
  intro h az p ae;simp only [eF,pr]at az;rw [hB];rcases cM.1 ae with rfl|ae
  .have:∀(r:List (Nat×ac)) (h:T),p.1 ∉ r.map (·.1)->(r.foldl (λh p=>h.set p.1 p.2) h).get p.1=h.get p.1:=by
    intro r;induction r with
    |nil=>intro h _;rfl
    |cons b s c =>
     intro h hm;simp only [eF,cM,eR]at hm;rw [hB,c _ hm.2,T.eO _ _ (ki hm.1)]
   rw [this r _ az.1,T.eT]
  .exact ih _ az.2 p ae
theorem C1(l:List (Nat×ac)):∀(h:T)(i:Nat),i ∉ l.map (·.1)->(l.foldl (λh p=>h.set p.1 p.2) h).get i=h.get i:=by
 induction l with
 |nil=>intro h i _;rfl
 |cons p r ih =>
  intro h i ah;simp only [eF,cM,eR]at ah;rw [hB,ih _ i ah.2,T.eO _ _ (ki ah.1)]
theorem C2(l:List (Nat×ac)):∀(h:T),(l.foldl (λh p=>h.set p.1 p.2) h).Y=h.Y:=by
 induction l with
 |nil=>intro h;rfl
 |cons p r ih=>intro h;rw [hB,ih];rfl
theorem p0{ids:List Nat}{n i:Nat}(h:i<ids.length):cK ids n i=ids[i]:=by simp [cK,c7 h]
theorem la{ids:List Nat}{n i:Nat}(h:ids.length<=i):cK ids n i=n+(i-ids.length):=by simp [cK,hV h]
theorem C3{ids:List Nat}{n:Nat}(az:ids.Nodup)(a:∀j∈ids,j<n){i j:Nat}(e:cK ids n i=cK ids n j):i=j:=by
 by_cases cs:i<ids.length<;>by_cases c2:j<ids.length
 .rw [p0 cs,p0 c2]at e;exact(q0 az).1 e
 .rw [p0 cs,la V]at e;have:=a _ (gw cs);omega
 .rw [p0 c2,la V]at e;have:=a _ (gw c2);omega
 .rw [la V,la V]at e;omega
def aF.eC:aF ac->List (Nat×ac)
 |.nil=> []
 |.node v l r=>(match v with|some b=> [(0,b)]|none=> [])++((aF.eC l).map λp=>(2*p.1+1,p.2))++((aF.eC r).map λp=>(2*p.1+2,p.2))
theorem aF.KU(v:Option ac)(l r:aF ac)(k:Nat):(aF.node v l r).get k=_root_.cond (Nat.beq k 0) v (_root_.cond (Nat.beq (k%2) 1) (l.get (k/2)) (r.get (k/2-1))):=rfl
theorem aF.uV:∀(t:aF ac)(k:Nat)(b:ac),t.get k=some b->(k,b)∈aF.eC t
 |.nil,k,b,h=>by cases h
 |.node v l r,k,b,h=>by
  rw [aF.KU]at h;unfold aF.eC;rcases ku k 0 with ⟨e,e'⟩|⟨e,e'⟩
  .rw [e',cond_true]at h;subst h;subst e;simp
  .rw [e',cond_false]at h;rcases ku (k%2) 1 with ⟨f,a⟩|⟨f,a⟩
   .rw [a,cond_true]at h;have:=aF.uV l _ _ h;refine List.mem_append_left _ (List.mem_append_right _ (dz.2 ⟨_,this,?_⟩));simp only [bo,h0];omega
   .rw [a,cond_false]at h;have:=aF.uV r _ _ h;refine List.mem_append_right _ (dz.2 ⟨_,this,?_⟩);simp only [bo,h0];omega
theorem aF.yx:∀(t:aF ac),((aF.eC t).map (·.1)).Nodup
 |.nil=>lN
 |.node v l r=>by
  unfold aF.eC;have aa:=aF.yx l;have h2:=aF.yx r;have m1:(((aF.eC l).map λp=>(2*p.1+1,p.2)).map (·.1))=((aF.eC l).map (·.1)).map λk=>2*k+1:=by simp [n9,Function.comp_def]
  have m2:(((aF.eC r).map λp=>(2*p.1+2,p.2)).map (·.1))=((aF.eC r).map (·.1)).map λk=>2*k+2:=by simp [n9,Function.comp_def]
  rw [kj,kj,m1,m2]
  have inj:∀(l:List Nat)(c:Nat),l.Nodup->(l.map λk=>2*k+c).Nodup:=by intro l c h;rw [q1,List.pairwise_map];exact List.Pairwise.imp (λg e=>g V) (q1.1 h)
  rw [pt,pt];refine⟨⟨by cases v<;>simp,inj _ _ aa,?_⟩,inj _ _ h2,?_⟩
  .intro a d b f e;obtain⟨k,_,rfl⟩:=dz.1 f;cases v with
   |none=>simp at d
   |some x=>simp at d;omega
  .intro a d b f e;obtain⟨k,_,rfl⟩:=dz.1 f;rcases eG.1 d with d|d
   .cases v with
    |none=>simp at d
    |some x=>simp at d;omega
   .obtain⟨j,_,rfl⟩:=dz.1 d;omega
theorem bl.place{P:Program}{C:(Nat->Prop)->World->Prop}[hM C]{f:FuncId}{args:List J}{v:J}{l:List ac}{ad:T}(k:bl P C f args (T.of l) v ad)(hn':l.length<=ad.Y)
 (w:∀b∈l,CZ (λi=>i<l.length) b) (t:dI (λi=>i<l.length) args) {H:T} (ids:List Nat) (az:ids.Nodup) (y:∀j∈ids,j<H.Y) (hlen:ids.length=l.length)
 (x:∀i b,l[i]? =some b->H.get (cK ids H.Y i)=some (b.aK (cK ids H.Y))) :
 ∃H',bl P C f (args.map (J.aK (cK ids H.Y))) H (v.aK (cK ids H.Y)) H'/\H'.Y=H.Y+(ad.Y-l.length)/\(∀i b,ad.get i=some b->H'.get (cK ids H.Y i)=some (b.aK (cK ids H.Y)))/\∀j,j<H.Y->j ∉ ids->H'.get j=H.get j:=by
 let d:=aF.eC ad.ay
 have A:(d.map (·.1)).Nodup:=aF.yx _
 let s:=ad.Y
 let r:=cK ids H.Y
 have n:∀i j,r i=r j->i=j:=λi j e=>C3 az y e
 let m:List (Nat×ac):=d.map λp=>(r p.1,p.2.aK r)
 have o:m.map (·.1)=(d.map (·.1)).map r:=by simp [m,n9,Function.comp_def]
 have z:(m.map (·.1)).Nodup:=by rw [o,q1,List.pairwise_map];exact List.Pairwise.imp (λu e=>u (n _ _ e)) (q1.1 A)
 have h:∀p∈d,(H.lay (H.Y+(s-l.length)) m).get (r p.1)=some (p.2.aK r):=by intro p ae;exact KT m _ z (r p.1,p.2.aK r) (dz.2 ⟨p,ae,rfl⟩)
 have q:∀j,j<H.Y->(∀i,i<l.length->r i≠j)->j ∉ m.map (·.1):=by
  intro j a g hm;rw [o]at hm;obtain⟨i,_,e⟩:=dz.1 hm;by_cases c:i<l.length
  .exact g i c e
  .have:r i=H.Y+(i-ids.length):=la V;omega
 refine⟨H.lay (H.Y+(s-l.length)) m,k.frame (r:=r) ⟨?_,?_,?_⟩ ?_ ?_ ?_ ?_ ?_,?_,λi b ag=>h (i,b) (aF.uV _ _ _ ag),?_⟩
 .intro i b ag;rw [T.dG]at ag;exact⟨by rw [T.of_next];exact(dT.1 ag).1,x i b ag⟩
 .intro i j _ _ e;exact n i j e
 .intro i b ag e he;rw [T.dG]at ag;exact bQ.mono (λi ah=>T.pY.2 ah) (w b (fR ag) e he)
 .exact dI.mono (λi ah=>T.pY.2 ah) t
 .intro i ah;rw [T.of_next]at ah;rw [T.of_next,<-hlen];exact la V
 .intro i b ag _;exact h (i,b) (aF.uV _ _ _ ag)
 .rw [T.of_next];unfold T.lay;rw [C2]
 .intro j a g;unfold T.lay;rw [C1 _ _ _ (q j a λi ah=>g i (T.pY.2 ah))];rfl
 .unfold T.lay;rw [C2]
 .intro j a hm;unfold T.lay;rw [C1 _ _ _ (q j a λi ah e=>hm (by rw [<-e];show cK ids H.Y i∈ids;rw [p0 V];exact gw _))];rfl
theorem bl.less{P:Program}{C:(Nat->Prop)->World->Prop}{f:FuncId}{args:List J}{h h2 ad:T}{v:J}(k:bl P C f args h2 v ad)(az:h.Y<=h2.Y)(ag:∀i,i<h.Y->h2.get i=h.get i):bl P C f args h v ad :=
 λS aS l g φ w b j d c=>by obtain⟨g1,g2⟩:=k S aS l g φ w b (j.more az ag) d c;exact⟨g1,g2.mono λe aZ ⟨m,n,ao,a2,a3,a4,a5,a⟩=>⟨m,n,ao,a2.mono az,a3,a4,a5,Nat.le_trans az a⟩⟩
theorem bl.cm{P:Program}{C:(Nat->Prop)->World->Prop}[hM C]{f:FuncId}{args:List J}{v:J}(k:∃v1 aa,bl P C f args ⟨0,.nil⟩ v1 aa/\v1=v)(b:J.k6 args=true)(g:v.je=true)(H:T):bl P C f args H v H:=by
 obtain⟨v1,aa,e,rfl⟩:=k
 have d:∀{l:List J},J.k6 l=true-> ∀a∈l,ci a:=by
  intro l;induction l with
  |nil=>intro _ a b;cases b
  |cons x r ih =>
   intro c a b;simp only [J.k6,cS]at c;rcases cM.1 b with rfl|hm
   .exact ci.of c.1
   .exact ih c.2 a hm
 exact e.bare (d b) (ci.of g) H
def hN(g:List J->Option (J×List Prop)):List J->T->Option dm:=λargs h=>match g args with|some (v,ps)=>some (.one v h ps)|none=>none
theorem iz{P:Program}{C:(Nat->Prop)->World->Prop}{f:FuncId}{g:List J->Option (J×List Prop)}(k:∀args v ps,g args=some (v,ps)->a7 ps-> ∀H,bl P C f args H v H):∀args h a,hN g args h=some a->a.cx P C f args h:=by
 intro args h a e;unfold hN at e;split at e
 .rename_i u b hu;simp only [a6]at e;subst e;exact λae=>k _ _ _ hu ae h
 .cases e
end
end Go.bh
namespace Go.Keys
abbrev Bytes:=List UInt8
def lead(b:Nat):Nat×Nat×Nat :=
 if b<128 then(1,0,0)
 else if 194<=b/\b<=223 then(2,128,191)
 else if b=224 then(3,160,191)
 else if b=237 then(3,128,159)
 else if 225<=b/\b<=239 then(3,128,191)
 else if b=240 then(4,144,191)
 else if 241<=b/\b<=243 then(4,128,191)
 else if b=244 then(4,128,143)
 else(0,0,0)
def tail:Nat->Nat->Nat->Nat->Nat->Bytes->Nat×Nat×Bool
 |0,i,_,_,v,_=>(v,i,false)
 |_+1,i,_,_,_,[]=>(65533,i,true)
 |k+1,i,aD,ah,v,c::r=>if c.toNat<aD\/ah<c.toNat then(65533,i,false)else tail k (i+1) 128 191 (v*64+c.toNat%64) r
def first:Bytes->Nat×Nat×Bool
 |[]=>(0,0,false)
 |b::r =>
  if(lead b.toNat).1=0 then(65533,1,false)
  else if(lead b.toNat).1=1 then(b.toNat,1,false)
  else tail ((lead b.toNat).1-1) 1 (lead b.toNat).2.1 (lead b.toNat).2.2 (b.toNat%2^(7- (lead b.toNat).1)) r
structure aP where
 kind:Int
 code:Int:=0
 eJ:Int:=0
 x:Int:=0
 y:Int:=0
 text:Bytes:=[]
 deriving DecidableEq
theorem C4(b:Nat):(lead b).1<=4:=by
 unfold lead
 repeat' split
 all_goals simp
def gI:Nat->Bytes->List Nat
 |0,_=> []
 |_+1,[]=> []
 |k+1,s=>(first s).1::gI k (s.drop (first s).2.1)
def dn(s:Bytes):List Nat:=gI s.length s
def u8(n:Nat):UInt8:=UInt8.ofNat n
def put(r:Nat):Bytes :=
 let r:=if 55296<=r/\r<=57343\/1114111<r then 65533 else r
 if r<128 then [u8 r]
 else if r<2048 then [u8 (192+r/64),u8 (128+r%64)]
 else if r<65536 then [u8 (224+r/4096),u8 (128+r/64%64),u8 (128+r%64)]
 else [u8 (240+r/262144),u8 (128+r/4096%64),u8 (128+r/64%64),u8 (128+r%64)]
def eK(l:List Nat):Bytes:=l.flatMap put
def valid(s:Bytes):Bool:=eK (dn s) == s
def fj:Nat->Bytes->List Nat×Bytes
 |0,_=>([],[])
 |_+1,[]=>([],[])
 |k+1,b::r =>
  if(first (b::r)).2.2 then([],b::r)
  else((first (b::r)).1::(fj k ((b::r).drop (first (b::r)).2.1)).1,(fj k ((b::r).drop (first (b::r)).2.1)).2)
def bG(ax:Bytes)(c:UInt8):List Nat×Bytes:=fj (ax.length+1) (ax++[c])
inductive gE where
 |ground|cH|cd|sequence|single|cb
 deriving DecidableEq
structure bq where
 nx:gE:= .ground
 ai:Bytes:=[]
 ax:Bytes:=[]
 aw:Bytes:=[]
 deriving DecidableEq
def cY(c:Int)(m:Int:=0):aP:= {kind:=2,code:=c,eJ:=m}
def dq(c:Int)(m:Int:=0):aP:= {kind:=1,code:=c,eJ:=m}
def cQ(s:Bytes):aP:= {kind:=7,text:=s}
def control(c:Nat):aP :=
 if c=13 then cY 1 else if c=9 then cY 2 else if c=127 then cY 3 else if c=0 then dq 32 4
 else if c<27 then dq (c+96) 4 else dq (c+64) 4
def tell(s:bq)(e:aP):bq×List aP:=({s with ai:=[],nx:= .ground},[e])
def at'(ai:Bytes):Nat:=match ai with|b::_=>if b=27 then 1 else 0 | []=>0
def eZ(s:bq)(c:UInt8)(no:bq->bq×List aP):bq×List aP :=
 let l:=(bG s.ax c).1
 let s1:= {s with ax:=(bG s.ax c).2,nx:= .cd}
 if s1.ax≠[]/\l=[]then({s1 with ai:=s.ai++[c]},[])
 else if l.length=1/\s.ai.length=at' s.ai\/valid (s.ai.drop (at' s.ai)++[c])=true then
  if valid ((s.ai++[c]).drop (at' s.ai))=true then tell s1 (dq (l.headD 0) (2*at' s.ai))
  else tell s1 (cQ (s.ai++[c]))
 else no {s1 with ax:=[]}
def hH(s:bq)(c:UInt8)(no:bq->bq×List aP):bq×List aP :=
 if c.toNat<32\/c.toNat=127 then tell s (if s.ai=[]then control c.toNat else {control c.toNat with eJ:=(control c.toNat).eJ+2})
 else eZ s c no
def ground(s:bq)(c:UInt8):bq×List aP :=
 if c=27 then({s with ai:=[27],nx:= .cH},[])
 else hH s c λs1=>tell s1 (cQ s1.ai)
def bad(s:bq)(c:UInt8):bq×List aP :=
 ((ground (tell s (cQ s.ai)).1 c).1,cQ s.ai::(ground (tell s (cQ s.ai)).1 c).2)
def cd(s:bq)(c:UInt8):bq×List aP:=eZ s c λs1=>bad s1 c
def plain(s:bq)(c:UInt8):bq×List aP:=hH s c λs1=>bad s1 c
def cH(s:bq)(c:UInt8):bq×List aP :=
 if c=27 then((ground (tell s (cY 4)).1 c).1,cY 4::(ground (tell s (cY 4)).1 c).2)
 else if c=91 then({s with ai:=s.ai++[c],nx:= .sequence},[])
 else if c=79 then({s with ai:=s.ai++[c],nx:= .single},[])
 else plain s c
def dC(c:Nat):Int :=
 if 65<=c/\c<=68 then 5+(c-65)else if c=72 then 9 else if c=70 then 10 else 0
def single(s:bq)(c:UInt8):bq×List aP :=
 if 0<dC c.toNat then tell s (cY (dC c.toNat))
 else if 80<=c.toNat/\c.toNat<=83 then tell s (cY (21+(c.toNat-80)))
 else if c.toNat=77 then tell s (cY 1)
 else((ground (tell s (dq 79 2)).1 c).1,dq 79 2::(ground (tell s (dq 79 2)).1 c).2)
def splitAt(sep:UInt8):Bytes->List Bytes
 |[]=> [[]]
 |b::r=>if b=sep then []::splitAt sep r else match splitAt sep r with|w::t=>(b::w)::t | []=> [[b]]
def digit(b:UInt8):Bool:=decide (48<=b.toNat)&&decide (b.toNat<=57)
def number(w:Bytes):Nat:=w.foldl (λn b=>10*n+(b.toNat-48)) 0
def fN:List Bytes->Option (List Nat)
 |[]=>some []
 |w::r=>if w=[]\/9<w.length\/w.all digit=false then none else(fN r).map (number w:: ·)
def numbers(words:Bytes):Option (List Nat):=if words=[]then some []else fN (splitAt 59 words)
def hc(n:Nat):Int :=
 if n=1\/n=7 then 9 else if n=4\/n=8 then 10 else if n=2\/n=3 then 11+((n:Int)-2)else if n=5\/n=6 then 13+((n:Int)-5)
 else if 11<=n/\n<=15 then 21+((n:Int)-11)else if 17<=n/\n<=21 then 21+((n:Int)-12)else if n=23\/n=24 then 21+((n:Int)-13)else 0
def shown(r:Int):Bool:=decide (32<=r)&&decide (r≠127)&&decide (r<=1114111)&&(decide (r<55296) || decide (57343<r))
def cT(c:Nat)(m:Int):Option aP :=
 if c=13 then some (cY 1 m)else if c=9 then some (cY 2 m)else if c=127 then some (cY 3 m)else if c=27 then some (cY 4 m)
 else if 2097152<c\/shown c=false then none else some (dq c m)
def dj(words:Bytes)(c:Nat):Option aP :=
 match words with
 |60 ::rest =>
  match numbers rest with
  |some [d,a,n2] =>
   let held:=d/4%8
   let b:=d-4*held
   if a<1\/4096<a\/n2<1\/4096<n2 then none
   else
    let e:aP:= {kind:=3,eJ:=held,x:=(a:Int)-1,y:=(n2:Int)-1}
    if c=109/\b<=3 then some {e with code:=3}
    else if c=77/\b<=2 then some {e with code:=b}
    else if c=77/\32<=b/\b<=35 then some {e with code:=6}
    else if c=77/\b=64 then some {e with code:=4}
    else if c=77/\b=65 then some {e with code:=5}
    else none
  |_=>none
 |_=>none
def told(words:Bytes)(c:UInt8):Option aP :=
 if c=82\/c=99\/c=110 then some {kind:=6,text:=words++[c]}
 else if c=77\/c=109 then dj words c.toNat
 else
  match numbers words with
  |none=>none
  |some [] =>
   if c=90 then some (cY 2 1)else if c=73 then some {kind:=5,code:=1} else if c=79 then some {kind:=5}
   else if 0<dC c.toNat then some (cY (dC c.toNat))else none
  |some (a::r) =>
   let m:=match r with | [x]=>x|_=>1
   if 1<r.length\/m<1\/8<m then none
   else if 0<dC c.toNat/\a=1/\r.length=1 then some (cY (dC c.toNat) ((m:Int)-1))
   else if c=126/\0<hc a then some (cY (hc a) ((m:Int)-1))
   else if c=117 then cT a ((m:Int)-1)
   else none
def h'(words:Bytes):Bool:=words ==[50,48,48] || (words.dropWhile (· == 48) ==[50,48,48]&&decide (words.length<=9))
def done(s:bq)(words:Bytes)(c:UInt8):bq×List aP :=
 if c=126/\h' words=true then({s with ai:=[],nx:= .cb},[])
 else tell s ((told words c).getD (cQ s.ai))
def sequence(s:bq)(c:UInt8):bq×List aP :=
 if 64<=c.toNat/\c.toNat<=126 then done {s with ai:=s.ai++[c]} (s.ai.drop 2) c
 else if c.toNat<32\/63<c.toNat\/48<=c.toNat/\(s.ai.getLastD 0).toNat<48 then bad s c
 else if s.ai.length+1=64 then tell {s with ai:=s.ai++[c]} (cQ (s.ai++[c]))
 else({s with ai:=s.ai++[c]},[])
def c6:Bytes:=[27,91,50,48,49,126]
def shift:Nat->Bytes->Bytes->Bytes×Bytes
 |0,ai,aw=>(ai,aw)
 |_+1,[],aw=>([],aw)
 |k+1,b::r,aw=>if(b::r).isPrefixOf c6 then(b::r,aw)else shift k r (if aw.length<65536 then aw++[b]else aw)
def cb(s:bq)(c:UInt8):bq×List aP :=
 let p:=shift (s.ai.length+1) (s.ai++[c]) s.aw
 if p.1.length=6 then tell {s with ai:=p.1,aw:=[]} {kind:=4,text:=p.2}
 else({s with ai:=p.1,aw:=p.2},[])
def step(s:bq)(c:UInt8):bq×List aP :=
 match s.nx with
 |.ground=>ground s c
 |.cH=>cH s c
 |.cd=>cd s c
 |.sequence=>sequence s c
 |.single=>single s c
 |.cb=>cb s c
def bY:bq->Bytes->bq×List aP
 |s,[]=>(s,[])
 |s,c::r=>((bY (step s c).1 r).1,(step s c).2++(bY (step s c).1 r).2)
theorem uW(s:bq)(a b:Bytes):bY s (a++b)=((bY (bY s a).1 b).1,(bY s a).2++(bY (bY s a).1 b).2):=by
 induction a generalizing s with
 |nil=>simp [bY]
 |cons c r ih=>simp only [hA,bY,ih,ik]
def held(s:bq):Nat:=s.aw.length+s.ai.length
def flush(s:bq):bq×List aP :=
 if s.nx=.cb\/s.ai=[]then(s,[])
 else if s.ai=[27]then tell {s with ax:=[]} (cY 4)
 else if s.ai=[27,91]\/s.ai=[27,79]then tell {s with ax:=[]} (dq ((s.ai.getD 1 0).toNat) 2)
 else tell {s with ax:=[]} (cQ s.ai)
end Go.Keys
namespace Go.Proofs.YtddnafghiejcoaaGreatDoor
open Go.bh Go.Keys
set_option maxRecDepth 1000000
abbrev cB(x:Nat) : Option aT := some ⟨x, 0, 0, 0, 3⟩
abbrev b7(x:Nat) : Option aT := some ⟨x, 0, 0, 0, 4⟩
abbrev aY(h:T)(k:Nat) : T := T.mk (h.Y+k) h.2
abbrev cX(x:Nat) : Option aT := some ⟨x, 0, 0, 0, 1⟩
abbrev ba(x:Nat) : Option aT := some ⟨x, 0, 0, 0, 6⟩
abbrev bC(f:FuncId)(a:List J)(h:T)(K:J -> T -> Prop) : Prop := ∃v aa, bl Tryz.prog ck f a h v aa /\ K v aa
abbrev bu := bl Tryz.prog ck
abbrev bM := uB Tryz.prog ck
abbrev bR := cZ Tryz.prog ck
abbrev dl := bX Tryz.prog ck
noncomputable abbrev br := Kx Tryz.prog
abbrev bj := Option (TypeId × Nat)
abbrev bm := J -> T -> Prop
theorem bI{S:dB}{f:FuncId}{args:List J}{h:T}{K:J -> T -> Prop}{p:Prop}(a:dv Tryz.prog ck S)(hs:ch)(k:p)(e : yw Tryz.prog env S f args h hs K = p := by kernel_rfl) : bC f args h K := oH cP mixed a e k
theorem KV(a:Int)(b:bm)(c:(a<128->b (J.tuple [J.int .i64 (1),J.int .u8 (0),J.int .u8 (0)]) (T.af 9 []))/\(¬a<128->(194<=a->(a<=223->b (J.tuple [J.int .i64 (2),J.int .u8 (128),J.int .u8 (191)]) (T.af 16 []))/\(¬a<=223->(a=224->b (J.tuple [J.int .i64 (3),J.int .u8 (160),J.int .u8 (191)]) (T.af 19 []))/\(¬a=224->(a=237->b (J.tuple [J.int .i64 (3),J.int .u8 (128),J.int .u8 (159)]) (T.af 22 []))/\(¬a=237->(225<=a->(a<=239->b (J.tuple [J.int .i64 (3),J.int .u8 (128),J.int .u8 (191)]) (T.af 29 []))/\(¬a<=239->(a=240->b (J.tuple [J.int .i64 (4),J.int .u8 (144),J.int .u8 (191)]) (T.af 32 []))/\(¬a=240->(241<=a->(a<=243->b (J.tuple [J.int .i64 (4),J.int .u8 (128),J.int .u8 (191)]) (T.af 39 []))/\(¬a<=243->(a=244->b (J.tuple [J.int .i64 (4),J.int .u8 (128),J.int .u8 (143)]) (T.af 42 []))/\(¬a=244->b (J.tuple [J.int .i64 (0),J.int .u8 (0),J.int .u8 (0)]) (T.af 42 []))))/\(¬241<=a->(a=244->b (J.tuple [J.int .i64 (4),J.int .u8 (128),J.int .u8 (143)]) (T.af 42 []))/\(¬a=244->b (J.tuple [J.int .i64 (0),J.int .u8 (0),J.int .u8 (0)]) (T.af 42 []))))))/\(¬225<=a->(a=240->b (J.tuple [J.int .i64 (4),J.int .u8 (144),J.int .u8 (191)]) (T.af 32 []))/\(¬a=240->(241<=a->(a<=243->b (J.tuple [J.int .i64 (4),J.int .u8 (128),J.int .u8 (191)]) (T.af 39 []))/\(¬a<=243->(a=244->b (J.tuple [J.int .i64 (4),J.int .u8 (128),J.int .u8 (143)]) (T.af 42 []))/\(¬a=244->b (J.tuple [J.int .i64 (0),J.int .u8 (0),J.int .u8 (0)]) (T.af 42 []))))/\(¬241<=a->(a=244->b (J.tuple [J.int .i64 (4),J.int .u8 (128),J.int .u8 (143)]) (T.af 42 []))/\(¬a=244->b (J.tuple [J.int .i64 (0),J.int .u8 (0),J.int .u8 (0)]) (T.af 42 [])))))))))/\(¬194<=a->(a=224->b (J.tuple [J.int .i64 (3),J.int .u8 (160),J.int .u8 (191)]) (T.af 19 []))/\(¬a=224->(a=237->b (J.tuple [J.int .i64 (3),J.int .u8 (128),J.int .u8 (159)]) (T.af 22 []))/\(¬a=237->(225<=a->(a<=239->b (J.tuple [J.int .i64 (3),J.int .u8 (128),J.int .u8 (191)]) (T.af 29 []))/\(¬a<=239->(a=240->b (J.tuple [J.int .i64 (4),J.int .u8 (144),J.int .u8 (191)]) (T.af 32 []))/\(¬a=240->(241<=a->(a<=243->b (J.tuple [J.int .i64 (4),J.int .u8 (128),J.int .u8 (191)]) (T.af 39 []))/\(¬a<=243->(a=244->b (J.tuple [J.int .i64 (4),J.int .u8 (128),J.int .u8 (143)]) (T.af 42 []))/\(¬a=244->b (J.tuple [J.int .i64 (0),J.int .u8 (0),J.int .u8 (0)]) (T.af 42 []))))/\(¬241<=a->(a=244->b (J.tuple [J.int .i64 (4),J.int .u8 (128),J.int .u8 (143)]) (T.af 42 []))/\(¬a=244->b (J.tuple [J.int .i64 (0),J.int .u8 (0),J.int .u8 (0)]) (T.af 42 []))))))/\(¬225<=a->(a=240->b (J.tuple [J.int .i64 (4),J.int .u8 (144),J.int .u8 (191)]) (T.af 32 []))/\(¬a=240->(241<=a->(a<=243->b (J.tuple [J.int .i64 (4),J.int .u8 (128),J.int .u8 (191)]) (T.af 39 []))/\(¬a<=243->(a=244->b (J.tuple [J.int .i64 (4),J.int .u8 (128),J.int .u8 (143)]) (T.af 42 []))/\(¬a=244->b (J.tuple [J.int .i64 (0),J.int .u8 (0),J.int .u8 (0)]) (T.af 42 []))))/\(¬241<=a->(a=244->b (J.tuple [J.int .i64 (4),J.int .u8 (128),J.int .u8 (143)]) (T.af 42 []))/\(¬a=244->b (J.tuple [J.int .i64 (0),J.int .u8 (0),J.int .u8 (0)]) (T.af 42 [])))))))))) :
 bC 99 [.int .u8 a] (⟨0,.nil⟩) b :=
 bI bT (.aq 1001 .nil (.aq 3001 (.aq 3004 .nil (.aq 5001 .nil (.aq 7001 .nil (.aq 9001 (.aq 9004 .nil (.aq 11001 .nil (.aq 13001 (.aq 13004 .nil (.aq 15001 .nil .nil)) (.aq 15001 .nil .nil)))) (.aq 11001 .nil (.aq 13001 (.aq 13004 .nil (.aq 15001 .nil .nil)) (.aq 15001 .nil .nil))))))) (.aq 5001 .nil (.aq 7001 .nil (.aq 9001 (.aq 9004 .nil (.aq 11001 .nil (.aq 13001 (.aq 13004 .nil (.aq 15001 .nil .nil)) (.aq 15001 .nil .nil)))) (.aq 11001 .nil (.aq 13001 (.aq 13004 .nil (.aq 15001 .nil .nil)) (.aq 15001 .nil .nil)))))))) c
def cv(b:Int):Int×Int×Int :=
 if b<128 then(1,0,0)else if 194<=b/\b<=223 then(2,128,191)else if b=224 then(3,160,191)else if b=237 then(3,128,159)else if 225<=b/\b<=239 then(3,128,191)
 else if b=240 then(4,144,191)else if 241<=b/\b<=243 then(4,128,191)else if b=244 then(4,128,143)else(0,0,0)
def kx(b:Int):J:= .tuple [.int .i64 (cv b).1,.int .u8 (cv b).2.1,.int .u8 (cv b).2.2]
theorem KW(b x y z:Int)(h:cv b=(x,y,z)):J.tuple [.int .i64 x,.int .u8 y,.int .u8 z]=kx b:=by unfold kx;rw [h]
theorem np(b:Int)(H:T):bu 99 [.int .u8 b] H (kx b) H:=by
 refine bl.cm (KV b (λv _=>v=kx b) ?_) rfl rfl H
 repeat' (first|apply And.intro|intro _)
 all_goals (refine KW _ _ _ _ ?_;unfold cv;repeat' split)
 all_goals first|rfl|omega
theorem KX(a:Int)(b:bm)(c:(a=65->(0<=a-65/\a-65<=255)/\(-2147483648<=a-65/\a-65<=2147483647)/\(-2147483648<=5+(a-65)/\5+(a-65)<=2147483647)/\b (J.int .i32 (5+(a-65))) (T.af 9 []))/\(¬a=65->(a=66->(0<=a-65/\a-65<=255)/\(-2147483648<=a-65/\a-65<=2147483647)/\(-2147483648<=5+(a-65)/\5+(a-65)<=2147483647)/\b (J.int .i32 (5+(a-65))) (T.af 11 []))/\(¬a=66->(a=67->(0<=a-65/\a-65<=255)/\(-2147483648<=a-65/\a-65<=2147483647)/\(-2147483648<=5+(a-65)/\5+(a-65)<=2147483647)/\b (J.int .i32 (5+(a-65))) (T.af 13 []))/\(¬a=67->(a=68->(0<=a-65/\a-65<=255)/\(-2147483648<=a-65/\a-65<=2147483647)/\(-2147483648<=5+(a-65)/\5+(a-65)<=2147483647)/\b (J.int .i32 (5+(a-65))) (T.af 15 []))/\(¬a=68->(a=72->b (J.int .i32 (9)) (T.af 13 []))/\(¬a=72->(a=70->b (J.int .i32 (10)) (T.af 15 []))/\(¬a=70->b (J.int .i32 (0)) (T.af 15 [])))))))) :
 bC 71 [.int .u8 a] (⟨0,.nil⟩) b :=
 bI bT (.aq 2000 (.ak (.go 6001) (.ak (.go 6002) (.ak (.go 6003) .nil))) (.aq 3000 (.ak (.go 6001) (.ak (.go 6002) (.ak (.go 6003) .nil))) (.aq 4000 (.ak (.go 6001) (.ak (.go 6002) (.ak (.go 6003) .nil))) (.aq 5000 (.ak (.go 6001) (.ak (.go 6002) (.ak (.go 6003) .nil))) (.aq 7000 .nil (.aq 9000 .nil .nil)))))) c
def fZ(c:Int):Int:=if 65<=c/\c<=68 then 5+(c-65)else if c=72 then 9 else if c=70 then 10 else 0
theorem KY(c:Int)(H:T):bu 71 [.int .u8 c] H (.int .i32 (fZ c)) H:=by
 refine bl.cm (KX c (λv _=>v=.int .i32 (fZ c)) ?_) rfl rfl H
 repeat' (first|apply And.intro|intro _)
 all_goals first
  |omega
  |(refine dW (J.int .i32) ?_;unfold fZ;repeat' split)
 all_goals omega
theorem KZ(a:Int)(b:bm)(c:(a=1->b (J.int .i32 (9)) (T.af 9 []))/\(¬a=1->(a=7->b (J.int .i32 (9)) (T.af 9 []))/\(¬a=7->(a=4->b (J.int .i32 (10)) (T.af 16 []))/\(¬a=4->(a=8->b (J.int .i32 (10)) (T.af 16 []))/\(¬a=8->(a=2->(-9223372036854775808<=a-2/\a-2<=9223372036854775807)/\(-2147483648<=a-2/\a-2<=2147483647)/\(-2147483648<=11+(a-2)/\11+(a-2)<=2147483647)/\b (J.int .i32 (11+(a-2))) (T.af 27 []))/\(¬a=2->(a=3->(-9223372036854775808<=a-2/\a-2<=9223372036854775807)/\(-2147483648<=a-2/\a-2<=2147483647)/\(-2147483648<=11+(a-2)/\11+(a-2)<=2147483647)/\b (J.int .i32 (11+(a-2))) (T.af 27 []))/\(¬a=3->(a=5->(-9223372036854775808<=a-5/\a-5<=9223372036854775807)/\(-2147483648<=a-5/\a-5<=2147483647)/\(-2147483648<=13+(a-5)/\13+(a-5)<=2147483647)/\b (J.int .i32 (13+(a-5))) (T.af 34 []))/\(¬a=5->(a=6->(-9223372036854775808<=a-5/\a-5<=9223372036854775807)/\(-2147483648<=a-5/\a-5<=2147483647)/\(-2147483648<=13+(a-5)/\13+(a-5)<=2147483647)/\b (J.int .i32 (13+(a-5))) (T.af 34 []))/\(¬a=6->(11<=a->(a<=15->(-9223372036854775808<=a-11/\a-11<=9223372036854775807)/\(-2147483648<=a-11/\a-11<=2147483647)/\(-2147483648<=21+(a-11)/\21+(a-11)<=2147483647)/\b (J.int .i32 (21+(a-11))) (T.af 41 []))/\(¬a<=15->(17<=a->(a<=21->(-9223372036854775808<=a-12/\a-12<=9223372036854775807)/\(-2147483648<=a-12/\a-12<=2147483647)/\(-2147483648<=21+(a-12)/\21+(a-12)<=2147483647)/\b (J.int .i32 (21+(a-12))) (T.af 48 []))/\(¬a<=21->(a=23->(-9223372036854775808<=a-13/\a-13<=9223372036854775807)/\(-2147483648<=a-13/\a-13<=2147483647)/\(-2147483648<=21+(a-13)/\21+(a-13)<=2147483647)/\b (J.int .i32 (21+(a-13))) (T.af 55 []))/\(¬a=23->(a=24->(-9223372036854775808<=a-13/\a-13<=9223372036854775807)/\(-2147483648<=a-13/\a-13<=2147483647)/\(-2147483648<=21+(a-13)/\21+(a-13)<=2147483647)/\b (J.int .i32 (21+(a-13))) (T.af 55 []))/\(¬a=24->b (J.int .i32 (0)) (T.af 51 [])))))/\(¬17<=a->(a=23->(-9223372036854775808<=a-13/\a-13<=9223372036854775807)/\(-2147483648<=a-13/\a-13<=2147483647)/\(-2147483648<=21+(a-13)/\21+(a-13)<=2147483647)/\b (J.int .i32 (21+(a-13))) (T.af 55 []))/\(¬a=23->(a=24->(-9223372036854775808<=a-13/\a-13<=9223372036854775807)/\(-2147483648<=a-13/\a-13<=2147483647)/\(-2147483648<=21+(a-13)/\21+(a-13)<=2147483647)/\b (J.int .i32 (21+(a-13))) (T.af 55 []))/\(¬a=24->b (J.int .i32 (0)) (T.af 51 []))))))/\(¬11<=a->(17<=a->(a<=21->(-9223372036854775808<=a-12/\a-12<=9223372036854775807)/\(-2147483648<=a-12/\a-12<=2147483647)/\(-2147483648<=21+(a-12)/\21+(a-12)<=2147483647)/\b (J.int .i32 (21+(a-12))) (T.af 48 []))/\(¬a<=21->(a=23->(-9223372036854775808<=a-13/\a-13<=9223372036854775807)/\(-2147483648<=a-13/\a-13<=2147483647)/\(-2147483648<=21+(a-13)/\21+(a-13)<=2147483647)/\b (J.int .i32 (21+(a-13))) (T.af 55 []))/\(¬a=23->(a=24->(-9223372036854775808<=a-13/\a-13<=9223372036854775807)/\(-2147483648<=a-13/\a-13<=2147483647)/\(-2147483648<=21+(a-13)/\21+(a-13)<=2147483647)/\b (J.int .i32 (21+(a-13))) (T.af 55 []))/\(¬a=24->b (J.int .i32 (0)) (T.af 51 [])))))/\(¬17<=a->(a=23->(-9223372036854775808<=a-13/\a-13<=9223372036854775807)/\(-2147483648<=a-13/\a-13<=2147483647)/\(-2147483648<=21+(a-13)/\21+(a-13)<=2147483647)/\b (J.int .i32 (21+(a-13))) (T.af 55 []))/\(¬a=23->(a=24->(-9223372036854775808<=a-13/\a-13<=9223372036854775807)/\(-2147483648<=a-13/\a-13<=2147483647)/\(-2147483648<=21+(a-13)/\21+(a-13)<=2147483647)/\b (J.int .i32 (21+(a-13))) (T.af 55 []))/\(¬a=24->b (J.int .i32 (0)) (T.af 51 [])))))))))))))) :
 bC 72 [.int .i64 a] (⟨0,.nil⟩) b :=
 bI bT (.aq 1001 .nil (.aq 1004 .nil (.aq 3001 .nil (.aq 3004 .nil (.aq 5001 (.ak (.go 6001) (.ak (.go 6002) (.ak (.go 6003) .nil))) (.aq 5004 (.ak (.go 6001) (.ak (.go 6002) (.ak (.go 6003) .nil))) (.aq 7001 (.ak (.go 8001) (.ak (.go 8002) (.ak (.go 8003) .nil))) (.aq 7004 (.ak (.go 8001) (.ak (.go 8002) (.ak (.go 8003) .nil))) (.aq 9001 (.aq 9004 (.ak (.go 10001) (.ak (.go 10002) (.ak (.go 10003) .nil))) (.aq 11001 (.aq 11004 (.ak (.go 12001) (.ak (.go 12002) (.ak (.go 12003) .nil))) (.aq 13001 (.ak (.go 14001) (.ak (.go 14002) (.ak (.go 14003) .nil))) (.aq 13004 (.ak (.go 14001) (.ak (.go 14002) (.ak (.go 14003) .nil))) .nil))) (.aq 13001 (.ak (.go 14001) (.ak (.go 14002) (.ak (.go 14003) .nil))) (.aq 13004 (.ak (.go 14001) (.ak (.go 14002) (.ak (.go 14003) .nil))) .nil)))) (.aq 11001 (.aq 11004 (.ak (.go 12001) (.ak (.go 12002) (.ak (.go 12003) .nil))) (.aq 13001 (.ak (.go 14001) (.ak (.go 14002) (.ak (.go 14003) .nil))) (.aq 13004 (.ak (.go 14001) (.ak (.go 14002) (.ak (.go 14003) .nil))) .nil))) (.aq 13001 (.ak (.go 14001) (.ak (.go 14002) (.ak (.go 14003) .nil))) (.aq 13004 (.ak (.go 14001) (.ak (.go 14002) (.ak (.go 14003) .nil))) .nil)))))))))))) c
def hq(n:Int):Int :=
 if n=1\/n=7 then 9 else if n=4\/n=8 then 10 else if n=2\/n=3 then 11+(n-2)else if n=5\/n=6 then 13+(n-5)
 else if 11<=n/\n<=15 then 21+(n-11)else if 17<=n/\n<=21 then 21+(n-12)else if n=23\/n=24 then 21+(n-13)else 0
set_option maxHeartbeats 4000000 in
theorem K0(n:Int)(H:T):bu 72 [.int .i64 n] H (.int .i32 (hq n)) H:=by
 refine bl.cm (KZ n (λv _=>v=.int .i32 (hq n)) ?_) rfl rfl H
 repeat' (first|apply And.intro|intro _)
 all_goals first
  |omega
  |(refine dW (J.int .i32) ?_;unfold hq;repeat' split)
 all_goals omega
theorem K1(a:Int)(b:bm)(c:(32<=a->(a=127->b (J.bool false) (T.af 20 []))/\(¬a=127->(a<=1114111->(a<55296->b (J.bool true) (T.af 20 []))/\(¬a<55296->(57343<a->b (J.bool true) (T.af 20 []))/\(¬57343<a->b (J.bool false) (T.af 20 []))))/\(¬a<=1114111->b (J.bool false) (T.af 20 []))))/\(¬32<=a->b (J.bool false) (T.af 20 []))) :
 bC 41 [.int .i32 a] (⟨0,.nil⟩) b :=
 bI bT (.aq 1001 (.aq 1004 .nil (.aq 1008 (.aq 1012 .nil (.aq 1015 .nil .nil)) .nil)) .nil) c
theorem K2(r:Int)(H:T):bu 41 [.int .i32 r] H (.bool (shown r)) H:=by
 refine bl.cm (K1 r (λv _=>v=.bool (shown r)) ?_) rfl rfl H
 repeat' (first|apply And.intro|intro _)
 all_goals (refine dW J.bool ?_;simp [shown];try omega)
def bi(e:aP):J:= .agg [.int .i8 e.kind,.int .i32 e.code,.int .u8 e.eJ,.int .i64 e.x,.int .i64 e.y,.str e.text]
theorem K3(a:Int)(b:bm)(c:(a=13->b (J.agg [J.int .i8 (2),J.int .i32 (1),J.int .u8 (0),J.int .i64 (0),J.int .i64 (0),J.str []]) (T.af 6 [(0,(ac.aj ([J.agg [J.int .i8 (2),J.int .i32 (1),J.int .u8 (0),J.int .i64 (0),J.int .i64 (0),J.str []]]) 6 true (some (42,6))))]))/\(¬a=13->(a=9->b (J.agg [J.int .i8 (2),J.int .i32 (2),J.int .u8 (0),J.int .i64 (0),J.int .i64 (0),J.str []]) (T.af 8 [(0,(ac.aj ([J.agg [J.int .i8 (2),J.int .i32 (2),J.int .u8 (0),J.int .i64 (0),J.int .i64 (0),J.str []]]) 6 true (some (42,6))))]))/\(¬a=9->(a=127->b (J.agg [J.int .i8 (2),J.int .i32 (3),J.int .u8 (0),J.int .i64 (0),J.int .i64 (0),J.str []]) (T.af 10 [(0,(ac.aj ([J.agg [J.int .i8 (2),J.int .i32 (3),J.int .u8 (0),J.int .i64 (0),J.int .i64 (0),J.str []]]) 6 true (some (42,6))))]))/\(¬a=127->(a=0->b (J.agg [J.int .i8 (1),J.int .i32 (32),J.int .u8 (4),J.int .i64 (0),J.int .i64 (0),J.str []]) (T.af 12 [(0,(ac.aj ([J.agg [J.int .i8 (1),J.int .i32 (32),J.int .u8 (4),J.int .i64 (0),J.int .i64 (0),J.str []]]) 6 true (some (42,6))))]))/\(¬a=0->(a<27->(-2147483648<=a/\a<=2147483647)/\True/\b (J.agg [J.int .i8 (1),J.int .i32 (cf .i32 a (96)),J.int .u8 (4),J.int .i64 (0),J.int .i64 (0),J.str []]) (T.af 17 [(0,(ac.aj ([J.agg [J.int .i8 (1),J.int .i32 (cf .i32 a (96)),J.int .u8 (4),J.int .i64 (0),J.int .i64 (0),J.str []]]) 6 true (some (42,6))))]))/\(¬a<27->(-2147483648<=a/\a<=2147483647)/\True/\b (J.agg [J.int .i8 (1),J.int .i32 (cf .i32 a (64)),J.int .u8 (4),J.int .i64 (0),J.int .i64 (0),J.str []]) (T.af 17 [(0,(ac.aj ([J.agg [J.int .i8 (1),J.int .i32 (cf .i32 a (64)),J.int .u8 (4),J.int .i64 (0),J.int .i64 (0),J.str []]]) 6 true (some (42,6))))]))))))) :
 bC 89 [.int .u8 a] (⟨0,.nil⟩) b :=
 bI bT (.aq 2000 .nil (.aq 4000 .nil (.aq 6000 .nil (.aq 8000 .nil (.aq 10001 (.ak (.go 11001) (.ak (.go 11002) .nil)) (.ak (.go 12001) (.ak (.go 12002) .nil))))))) c
theorem K4:∀n:Fin 27,0<n.val->cf .i32 (n.val:Int) 96=n.val+96:=by decide+kernel
theorem K5:∀n:Fin 32,26<n.val->cf .i32 (n.val:Int) 64=n.val+64:=by decide+kernel
theorem K6(c:Int)(al:0<=c/\(c<32\/c=127))(a:c≠27)(H:T):bu 89 [.int .u8 c] H (bi (control c.toNat)) H:=by
 refine bl.cm (K3 c (λv _=>v=bi (control c.toNat)) ?_) rfl rfl H;obtain⟨n,rfl⟩:=Int.eq_ofNat_of_zero_le al.1
 repeat' (first|apply And.intro|intro _)
 all_goals first
  |omega
  |exact trivial
  |skip
 all_goals simp only [fU]
 all_goals unfold Go.Keys.control
 all_goals repeat' split
 all_goals first
  |(exfalso;omega)
  |rfl
  |(have:=K4 ⟨n,V⟩ (by simp;omega);simp only at this;rw [this];rfl)
  |(have:=K5 ⟨n,V⟩ (by simp;omega);simp only at this;rw [this];rfl)
theorem K7(b:Int):(cv b).1=0\/(cv b).1=1\/(cv b).1=2\/(cv b).1=3\/(cv b).1=4:=by
 unfold cv
 repeat' split
 all_goals simp
def yy:List J->T->Option dm:=λa h =>
 match a with
 |[.int .u8 b]=>some (.or ((cv b).1=0) (.one (.tuple [.int .i64 0,.int .u8 (cv b).2.1,.int .u8 (cv b).2.2]) h []) (.or ((cv b).1=1) (.one (.tuple [.int .i64 1,.int .u8 (cv b).2.1,.int .u8 (cv b).2.2]) h [])
  (.or ((cv b).1=2) (.one (.tuple [.int .i64 2,.int .u8 (cv b).2.1,.int .u8 (cv b).2.2]) h []) (.or ((cv b).1=3) (.one (.tuple [.int .i64 3,.int .u8 (cv b).2.1,.int .u8 (cv b).2.2]) h []) (.one (.tuple [.int .i64 4,.int .u8 (cv b).2.1,.int .u8 (cv b).2.2]) h [])))))
 |_=>none
theorem K8:∀args h a,yy args h=some a->a.cx Tryz.prog ck 99 args h:=by
 intro args h a e;unfold yy at e;split at e<;>first|(cases e;done)|skip
 rename_i b;simp only [a6]at e;subst e;have go:∀n,(cv b).1=n->bu 99 [.int .u8 b] h (.tuple [.int .i64 n,.int .u8 (cv b).2.1,.int .u8 (cv b).2.2]) h:=λn az=>by rw [<-az];exact np b h
 exact⟨λe _=>go _ e,λc=>⟨λe _=>go _ e,λd=>⟨λe _=>go _ e,λn2=>⟨λe _=>go _ e,λf _=>go _ (by have:=K7 b;omega)⟩⟩⟩⟩
def l0:dB:=((((CT.add 99 yy).add 71 (hN λa=>match a with | [.int .u8 b]=>some (.int .i32 (fZ b),[])|_=>none)).add
 72 (hN λa=>match a with | [.int .i64 b]=>some (.int .i32 (hq b),[])|_=>none)).add 41 (hN λa=>match a with | [.int .i32 b]=>some (.bool (shown b),[])|_=>none)).add
 89 (hN λa=>match a with | [.int .u8 b]=>some (bi (control b.toNat),[0<=b/\(b<32\/b=127),b≠27])|_=>none)
theorem dP:dv Tryz.prog ck l0:=by
 refine((((bT.add K8).add (iz ?_)).add (iz ?_)).add (iz ?_)).add (iz ?_)
 all_goals
  intro args v ps e ae H;split at e<;>first|(cases e;done)|skip
  simp only [a6,bo]at e;obtain⟨rfl,rfl⟩:=e
 .exact KY _ H
 .exact K0 _ H
 .exact K2 _ H
 .exact K6 _ ae.head ae.tail.head H
abbrev fk(a b c d n:Int)(ty:bj):ac:=ac.aj [.agg [.int .u8 a,.int .u8 b,.int .u8 c,.int .u8 d,.int .i64 n]] 5 true ty
abbrev e8(c:Int):ac:=ac.aj [.int .u8 c] 1 true
abbrev cl(a:Int):ac:=(ac.aj ([.int .u8 a]) 1 true)
abbrev l1:ch:=(ag 7001 (ag 7004 (.ak (.rounds 300) .nil)))
abbrev C5:ac:=(ac.aj ([.slice (cX 19) 1 1]) 1 true (some (34,1)))
abbrev nq(b c d a:Int):J:=J.agg [.int .u8 a,.int .u8 b,.int .u8 c,.int .u8 d,.int .i64 1]
abbrev yz(a b c d:Int)(e:bj):ac:=⟨[.agg [.int .u8 a,.int .u8 b,.int .u8 c,.int .u8 d,.int .i64 0]],5,true,false,0,0,0,e⟩
abbrev ky(b c d a:Int)(e:bj):ac:=⟨[(nq b c d a)],5,true,false,0,0,0,e⟩
abbrev uX(b c d a:Int)(e:bj):T:=(T.af 95 [(0,(ky b c d a e)),(1,(cl a)),(5,ac.aj (List.replicate 0 (.int .u8 0)) 1 true),(15,C5),(19,ac.aj [.int .u8 a] 1 false (some (5,0)))])
theorem K9(g c d e a j i:Int)(f:bj)(b:bm)(h:(Prod.fst (cv a)=0->b (.slice (cX 70) 1 1) (T.af 81 [(0,(yz g c d e f)),(1,(cl a)),(5,ac.aj (List.replicate 0 (.int .u8 0)) 1 true),(15,(ac.aj ([.slice (some ⟨19,0,1,0,1⟩) 0 0]) 1 true (some (34,1)))),(19,ac.aj [.int .u8 a] 1 false (some (5,0))),(69,ac.aj [.int .i32 65533] 1 true),(70,ac.aj [.int .i32 65533] 1 false (some (21,0)))]))/\(¬Prod.fst (cv a)=0->(Prod.fst (cv a)=1->(-2147483648<=a/\a<=2147483647)/\b (.slice (cX 74) 1 1) (T.af 85 [(0,(yz g c d e f)),(1,(cl a)),(5,ac.aj (List.replicate 0 (.int .u8 0)) 1 true),(15,(ac.aj ([.slice (some ⟨19,0,1,0,1⟩) 0 0]) 1 true (some (34,1)))),(19,ac.aj [.int .u8 a] 1 false (some (5,0))),(73,ac.aj [.int .i32 a] 1 true),(74,ac.aj [.int .i32 a] 1 false (some (21,0)))]))/\(¬Prod.fst (cv a)=1->(Prod.fst (cv a)=2->(-2147483648<=a/\a<=2147483647)/\True/\b (.slice none 0 0) (uX c d e a f))/\(¬Prod.fst (cv a)=2->(Prod.fst (cv a)=3->(-2147483648<=a/\a<=2147483647)/\True/\b (.slice none 0 0) (uX c d e a f))/\(¬Prod.fst (cv a)=3->(-2147483648<=a/\a<=2147483647)/\True/\b (.slice none 0 0) (uX c d e a f)))))) :
 bC 107 [.ptr (some ⟨0,0,0,0,5⟩),.slice (cX 1) 1 1] (T.of [fk g c d e 0 f,e8 a]) b :=
 bI dP (.ak (.rounds 300) (he 8003 (he 1001 (.aq 2001 .nil (.aq 2001 (ag 6001 .nil) (.aq 2001 l1 (.aq 2001 l1 l1))))))) h
abbrev uY:J:=J.slice (some ⟨14,1,1,0,1⟩) 1 1
abbrev uZ:J:=J.slice (some ⟨14,1,2,0,1⟩) 0 0
abbrev p1:J:=J.slice (cX 104) 1 1
abbrev lb:J:=J.slice (some ⟨104,1,0,0,1⟩) 2 2
abbrev oI(a b c d:Int):J:=J.agg [.int .u8 a,.int .u8 b,.int .u8 c,.int .u8 d,.int .i64 0]
abbrev iA(b a:Int)(c:bj):ac:=⟨[.int .u8 b,.int .u8 a],1,false,false,1,0,1,some (5,0)⟩
abbrev l3(a:Int)(b:bj):ac:=⟨[.int .i32 65533,.int .i32 a],1,false,false,1,0,1,some (21,0)⟩
abbrev l4(a:bj):ac:=⟨[.int .i32 65533,.int .i32 65533],1,false,false,1,0,1,some (21,0)⟩
abbrev u0:ac:=(ac.aj ([uY]) 1 true (some (34,1)))
abbrev p2:ac:=(ac.aj ([uZ]) 1 true (some (34,1)))
abbrev jP:ch:=(he 1001 (.aq 2001 .nil (.aq 2001 (ag 6001 .nil) (.aq 2001 l1 (.aq 2001 l1 l1)))))
abbrev fE(a b c d:Int)(e:bj):ac:=⟨[(oI a b c d)],5,true,false,0,0,0,e⟩
abbrev yA(b d e f a:Int)(c:bj):T:=(T.af 61 [(0,(fE b d e f c)),(1,(cl a)),(5,ac.aj (List.replicate 0 (.int .u8 0)) 1 true),(14,(iA b a c)),(15,(ac.aj ([.slice (some ⟨14,1,0,0,1⟩) 2 2]) 1 true (some (34,1))))])
abbrev p3(c d e f a:Int)(b:bj):T:=(T.af 179 [(0,(ky d e f a b)),(1,(cl a)),(5,ac.aj (List.replicate 0 (.int .u8 0)) 1 true),(14,(iA c a b)),(15,u0),(103,ac.aj [.int .i32 65533] 1 true),(104,ac.aj [.int .i32 65533] 1 false (some (21,0)))])
abbrev u1(c d e f a:Int)(b:bj):T:=(T.af 169 [(0,(fE c d e f b)),(1,(cl a)),(5,ac.aj (List.replicate 0 (.int .u8 0)) 1 true),(14,(iA c a b)),(15,p2),(103,ac.aj [.int .i32 65533] 1 true),(104,(l3 a b)),(157,ac.aj [.int .i32 a] 1 true)])
abbrev l5(c d e f b:Int)(a:bj):T:=(T.af 165 [(0,(fE c d e f a)),(1,(cl b)),(5,ac.aj (List.replicate 0 (.int .u8 0)) 1 true),(14,(iA c b a)),(15,p2),(103,ac.aj [.int .i32 65533] 1 true),(104,(l4 a)),(153,ac.aj [.int .i32 65533] 1 true)])
abbrev u2(c d e f a:Int)(g:bj)(b:bm):Prop:=(¬Prod.fst (cv a)=2->(Prod.fst (cv a)=3->(-2147483648<=a/\a<=2147483647)/\True/\b (p1) (p3 c d e f a g))/\(¬Prod.fst (cv a)=3->(-2147483648<=a/\a<=2147483647)/\True/\b (p1) (p3 c d e f a g)))
abbrev l6(c d e f a:Int)(g:bj)(b:bm):Prop:=(¬Prod.fst (cv a)=0->(Prod.fst (cv a)=1->(-2147483648<=a/\a<=2147483647)/\b (lb) (u1 c d e f a g))/\(¬Prod.fst (cv a)=1->(Prod.fst (cv a)=2->(-2147483648<=a/\a<=2147483647)/\True/\b (p1) (p3 c d e f a g))/\(u2 c d e f a g b)))
theorem K'(b d e f a i h:Int)(c:bj)(g:bm)(j:bM 99 [.int .u8 b] (yA b d e f a c) (.tuple [.int .i64 2,.int .u8 i,.int .u8 h]) (yA b d e f a c)/\(-2147483648<=b/\b<=2147483647)/\True/\(a<i->(Prod.fst (cv a)=0->g (lb) (l5 b d e f a c))/\(l6 b d e f a c g))/\(¬a<i->(h<a->(Prod.fst (cv a)=0->g (lb) (l5 b d e f a c))/\(l6 b d e f a c g))/\(¬h<a->Int.NonNeg (6-0)/\True/\(-2147483648<=be .u8 a (63)/\be .u8 a (63)<=2147483647)/\True/\g (.slice (cX 120) 1 1) (T.af 131 [(0,(fE b d e f c)),(1,(cl a)),(5,ac.aj (List.replicate 0 (.int .u8 0)) 1 true),(14,(iA b a c)),(15,p2),(119,ac.aj [.int .i32 (cf .i32 (eD .i32 (be .i32 b (31)) (6)) (be .u8 a (63)))] 1 true),(120,ac.aj [.int .i32 (cf .i32 (eD .i32 (be .i32 b (31)) (6)) (be .u8 a (63)))] 1 false (some (21,0)))])))) :
 bC 107 [.ptr (some ⟨0,0,0,0,5⟩),.slice (cX 1) 1 1] (T.of [fk b d e f 1 c,e8 a]) g :=
 bI dP (.ak (.rounds 300) (he 8003 (he 1001 (.ak (.val 2001 (.tuple [.int .i64 2,.int .u8 i,.int .u8 h])) (ag 7001 (ag 7004 (.ak (.rounds 300) (he 13002 (.aq 14002 (he 8003 jP) (.aq 14006 (he 8003 jP) (ag 17001 (ag 17003 (ag 17004 (ag 17005 .nil)))))))))))))) j
abbrev nr:ac:=(ac.aj ([.slice (some ⟨14,1,0,0,1⟩) 2 2]) 1 true (some (34,1)))
theorem La(b f d e a i h:Int)(c:bj)(g:bm)(j:bM 99 [.int .u8 b] (T.af 61 [(0,(fE b f d e c)),(1,(cl a)),(5,ac.aj (List.replicate 0 (.int .u8 0)) 1 true),(14,(iA b a c)),(15,nr)]) (.tuple [.int .i64 3,.int .u8 i,.int .u8 h]) (T.af 61 [(0,(fE b f d e c)),(1,(cl a)),(5,ac.aj (List.replicate 0 (.int .u8 0)) 1 true),(14,(iA b a c)),(15,nr)])/\(-2147483648<=b/\b<=2147483647)/\True/\(a<i->(Prod.fst (cv a)=0->g (lb) (l5 b f d e a c))/\(l6 b f d e a c g))/\(¬a<i->(h<a->(Prod.fst (cv a)=0->g (lb) (l5 b f d e a c))/\(l6 b f d e a c g))/\(¬h<a->Int.NonNeg (6-0)/\True/\(-2147483648<=be .u8 a (63)/\be .u8 a (63)<=2147483647)/\True/\g (.slice none 0 0) (T.af 131 [(0,⟨[.agg [.int .u8 b,.int .u8 a,.int .u8 d,.int .u8 e,.int .i64 2]],5,true,false,0,0,0,c⟩),(1,(cl a)),(5,ac.aj (List.replicate 0 (.int .u8 0)) 1 true),(14,(iA b a c)),(15,nr)])))) :
 bC 107 [.ptr (some ⟨0,0,0,0,5⟩),.slice (cX 1) 1 1] (T.of [fk b f d e 1 c,e8 a]) g :=
 bI dP (.ak (.rounds 300) (he 8003 (he 1001 (.ak (.val 2001 (.tuple [.int .i64 3,.int .u8 i,.int .u8 h])) (ag 7001 (ag 7004 (.ak (.rounds 300) (he 13002 (.aq 14002 (he 8003 jP) (.aq 14006 (he 8003 jP) (ag 17001 (ag 17003 (ag 17004 (ag 17005 .nil)))))))))))))) j
theorem Lb(b f d e a i h:Int)(c:bj)(g:bm)(j:bM 99 [.int .u8 b] (T.af 61 [(0,(fE b f d e c)),(1,(cl a)),(5,ac.aj (List.replicate 0 (.int .u8 0)) 1 true),(14,(iA b a c)),(15,nr)]) (.tuple [.int .i64 4,.int .u8 i,.int .u8 h]) (T.af 61 [(0,(fE b f d e c)),(1,(cl a)),(5,ac.aj (List.replicate 0 (.int .u8 0)) 1 true),(14,(iA b a c)),(15,nr)])/\(-2147483648<=b/\b<=2147483647)/\True/\(a<i->(Prod.fst (cv a)=0->g (lb) (l5 b f d e a c))/\(l6 b f d e a c g))/\(¬a<i->(h<a->(Prod.fst (cv a)=0->g (lb) (l5 b f d e a c))/\(l6 b f d e a c g))/\(¬h<a->Int.NonNeg (6-0)/\True/\(-2147483648<=be .u8 a (63)/\be .u8 a (63)<=2147483647)/\True/\g (.slice none 0 0) (T.af 131 [(0,⟨[.agg [.int .u8 b,.int .u8 a,.int .u8 d,.int .u8 e,.int .i64 2]],5,true,false,0,0,0,c⟩),(1,(cl a)),(5,ac.aj (List.replicate 0 (.int .u8 0)) 1 true),(14,(iA b a c)),(15,nr)])))) :
 bC 107 [.ptr (some ⟨0,0,0,0,5⟩),.slice (cX 1) 1 1] (T.of [fk b f d e 1 c,e8 a]) g :=
 bI dP (.ak (.rounds 300) (he 8003 (he 1001 (.ak (.val 2001 (.tuple [.int .i64 4,.int .u8 i,.int .u8 h])) (ag 7001 (ag 7004 (.ak (.rounds 300) (he 13002 (.aq 14002 (he 8003 jP) (.aq 14006 (he 8003 jP) (ag 17001 (ag 17003 (ag 17004 (ag 17005 .nil)))))))))))))) j
abbrev yB:J:=J.slice (some ⟨14,1,2,0,1⟩) 1 1
abbrev yC:J:=J.slice (some ⟨14,1,3,0,1⟩) 0 0
abbrev rS:J:=J.slice (cX 140) 1 1
abbrev oJ:J:=J.slice (some ⟨140,1,0,0,1⟩) 2 2
abbrev lc(b c a:Int)(d:bj):ac:=⟨[.int .u8 b,.int .u8 c,.int .u8 a],1,false,false,1,0,2,some (5,0)⟩
abbrev yD:ac:=(ac.aj ([yB]) 1 true (some (34,1)))
abbrev rT:ac:=(ac.aj ([yC]) 1 true (some (34,1)))
abbrev yE(b c e f a:Int)(d:bj):T:=(T.af 61 [(0,(fE b c e f d)),(1,(cl a)),(5,ac.aj (List.replicate 0 (.int .u8 0)) 1 true),(14,(lc b c a d)),(15,(ac.aj ([.slice (some ⟨14,1,0,0,1⟩) 3 3]) 1 true (some (34,1))))])
abbrev rU(d b e f a:Int)(c:bj):T:=(T.af 215 [(0,(ky b e f a c)),(1,(cl a)),(5,ac.aj (List.replicate 0 (.int .u8 0)) 1 true),(14,(lc d b a c)),(15,yD),(139,ac.aj [.int .i32 65533] 1 true),(140,ac.aj [.int .i32 65533] 1 false (some (21,0)))])
abbrev yF(c d e f a:Int)(b:bj):T:=(T.af 205 [(0,(fE c d e f b)),(1,(cl a)),(5,ac.aj (List.replicate 0 (.int .u8 0)) 1 true),(14,(lc c d a b)),(15,rT),(139,ac.aj [.int .i32 65533] 1 true),(140,(l3 a b)),(193,ac.aj [.int .i32 a] 1 true)])
abbrev p4(c d e f b:Int)(a:bj):T:=(T.af 201 [(0,(fE c d e f a)),(1,(cl b)),(5,ac.aj (List.replicate 0 (.int .u8 0)) 1 true),(14,(lc c d b a)),(15,rT),(139,ac.aj [.int .i32 65533] 1 true),(140,(l4 a)),(189,ac.aj [.int .i32 65533] 1 true)])
abbrev yG(c d e f a:Int)(g:bj)(b:bm):Prop:=(¬Prod.fst (cv a)=2->(Prod.fst (cv a)=3->(-2147483648<=a/\a<=2147483647)/\True/\b (rS) (rU c d e f a g))/\(¬Prod.fst (cv a)=3->(-2147483648<=a/\a<=2147483647)/\True/\b (rS) (rU c d e f a g)))
abbrev p5(c d e f a:Int)(g:bj)(b:bm):Prop:=(¬Prod.fst (cv a)=0->(Prod.fst (cv a)=1->(-2147483648<=a/\a<=2147483647)/\b (oJ) (yF c d e f a g))/\(¬Prod.fst (cv a)=1->(Prod.fst (cv a)=2->(-2147483648<=a/\a<=2147483647)/\True/\b (rS) (rU c d e f a g))/\(yG c d e f a g b)))
theorem Lc(c b e f a i h:Int)(d:bj)(g:bm)(j:bM 99 [.int .u8 c] (yE c b e f a d) (.tuple [.int .i64 3,.int .u8 i,.int .u8 h]) (yE c b e f a d)/\(-2147483648<=c/\c<=2147483647)/\True/\some (J.bool (decide (b<i)))=some (J.bool false)/\some (J.bool (decide (b>h)))=some (J.bool false)/\Int.NonNeg (6-0)/\True/\(-2147483648<=be .u8 b (63)/\be .u8 b (63)<=2147483647)/\True/\(a<128->(Prod.fst (cv a)=0->g (oJ) (p4 c b e f a d))/\(p5 c b e f a d g))/\(¬a<128->(191<a->(Prod.fst (cv a)=0->g (oJ) (p4 c b e f a d))/\(p5 c b e f a d g))/\(¬191<a->Int.NonNeg (6-0)/\True/\(-2147483648<=be .u8 a (63)/\be .u8 a (63)<=2147483647)/\True/\g (.slice (cX 156) 1 1) (T.af 167 [(0,(fE c b e f d)),(1,(cl a)),(5,ac.aj (List.replicate 0 (.int .u8 0)) 1 true),(14,(lc c b a d)),(15,rT),(155,ac.aj [.int .i32 (cf .i32 (eD .i32 (cf .i32 (eD .i32 (be .i32 c (15)) (6)) (be .u8 b (63))) (6)) (be .u8 a (63)))] 1 true),(156,ac.aj [.int .i32 (cf .i32 (eD .i32 (cf .i32 (eD .i32 (be .i32 c (15)) (6)) (be .u8 b (63))) (6)) (be .u8 a (63)))] 1 false (some (21,0)))])))) :
 bC 107 [.ptr (some ⟨0,0,0,0,5⟩),.slice (cX 1) 1 1] (T.of [fk c b e f 2 d,e8 a]) g :=
 bI dP (.ak (.rounds 300) (he 8003 (he 1001 (.ak (.val 2001 (.tuple [.int .i64 3,.int .u8 i,.int .u8 h])) (ag 7001 (ag 7004 (.ak (.rounds 300) (he 13002 (.ak (.val 14002 (.bool false)) (.ak (.val 14006 (.bool false)) (ag 17001 (ag 17003 (ag 17004 (ag 17005 (he 13002 (.aq 14002 (he 8003 jP) (.aq 14006 (he 8003 jP) (ag 17001 (ag 17003 (ag 17004 (ag 17005 .nil))))))))))))))))))))) j
abbrev u3:ac:=(ac.aj ([.slice (some ⟨14,1,0,0,1⟩) 3 3]) 1 true (some (34,1)))
theorem Ld(c b f e a i h:Int)(d:bj)(g:bm)(j:bM 99 [.int .u8 c] (T.af 61 [(0,(fE c b f e d)),(1,(cl a)),(5,ac.aj (List.replicate 0 (.int .u8 0)) 1 true),(14,(lc c b a d)),(15,u3)]) (.tuple [.int .i64 4,.int .u8 i,.int .u8 h]) (T.af 61 [(0,(fE c b f e d)),(1,(cl a)),(5,ac.aj (List.replicate 0 (.int .u8 0)) 1 true),(14,(lc c b a d)),(15,u3)])/\(-2147483648<=c/\c<=2147483647)/\True/\some (J.bool (decide (b<i)))=some (J.bool false)/\some (J.bool (decide (b>h)))=some (J.bool false)/\Int.NonNeg (6-0)/\True/\(-2147483648<=be .u8 b (63)/\be .u8 b (63)<=2147483647)/\True/\(a<128->(Prod.fst (cv a)=0->g (oJ) (p4 c b f e a d))/\(p5 c b f e a d g))/\(¬a<128->(191<a->(Prod.fst (cv a)=0->g (oJ) (p4 c b f e a d))/\(p5 c b f e a d g))/\(¬191<a->Int.NonNeg (6-0)/\True/\(-2147483648<=be .u8 a (63)/\be .u8 a (63)<=2147483647)/\True/\g (.slice none 0 0) (T.af 167 [(0,⟨[.agg [.int .u8 c,.int .u8 b,.int .u8 a,.int .u8 e,.int .i64 3]],5,true,false,0,0,0,d⟩),(1,(cl a)),(5,ac.aj (List.replicate 0 (.int .u8 0)) 1 true),(14,(lc c b a d)),(15,u3)])))) :
 bC 107 [.ptr (some ⟨0,0,0,0,5⟩),.slice (cX 1) 1 1] (T.of [fk c b f e 2 d,e8 a]) g :=
 bI dP (.ak (.rounds 300) (he 8003 (he 1001 (.ak (.val 2001 (.tuple [.int .i64 4,.int .u8 i,.int .u8 h])) (ag 7001 (ag 7004 (.ak (.rounds 300) (he 13002 (.ak (.val 14002 (.bool false)) (.ak (.val 14006 (.bool false)) (ag 17001 (ag 17003 (ag 17004 (ag 17005 (he 13002 (.aq 14002 (he 8003 jP) (.aq 14006 (he 8003 jP) (ag 17001 (ag 17003 (ag 17004 (ag 17005 .nil))))))))))))))))))))) j
abbrev C6:J:=J.slice (some ⟨14,1,3,0,1⟩) 1 1
abbrev C7:J:=J.slice (some ⟨14,1,4,0,1⟩) 0 0
abbrev u4:J:=J.slice (cX 176) 1 1
abbrev u5:J:=J.slice (some ⟨176,1,0,0,1⟩) 2 2
abbrev p6(b c d a:Int)(e:bj):ac:=⟨[.int .u8 b,.int .u8 c,.int .u8 d,.int .u8 a],1,false,false,1,0,3,some (5,0)⟩
abbrev C8:ac:=(ac.aj ([C6]) 1 true (some (34,1)))
abbrev u6:ac:=(ac.aj ([C7]) 1 true (some (34,1)))
abbrev yH(b c d f a:Int)(e:bj):T:=(T.af 61 [(0,(fE b c d f e)),(1,(cl a)),(5,ac.aj (List.replicate 0 (.int .u8 0)) 1 true),(14,(p6 b c d a e)),(15,(ac.aj ([.slice (some ⟨14,1,0,0,1⟩) 4 4]) 1 true (some (34,1))))])
abbrev u7(e b c f a:Int)(d:bj):T:=(T.af 251 [(0,(ky b c f a d)),(1,(cl a)),(5,ac.aj (List.replicate 0 (.int .u8 0)) 1 true),(14,(p6 e b c a d)),(15,C8),(175,ac.aj [.int .i32 65533] 1 true),(176,ac.aj [.int .i32 65533] 1 false (some (21,0)))])
abbrev C9(c d e f a:Int)(b:bj):T:=(T.af 241 [(0,(fE c d e f b)),(1,(cl a)),(5,ac.aj (List.replicate 0 (.int .u8 0)) 1 true),(14,(p6 c d e a b)),(15,u6),(175,ac.aj [.int .i32 65533] 1 true),(176,(l3 a b)),(229,ac.aj [.int .i32 a] 1 true)])
abbrev yI(c d e f b:Int)(a:bj):T:=(T.af 237 [(0,(fE c d e f a)),(1,(cl b)),(5,ac.aj (List.replicate 0 (.int .u8 0)) 1 true),(14,(p6 c d e b a)),(15,u6),(175,ac.aj [.int .i32 65533] 1 true),(176,(l4 a)),(225,ac.aj [.int .i32 65533] 1 true)])
abbrev C'(c d e f a:Int)(g:bj)(b:bm):Prop:=(¬Prod.fst (cv a)=2->(Prod.fst (cv a)=3->(-2147483648<=a/\a<=2147483647)/\True/\b (u4) (u7 c d e f a g))/\(¬Prod.fst (cv a)=3->(-2147483648<=a/\a<=2147483647)/\True/\b (u4) (u7 c d e f a g)))
abbrev yJ(c d e f a:Int)(g:bj)(b:bm):Prop:=(¬Prod.fst (cv a)=0->(Prod.fst (cv a)=1->(-2147483648<=a/\a<=2147483647)/\b (u5) (C9 c d e f a g))/\(¬Prod.fst (cv a)=1->(Prod.fst (cv a)=2->(-2147483648<=a/\a<=2147483647)/\True/\b (u4) (u7 c d e f a g))/\(C' c d e f a g b)))
theorem Le(d b c f a i h:Int)(e:bj)(g:bm)(j:bM 99 [.int .u8 d] (yH d b c f a e) (.tuple [.int .i64 4,.int .u8 i,.int .u8 h]) (yH d b c f a e)/\(-2147483648<=d/\d<=2147483647)/\True/\some (J.bool (decide (b<i)))=some (J.bool false)/\some (J.bool (decide (b>h)))=some (J.bool false)/\Int.NonNeg (6-0)/\True/\(-2147483648<=be .u8 b (63)/\be .u8 b (63)<=2147483647)/\True/\some (J.bool (decide (c<128)))=some (J.bool false)/\some (J.bool (decide (c>191)))=some (J.bool false)/\Int.NonNeg (6-0)/\True/\(-2147483648<=be .u8 c (63)/\be .u8 c (63)<=2147483647)/\True/\(a<128->(Prod.fst (cv a)=0->g (u5) (yI d b c f a e))/\(yJ d b c f a e g))/\(¬a<128->(191<a->(Prod.fst (cv a)=0->g (u5) (yI d b c f a e))/\(yJ d b c f a e g))/\(¬191<a->Int.NonNeg (6-0)/\True/\(-2147483648<=be .u8 a (63)/\be .u8 a (63)<=2147483647)/\True/\g (.slice (cX 192) 1 1) (T.af 203 [(0,(fE d b c f e)),(1,(cl a)),(5,ac.aj (List.replicate 0 (.int .u8 0)) 1 true),(14,(p6 d b c a e)),(15,u6),(191,ac.aj [.int .i32 (cf .i32 (eD .i32 (cf .i32 (eD .i32 (cf .i32 (eD .i32 (be .i32 d (7)) (6)) (be .u8 b (63))) (6)) (be .u8 c (63))) (6)) (be .u8 a (63)))] 1 true),(192,ac.aj [.int .i32 (cf .i32 (eD .i32 (cf .i32 (eD .i32 (cf .i32 (eD .i32 (be .i32 d (7)) (6)) (be .u8 b (63))) (6)) (be .u8 c (63))) (6)) (be .u8 a (63)))] 1 false (some (21,0)))])))) :
 bC 107 [.ptr (some ⟨0,0,0,0,5⟩),.slice (cX 1) 1 1] (T.of [fk d b c f 3 e,e8 a]) g :=
 bI dP (.ak (.rounds 300) (he 8003 (he 1001 (.ak (.val 2001 (.tuple [.int .i64 4,.int .u8 i,.int .u8 h])) (ag 7001 (ag 7004 (.ak (.rounds 300) (he 13002 (.ak (.val 14002 (.bool false)) (.ak (.val 14006 (.bool false)) (ag 17001 (ag 17003 (ag 17004 (ag 17005 (he 13002 (.ak (.val 14002 (.bool false)) (.ak (.val 14006 (.bool false)) (ag 17001 (ag 17003 (ag 17004 (ag 17005 (he 13002 (.aq 14002 (he 8003 jP) (.aq 14006 (he 8003 jP) (ag 17001 (ag 17003 (ag 17004 (ag 17005 .nil)))))))))))))))))))))))))))) j
end Go.Proofs.YtddnafghiejcoaaGreatDoor
namespace Go.bh
theorem Lf:∀n:Fin 256,be .i32 (n.val:Int) 31=(n.val%32:Nat):=by decide+kernel
theorem Lg:∀n:Fin 256,be .i32 (n.val:Int) 15=(n.val%16:Nat):=by decide+kernel
theorem Lh:∀n:Fin 256,be .i32 (n.val:Int) 7=(n.val%8:Nat):=by decide+kernel
theorem Li:∀n:Fin 256,be .u8 (n.val:Int) 63=(n.val%64:Nat):=by decide+kernel
theorem Da(b:UInt8):be .i32 (b.toNat:Int) 31=(b.toNat%32:Nat):=Lf ⟨b.toNat,b.toNat_lt⟩
theorem Db(b:UInt8):be .i32 (b.toNat:Int) 15=(b.toNat%16:Nat):=Lg ⟨b.toNat,b.toNat_lt⟩
theorem Dc(b:UInt8):be .i32 (b.toNat:Int) 7=(b.toNat%8:Nat):=Lh ⟨b.toNat,b.toNat_lt⟩
theorem jh(b:UInt8):be .u8 (b.toNat:Int) 63=(b.toNat%64:Nat):=Li ⟨b.toNat,b.toNat_lt⟩
theorem jQ(a:Nat)(h:a<33554432):eD .i32 (a:Int) 6=(a*64:Nat):=by unfold eD;rw [show min (Int.toNat 6) (IntKind.bits .i32)=6 by decide];rw [show((a:Int)*2^6)=(a*64:Nat)by push_cast;rfl];exact lX (k:= .i32) (by simp only [jM];omega)
theorem jR(a x:Nat)(h:a<16777216)(b:x<64):cf .i32 ((a*64:Nat):Int) (x:Int)=(a*64+x:Nat):=by
 unfold cf
 have e:(BitVec.ofInt (IntKind.bits .i32) ((a*64:Nat):Int) ||| BitVec.ofInt (IntKind.bits .i32) (x:Int)).toNat=a*64+x:=by rw [show IntKind.bits .i32=32 by rfl,BitVec.ofInt_natCast,BitVec.ofInt_natCast,BitVec.toNat_or,BitVec.toNat_ofNat,BitVec.toNat_ofNat,qY V,qY V];rw [show a*64=2^6*a by omega,<-Nat.two_pow_add_eq_or_of_lt V a]
 rw [e];exact lX (k:= .i32) (by simp only [jM];omega)
end Go.bh
namespace Go.Proofs.YtddnafghiejcoaaGreatDoor
open Go.bh Go.Keys
set_option maxRecDepth 1000000
def Lj(x:Nat×Nat×Nat):Int×Int×Int:=((x.1:Int),(x.2.1:Int),(x.2.2:Int))
theorem Lk(n:Nat):cv (n:Int)=Lj (lead n):=by
 have ao:((n:Int)<128)=(n<128):=propext V;have a2:(194<=(n:Int)/\(n:Int)<=223)=(194<=n/\n<=223):=propext V;have a3:((n:Int)=224)=(n=224):=propext V;have a4:((n:Int)=237)=(n=237):=propext V;have a5:(225<=(n:Int)/\(n:Int)<=239)=(225<=n/\n<=239):=propext V;have d:((n:Int)=240)=(n=240):=propext V;have e:(241<=(n:Int)/\(n:Int)<=243)=(241<=n/\n<=243):=propext V;have f:((n:Int)=244)=(n=244):=propext V;unfold cv lead;simp only [ao,a2,a3,a4,a5,d,e,f];by_cases cs:n<128
 .simp only [aE cs];rfl
 by_cases c2:194<=n/\n<=223
 .simp only [ap cs,aE c2];rfl
 by_cases c3:n=224
 .simp only [ap cs,ap c2,aE c3];rfl
 by_cases c4:n=237
 .simp only [ap cs,ap c2,ap c3,aE c4];rfl
 by_cases c5:225<=n/\n<=239
 .simp only [ap cs,ap c2,ap c3,ap c4,aE c5];rfl
 by_cases a:n=240
 .simp only [ap cs,ap c2,ap c3,ap c4,ap c5,aE a];rfl
 by_cases b:241<=n/\n<=243
 .simp only [ap cs,ap c2,ap c3,ap c4,ap c5,ap a,aE b];rfl
 by_cases c:n=244
 .simp only [ap cs,ap c2,ap c3,ap c4,ap c5,ap a,ap b,aE c];rfl
 .simp only [ap cs,ap c2,ap c3,ap c4,ap c5,ap a,ap b,ap c];rfl
theorem ns(n:Nat):cv (n:Int)=(((lead n).1:Int),((lead n).2.1:Int),((lead n).2.2:Int)):=Lk n
theorem oK(b:UInt8):(cv (b.toNat:Int)).1=(lead b.toNat).1:=by rw [ns]
theorem gF(n:Nat):(lead n).1=0\/(lead n).1=1\/(lead n).1=2\/(lead n).1=3\/(lead n).1=4:=by
 unfold lead
 repeat' split
 all_goals simp
def bF(h:Bytes)(i:Nat)(k:Int):Int:=match h[i]? with|some b=>b.toNat|none=>k
abbrev bJ(h:Bytes)(a b c d:Int)(ty:bj):ac:=fk (bF h 0 a) (bF h 1 b) (bF h 2 c) (bF h 3 d) h.length ty
abbrev rV(r:Nat):ac:=ac.aj [.int .i32 r] 1 false (some (21,0))
abbrev rW(r s:Nat):ac:= {aQ:=[.int .i32 r,.int .i32 s],es:=1,exact:=false,ro:=false,ab:=1,eb:=0,eS:=1,ty:=some (21,0)}
def jS(a b d e c:Int)(ty:bj)(q:List Nat×Bytes)(v:J)(h:T):Prop :=
 h.get 0=some (bJ q.2 a b d e ty)/\h.get 1=some (e8 c) /\
 match q.1 with
 |[]=>v=.slice none 0 0
 |[r]=> ∃j,2<=j/\v=.slice (some ⟨j,0,0,0,1⟩) 1 1/\h.get j=some (rV r)
 |[r,s]=> ∃j,2<=j/\v=.slice (some ⟨j,1,0,0,1⟩) 2 2/\h.get j=some (rW r s)
 |_=>False
theorem p7{a b d f c:Int}{ty:bj}{q:List Nat×Bytes}{h2:Bytes}(e:q=([],h2)){h:T}(aN:h.get 0=some (bJ h2 a b d f ty))(aa:h.get 1=some (e8 c)):jS a b d f c ty q (.slice none 0 0) h:=by subst e;exact⟨aN,aa,rfl⟩
theorem dQ{a b d f c:Int}{ty:bj}{q:List Nat×Bytes}{r:Nat}{h2:Bytes}(e:q=([r],h2)){h:T}{j:Nat}(g:2<=j)(aN:h.get 0=some (bJ h2 a b d f ty))(aa:h.get 1=some (e8 c))(i:h.get j=some (rV r)) :
 jS a b d f c ty q (.slice (some ⟨j,0,0,0,1⟩) 1 1) h:=by
 subst e;exact⟨aN,aa,j,g,rfl,i⟩
theorem fO{a b d f c:Int}{ty:bj}{q:List Nat×Bytes}{r s:Nat}{h2:Bytes}(e:q=([r,s],h2)){h:T}{j:Nat}(g:2<=j)(aN:h.get 0=some (bJ h2 a b d f ty))(aa:h.get 1=some (e8 c))(i:h.get j=some (rW r s)) :
 jS a b d f c ty q (.slice (some ⟨j,1,0,0,1⟩) 2 2) h:=by
 subst e;exact⟨aN,aa,j,g,rfl,i⟩
theorem cE(b:UInt8): -2147483648<=(b.toNat:Int)/\(b.toNat:Int)<=2147483647:=by have:=b.toNat_lt;omega
theorem gJ(b:UInt8): -2147483648<=be .u8 (b.toNat:Int) 63/\be .u8 (b.toNat:Int) 63<=2147483647:=by rw [jh];omega
theorem iB(c:UInt8)(h:(lead c.toNat).1=0):bG [] c=([65533],[]):=by simp [bG,fj,first,h]
theorem iC(c:UInt8)(h:(lead c.toNat).1=1):bG [] c=([c.toNat],[]):=by simp [bG,fj,first,h]
theorem hI(b:UInt8)(r:Bytes)(n:Nat)(h:(lead b.toNat).1=n+2):first (b::r)=tail (n+1) 1 (lead b.toNat).2.1 (lead b.toNat).2.2 (b.toNat%2^(7- (n+2))) r:=by simp only [first,h];rw [ap V,ap V];rfl
theorem dK(c:UInt8)(n:Nat)(h:(lead c.toNat).1=n+2):bG [] c=([],[c]):=by simp [bG,fj,hI c [] n h,tail]
theorem Ll(c:UInt8)(a b d f:Int)(ty:bj) :
 ∃v aa,bu 107 [.ptr (some ⟨0,0,0,0,5⟩),.slice (some ⟨1,0,0,0,1⟩) 1 1] (T.of [fk a b d f 0 ty,e8 c.toNat]) v aa/\jS a b d f c.toNat ty (bG [] c) v aa:=by
 refine K9 a b d f c.toNat 0 0 ty _ ?_
 delta uX C5 cl ky nq yz
 rw [oK]
 refine⟨λe=>dQ (iB c V) aA rfl rfl rfl,λg=>⟨λe=>⟨cE c,dQ (iC c V) aA rfl rfl rfl⟩,λh=>⟨λe=>⟨cE c,trivial,p7 (dK c 0 V) rfl rfl⟩,
  λn2=>⟨λe=>⟨cE c,trivial,p7 (dK c 1 V) rfl rfl⟩,λi=>⟨cE c,trivial,p7 (dK c 2 (by have:=gF c.toNat;omega)) rfl rfl⟩⟩⟩⟩⟩
theorem gn:Int.NonNeg (6-0):=(show(0:Int)<=6 by decide)
theorem p8(k:Nat):fj k []=([],[]):=by cases k<;>rfl
theorem Lm(k:Nat)(c:UInt8):fj (k+1) [c]=fj 1 [c]:=by
 have a:∀n,1<=n->List.drop n [c]=[]:=λn az=>by rw [tA];simpa using az
 have az:(first [c]).2.2=false->1<=(first [c]).2.1:=by
  intro h;by_cases aN:(lead c.toNat).1=0
  .simp [first,aN]
  .by_cases aa:(lead c.toNat).1=1
   .simp [first,aa]
   .rw [hI c [] ((lead c.toNat).1-2) V]at h;simp [tail]at h
 simp only [fj];cases h:(first [c]).2.2 with
 |true=>simp
 |false=>simp only [ew,ey];rw [a _ (az h),p8]
theorem p9(b:UInt8)(r:Bytes)(c:UInt8)(v:Nat)(a:first (b::r++[c])=(v,(b::r).length,false)):bG (b::r) c=(v::(bG [] c).1,(bG [] c).2):=by
 unfold bG;simp only [hA,b',fj];have d:first (b::(r++[c]))=(v,r.length+1,false):=a
 simp only [d,ew,ey,List.drop_succ_cons];rw [pw,Lm];rfl
theorem yK(b:UInt8)(r:Bytes)(c:UInt8)(v:Nat)(a:first (b::r++[c])=(v,(b::r).length+1,false)):bG (b::r) c=([v],[]):=by
 unfold bG;simp only [hA,b',fj];have d:first (b::(r++[c]))=(v,r.length+1+1,false):=a
 simp only [d,ew,ey,List.drop_succ_cons];rw [px an,p8]
theorem rX(b:UInt8)(r:Bytes)(c:UInt8)(a:(first (b::r++[c])).2.2=true):bG (b::r) c=([],b::r++[c]):=by unfold bG;simp only [hA,b',fj];have d:(first (b::(r++[c]))).2.2=true:=a;rw [aE d]
theorem Ln(au c:UInt8)(b d f:Int)(ty:bj)(h:(lead au.toNat).1=2) :
 ∃v aa,bu 107 [.ptr (some ⟨0,0,0,0,5⟩),.slice (some ⟨1,0,0,0,1⟩) 1 1] (T.of [fk au.toNat b d f 1 ty,e8 c.toNat]) v aa/\jS au.toNat b d f c.toNat ty (bG (au:: []) c) v aa:=by
 have g:∀r,first (au::r)=tail 1 1 (lead au.toNat).2.1 (lead au.toNat).2.2 (au.toNat%2^(7-2)) r:=λr=>hI au r 0 h
 have a:(c.toNat<(lead au.toNat).2.1\/(lead au.toNat).2.2<c.toNat)->bG (au:: []) c=(65533::(bG [] c).1,(bG [] c).2):=λal=>p9 _ _ _ _ (by rw [show(au:: [])++[c]=au:: [c]by rfl,g];simp only [tail];rw [aE al];rfl)
 have i:¬(c.toNat<(lead au.toNat).2.1\/(lead au.toNat).2.2<c.toNat)->bG (au:: []) c=([(au.toNat%32)*64+c.toNat%64],[]):=λal=>yK _ _ _ _ (by rw [show(au:: [])++[c]=au:: [c]by rfl,g];simp only [tail];rw [ap al];rfl)
 have j:cf .i32 (eD .i32 (be .i32 (au.toNat:Int) 31) 6) (be .u8 (c.toNat:Int) 63)=(((au.toNat%32)*64+c.toNat%64:Nat):Int):=by rw [Da,jh c,jQ _ V,jR _ _ V V]
 refine K' au.toNat b d f c.toNat (lead au.toNat).2.1 (lead au.toNat).2.2 ty _ ?_
 delta p2 uZ iA cl fE oI l6 u2 p3 u0 uY ky nq p1 u1 l3 lb l5 l4 yA
 rw [oK];refine⟨⟨by have k:=λH=>np au.toNat H;simp only [kx,ns,h]at k;exact k _⟩,cE au,trivial,λq=> ?_,λo=>⟨λp=> ?_,λhle=>⟨gn,trivial,gJ c,trivial,dQ (i V) aA rfl rfl (dW (λx=>some (ac.aj [.int .i32 x] 1 false (some (21,0)))) j)⟩⟩⟩
 .exact⟨λe=>fO (by rw [a V,iB c V]) aA rfl rfl rfl,λl=>⟨λe=>⟨cE c,fO (by rw [a V,iC c V]) aA rfl rfl rfl⟩,λm=>⟨λe=>⟨cE c,trivial,dQ (by rw [a V,dK c 0 V]) aA rfl rfl rfl⟩,
   λn2=>⟨λe=>⟨cE c,trivial,dQ (by rw [a V,dK c 1 V]) aA rfl rfl rfl⟩,λn=>⟨cE c,trivial,dQ (by rw [a V,dK c 2 (by have:=gF c.toNat;omega)]) aA rfl rfl rfl⟩⟩⟩⟩⟩
 .exact⟨λe=>fO (by rw [a V,iB c V]) aA rfl rfl rfl,λl=>⟨λe=>⟨cE c,fO (by rw [a V,iC c V]) aA rfl rfl rfl⟩,λm=>⟨λe=>⟨cE c,trivial,dQ (by rw [a V,dK c 0 V]) aA rfl rfl rfl⟩,
   λn2=>⟨λe=>⟨cE c,trivial,dQ (by rw [a V,dK c 1 V]) aA rfl rfl rfl⟩,λn=>⟨cE c,trivial,dQ (by rw [a V,dK c 2 (by have:=gF c.toNat;omega)]) aA rfl rfl rfl⟩⟩⟩⟩⟩
theorem Lo(au c:UInt8)(b d f:Int)(ty:bj)(h:(lead au.toNat).1=3) :
 ∃v aa,bu 107 [.ptr (some ⟨0,0,0,0,5⟩),.slice (some ⟨1,0,0,0,1⟩) 1 1] (T.of [fk au.toNat b d f 1 ty,e8 c.toNat]) v aa/\jS au.toNat b d f c.toNat ty (bG (au:: []) c) v aa:=by
 have g:∀r,first (au::r)=tail 2 1 (lead au.toNat).2.1 (lead au.toNat).2.2 (au.toNat%2^(7-3)) r:=λr=>hI au r 1 h
 have a:(c.toNat<(lead au.toNat).2.1\/(lead au.toNat).2.2<c.toNat)->bG (au:: []) c=(65533::(bG [] c).1,(bG [] c).2):=λal=>p9 _ _ _ _ (by rw [show(au:: [])++[c]=au:: [c]by rfl,g];simp only [tail];rw [aE al];rfl)
 have i:¬(c.toNat<(lead au.toNat).2.1\/(lead au.toNat).2.2<c.toNat)->bG (au:: []) c=([],au:: []++[c]):=λal=>rX _ _ _ (by rw [show(au:: [])++[c]=au:: [c]by rfl,g];simp only [tail];rw [ap al])
 refine La au.toNat b d f c.toNat (lead au.toNat).2.1 (lead au.toNat).2.2 ty _ ?_
 delta nr iA cl l6 u2 p3 u0 uY ky nq p1 u1 l3 p2 uZ fE oI lb l5 l4
 rw [oK];refine⟨⟨by have k:=λH=>np au.toNat H;simp only [kx,ns,h]at k;exact k _⟩,cE au,trivial,λp=> ?_,λn=>⟨λo=> ?_,λhle=>⟨gn,trivial,gJ c,trivial,p7 (i V) rfl rfl⟩⟩⟩
 .exact⟨λe=>fO (by rw [a V,iB c V]) aA rfl rfl rfl,λj=>⟨λe=>⟨cE c,fO (by rw [a V,iC c V]) aA rfl rfl rfl⟩,λl=>⟨λe=>⟨cE c,trivial,dQ (by rw [a V,dK c 0 V]) aA rfl rfl rfl⟩,
   λn2=>⟨λe=>⟨cE c,trivial,dQ (by rw [a V,dK c 1 V]) aA rfl rfl rfl⟩,λm=>⟨cE c,trivial,dQ (by rw [a V,dK c 2 (by have:=gF c.toNat;omega)]) aA rfl rfl rfl⟩⟩⟩⟩⟩
 .exact⟨λe=>fO (by rw [a V,iB c V]) aA rfl rfl rfl,λj=>⟨λe=>⟨cE c,fO (by rw [a V,iC c V]) aA rfl rfl rfl⟩,λl=>⟨λe=>⟨cE c,trivial,dQ (by rw [a V,dK c 0 V]) aA rfl rfl rfl⟩,
   λn2=>⟨λe=>⟨cE c,trivial,dQ (by rw [a V,dK c 1 V]) aA rfl rfl rfl⟩,λm=>⟨cE c,trivial,dQ (by rw [a V,dK c 2 (by have:=gF c.toNat;omega)]) aA rfl rfl rfl⟩⟩⟩⟩⟩
theorem Lp(au c:UInt8)(b d f:Int)(ty:bj)(h:(lead au.toNat).1=4) :
 ∃v aa,bu 107 [.ptr (some ⟨0,0,0,0,5⟩),.slice (some ⟨1,0,0,0,1⟩) 1 1] (T.of [fk au.toNat b d f 1 ty,e8 c.toNat]) v aa/\jS au.toNat b d f c.toNat ty (bG (au:: []) c) v aa:=by
 have g:∀r,first (au::r)=tail 3 1 (lead au.toNat).2.1 (lead au.toNat).2.2 (au.toNat%2^(7-4)) r:=λr=>hI au r 2 h
 have a:(c.toNat<(lead au.toNat).2.1\/(lead au.toNat).2.2<c.toNat)->bG (au:: []) c=(65533::(bG [] c).1,(bG [] c).2):=λal=>p9 _ _ _ _ (by rw [show(au:: [])++[c]=au:: [c]by rfl,g];simp only [tail];rw [aE al];rfl)
 have i:¬(c.toNat<(lead au.toNat).2.1\/(lead au.toNat).2.2<c.toNat)->bG (au:: []) c=([],au:: []++[c]):=λal=>rX _ _ _ (by rw [show(au:: [])++[c]=au:: [c]by rfl,g];simp only [tail];rw [ap al])
 refine Lb au.toNat b d f c.toNat (lead au.toNat).2.1 (lead au.toNat).2.2 ty _ ?_
 delta nr iA cl l6 u2 p3 u0 uY ky nq p1 u1 l3 p2 uZ fE oI lb l5 l4
 rw [oK];refine⟨⟨by have k:=λH=>np au.toNat H;simp only [kx,ns,h]at k;exact k _⟩,cE au,trivial,λp=> ?_,λn=>⟨λo=> ?_,λhle=>⟨gn,trivial,gJ c,trivial,p7 (i V) rfl rfl⟩⟩⟩
 .exact⟨λe=>fO (by rw [a V,iB c V]) aA rfl rfl rfl,λj=>⟨λe=>⟨cE c,fO (by rw [a V,iC c V]) aA rfl rfl rfl⟩,λl=>⟨λe=>⟨cE c,trivial,dQ (by rw [a V,dK c 0 V]) aA rfl rfl rfl⟩,
   λn2=>⟨λe=>⟨cE c,trivial,dQ (by rw [a V,dK c 1 V]) aA rfl rfl rfl⟩,λm=>⟨cE c,trivial,dQ (by rw [a V,dK c 2 (by have:=gF c.toNat;omega)]) aA rfl rfl rfl⟩⟩⟩⟩⟩
 .exact⟨λe=>fO (by rw [a V,iB c V]) aA rfl rfl rfl,λj=>⟨λe=>⟨cE c,fO (by rw [a V,iC c V]) aA rfl rfl rfl⟩,λl=>⟨λe=>⟨cE c,trivial,dQ (by rw [a V,dK c 0 V]) aA rfl rfl rfl⟩,
   λn2=>⟨λe=>⟨cE c,trivial,dQ (by rw [a V,dK c 1 V]) aA rfl rfl rfl⟩,λm=>⟨cE c,trivial,dQ (by rw [a V,dK c 2 (by have:=gF c.toNat;omega)]) aA rfl rfl rfl⟩⟩⟩⟩⟩
theorem Lq(au aH c:UInt8)(b d:Int)(ty:bj)(g:(lead au.toNat).1=3)(aa:¬(aH.toNat<(lead au.toNat).2.1\/(lead au.toNat).2.2<aH.toNat)) :
 ∃v aa,bu 107 [.ptr (some ⟨0,0,0,0,5⟩),.slice (some ⟨1,0,0,0,1⟩) 1 1] (T.of [fk au.toNat aH.toNat b d 2 ty,e8 c.toNat]) v aa/\jS au.toNat aH.toNat b d c.toNat ty (bG (au:: [aH]) c) v aa:=by
 have f:∀r,first (au::r)=tail 2 1 (lead au.toNat).2.1 (lead au.toNat).2.2 (au.toNat%2^(7-3)) r:=λr=>hI au r 1 g
 have a:(c.toNat<128\/191<c.toNat)->bG (au:: [aH]) c=(65533::(bG [] c).1,(bG [] c).2):=λal=>p9 _ _ _ _ (by rw [show(au:: [aH])++[c]=au:: [aH,c]by rfl,f];simp only [tail];rw [ap aa,aE al];rfl)
 have h:¬(c.toNat<128\/191<c.toNat)->bG (au:: [aH]) c=([((au.toNat%16)*64+aH.toNat%64)*64+c.toNat%64],[]):=λal=>yK _ _ _ _ (by rw [show(au:: [aH])++[c]=au:: [aH,c]by rfl,f];simp only [tail];rw [ap aa,ap al];rfl)
 have i:cf .i32 (eD .i32 (cf .i32 (eD .i32 (be .i32 (au.toNat:Int) 15) 6) (be .u8 (aH.toNat:Int) 63)) 6) (be .u8 (c.toNat:Int) 63)=((((au.toNat%16)*64+aH.toNat%64)*64+c.toNat%64:Nat):Int):=by rw [Db,jh aH,jh c,jQ _ V,jR _ _ V V,jQ _ V,jR _ _ V V]
 refine Lc au.toNat aH.toNat b d c.toNat (lead au.toNat).2.1 (lead au.toNat).2.2 ty _ ?_
 delta rT yC lc cl fE oI p5 yG rU yD yB ky nq rS yF l3 oJ p4 l4 yE
 rw [oK];refine⟨⟨by have k:=λH=>np au.toNat H;simp only [kx,ns,g]at k;exact k _⟩,cE au,trivial,okF V,okF V,gn,trivial,gJ aH,trivial,λp=> ?_,λn=>⟨λo=> ?_,λhle=>⟨gn,trivial,gJ c,trivial,dQ (h V) aA rfl rfl (dW (λx=>some (ac.aj [.int .i32 x] 1 false (some (21,0)))) i)⟩⟩⟩
 .exact⟨λe=>fO (by rw [a V,iB c V]) aA rfl rfl rfl,λj=>⟨λe=>⟨cE c,fO (by rw [a V,iC c V]) aA rfl rfl rfl⟩,λl=>⟨λe=>⟨cE c,trivial,dQ (by rw [a V,dK c 0 V]) aA rfl rfl rfl⟩,
   λn2=>⟨λe=>⟨cE c,trivial,dQ (by rw [a V,dK c 1 V]) aA rfl rfl rfl⟩,λm=>⟨cE c,trivial,dQ (by rw [a V,dK c 2 (by have:=gF c.toNat;omega)]) aA rfl rfl rfl⟩⟩⟩⟩⟩
 .exact⟨λe=>fO (by rw [a V,iB c V]) aA rfl rfl rfl,λj=>⟨λe=>⟨cE c,fO (by rw [a V,iC c V]) aA rfl rfl rfl⟩,λl=>⟨λe=>⟨cE c,trivial,dQ (by rw [a V,dK c 0 V]) aA rfl rfl rfl⟩,
   λn2=>⟨λe=>⟨cE c,trivial,dQ (by rw [a V,dK c 1 V]) aA rfl rfl rfl⟩,λm=>⟨cE c,trivial,dQ (by rw [a V,dK c 2 (by have:=gF c.toNat;omega)]) aA rfl rfl rfl⟩⟩⟩⟩⟩
theorem Lr(au aH c:UInt8)(b d:Int)(ty:bj)(g:(lead au.toNat).1=4)(aa:¬(aH.toNat<(lead au.toNat).2.1\/(lead au.toNat).2.2<aH.toNat)) :
 ∃v aa,bu 107 [.ptr (some ⟨0,0,0,0,5⟩),.slice (some ⟨1,0,0,0,1⟩) 1 1] (T.of [fk au.toNat aH.toNat b d 2 ty,e8 c.toNat]) v aa/\jS au.toNat aH.toNat b d c.toNat ty (bG (au:: [aH]) c) v aa:=by
 have f:∀r,first (au::r)=tail 3 1 (lead au.toNat).2.1 (lead au.toNat).2.2 (au.toNat%2^(7-4)) r:=λr=>hI au r 2 g
 have a:(c.toNat<128\/191<c.toNat)->bG (au:: [aH]) c=(65533::(bG [] c).1,(bG [] c).2):=λal=>p9 _ _ _ _ (by rw [show(au:: [aH])++[c]=au:: [aH,c]by rfl,f];simp only [tail];rw [ap aa,aE al];rfl)
 have h:¬(c.toNat<128\/191<c.toNat)->bG (au:: [aH]) c=([],au:: [aH]++[c]):=λal=>rX _ _ _ (by rw [show(au:: [aH])++[c]=au:: [aH,c]by rfl,f];simp only [tail];rw [ap aa,ap al])
 refine Ld au.toNat aH.toNat b d c.toNat (lead au.toNat).2.1 (lead au.toNat).2.2 ty _ ?_
 delta u3 lc cl p5 yG rU yD yB ky nq rS yF l3 rT yC fE oI oJ p4 l4
 rw [oK];refine⟨⟨by have k:=λH=>np au.toNat H;simp only [kx,ns,g]at k;exact k _⟩,cE au,trivial,okF V,okF V,gn,trivial,gJ aH,trivial,λo=> ?_,λm=>⟨λn=> ?_,λhle=>⟨gn,trivial,gJ c,trivial,p7 (h V) rfl rfl⟩⟩⟩
 .exact⟨λe=>fO (by rw [a V,iB c V]) aA rfl rfl rfl,λi=>⟨λe=>⟨cE c,fO (by rw [a V,iC c V]) aA rfl rfl rfl⟩,λj=>⟨λe=>⟨cE c,trivial,dQ (by rw [a V,dK c 0 V]) aA rfl rfl rfl⟩,
   λn2=>⟨λe=>⟨cE c,trivial,dQ (by rw [a V,dK c 1 V]) aA rfl rfl rfl⟩,λl=>⟨cE c,trivial,dQ (by rw [a V,dK c 2 (by have:=gF c.toNat;omega)]) aA rfl rfl rfl⟩⟩⟩⟩⟩
 .exact⟨λe=>fO (by rw [a V,iB c V]) aA rfl rfl rfl,λi=>⟨λe=>⟨cE c,fO (by rw [a V,iC c V]) aA rfl rfl rfl⟩,λj=>⟨λe=>⟨cE c,trivial,dQ (by rw [a V,dK c 0 V]) aA rfl rfl rfl⟩,
   λn2=>⟨λe=>⟨cE c,trivial,dQ (by rw [a V,dK c 1 V]) aA rfl rfl rfl⟩,λl=>⟨cE c,trivial,dQ (by rw [a V,dK c 2 (by have:=gF c.toNat;omega)]) aA rfl rfl rfl⟩⟩⟩⟩⟩
theorem Ls(au aH b2 c:UInt8)(b:Int)(ty:bj)(f:(lead au.toNat).1=4)(aa:¬(aH.toNat<(lead au.toNat).2.1\/(lead au.toNat).2.2<aH.toNat))(h2:¬(b2.toNat<128\/191<b2.toNat)) :
 ∃v aa,bu 107 [.ptr (some ⟨0,0,0,0,5⟩),.slice (some ⟨1,0,0,0,1⟩) 1 1] (T.of [fk au.toNat aH.toNat b2.toNat b 3 ty,e8 c.toNat]) v aa/\jS au.toNat aH.toNat b2.toNat b c.toNat ty (bG (au:: [aH,b2]) c) v aa:=by
 have d:∀r,first (au::r)=tail 3 1 (lead au.toNat).2.1 (lead au.toNat).2.2 (au.toNat%2^(7-4)) r:=λr=>hI au r 2 f
 have a:(c.toNat<128\/191<c.toNat)->bG (au:: [aH,b2]) c=(65533::(bG [] c).1,(bG [] c).2):=λal=>p9 _ _ _ _ (by rw [show(au:: [aH,b2])++[c]=au:: [aH,b2,c]by rfl,d];simp only [tail];rw [ap aa,ap h2,aE al];rfl)
 have g:¬(c.toNat<128\/191<c.toNat)->bG (au:: [aH,b2]) c=([(((au.toNat%8)*64+aH.toNat%64)*64+b2.toNat%64)*64+c.toNat%64],[]):=λal=>yK _ _ _ _ (by rw [show(au:: [aH,b2])++[c]=au:: [aH,b2,c]by rfl,d];simp only [tail];rw [ap aa,ap h2,ap al];rfl)
 have h:cf .i32 (eD .i32 (cf .i32 (eD .i32 (cf .i32 (eD .i32 (be .i32 (au.toNat:Int) 7) 6) (be .u8 (aH.toNat:Int) 63)) 6) (be .u8 (b2.toNat:Int) 63)) 6) (be .u8 (c.toNat:Int) 63)=(((((au.toNat%8)*64+aH.toNat%64)*64+b2.toNat%64)*64+c.toNat%64:Nat):Int):=by rw [Dc,jh aH,jh b2,jh c,jQ _ V,jR _ _ V V,jQ _ V,jR _ _ V V,jQ _ V,jR _ _ V V]
 refine Le au.toNat aH.toNat b2.toNat b c.toNat (lead au.toNat).2.1 (lead au.toNat).2.2 ty _ ?_
 delta u6 C7 p6 cl fE oI yJ C' u7 C8 C6 ky nq u4 C9 l3 u5 yI l4 yH
 rw [oK];refine⟨⟨by have k:=λH=>np au.toNat H;simp only [kx,ns,f]at k;exact k _⟩,cE au,trivial,okF V,okF V,gn,trivial,gJ aH,trivial,okF V,okF V,gn,trivial,gJ b2,trivial,λo=> ?_,λm=>⟨λn=> ?_,λhle=>⟨gn,trivial,gJ c,trivial,dQ (g V) aA rfl rfl (dW (λx=>some (ac.aj [.int .i32 x] 1 false (some (21,0)))) h)⟩⟩⟩
 .exact⟨λe=>fO (by rw [a V,iB c V]) aA rfl rfl rfl,λi=>⟨λe=>⟨cE c,fO (by rw [a V,iC c V]) aA rfl rfl rfl⟩,λj=>⟨λe=>⟨cE c,trivial,dQ (by rw [a V,dK c 0 V]) aA rfl rfl rfl⟩,
   λn2=>⟨λe=>⟨cE c,trivial,dQ (by rw [a V,dK c 1 V]) aA rfl rfl rfl⟩,λl=>⟨cE c,trivial,dQ (by rw [a V,dK c 2 (by have:=gF c.toNat;omega)]) aA rfl rfl rfl⟩⟩⟩⟩⟩
 .exact⟨λe=>fO (by rw [a V,iB c V]) aA rfl rfl rfl,λi=>⟨λe=>⟨cE c,fO (by rw [a V,iC c V]) aA rfl rfl rfl⟩,λj=>⟨λe=>⟨cE c,trivial,dQ (by rw [a V,dK c 0 V]) aA rfl rfl rfl⟩,
   λn2=>⟨λe=>⟨cE c,trivial,dQ (by rw [a V,dK c 1 V]) aA rfl rfl rfl⟩,λl=>⟨cE c,trivial,dQ (by rw [a V,dK c 2 (by have:=gF c.toNat;omega)]) aA rfl rfl rfl⟩⟩⟩⟩⟩
end Go.Proofs.YtddnafghiejcoaaGreatDoor
namespace Go.Keys
def Good(s:bq):Prop :=
 match s.nx with
 |.ground=>s.ai=[]/\s.ax=[]/\s.aw=[]
 |.cH=>s.ai=[27]/\s.ax=[]/\s.aw=[]
 |.cd=>s.aw=[]/\s.ax=s.ai.drop (at' s.ai)/\0<s.ax.length/\s.ax.length<=3/\(first s.ax).2.2=true
 |.sequence=>s.ax=[]/\s.aw=[]/\2<=s.ai.length/\s.ai.length<64
 |.single=>s.ax=[]/\s.aw=[]/\s.ai=[27,79]
 |.cb=>s.ax=[]/\s.ai.length<6/\s.ai.isPrefixOf c6=true/\s.aw.length<=65536
theorem Dd:∀(k i aD ah v:Nat)(l:Bytes),(tail k i aD ah v l).2.2=true->l.length<k/\(tail k i aD ah v l).2.1=i+l.length
 |0,i,aD,ah,v,l,h=>by simp [tail]at h
 |k+1,i,aD,ah,v,[],h=>by simp [tail]
 |k +1,i,aD,ah,v,c::r,h=>by
  simp only [tail]at h⊢;split at h
  .simp at h
  .rename_i al;rw [ap al];have:=Dd k (i+1) 128 191 (v*64+c.toNat%64) r h;simp only [b'];omega
theorem De:∀(k i aD ah v:Nat)(l:Bytes)(c:UInt8),(tail k i aD ah v l).2.2=true ->
 (tail k i aD ah v (l++[c])).2.2=true\/((tail k i aD ah v (l++[c])).2.2=false/\(tail k i aD ah v (l++[c])).2.1=i+l.length+1)\/(tail k i aD ah v (l++[c]))=(65533,i+l.length,false)
 |0,i,aD,ah,v,l,c,h=>by simp [tail]at h
 |k +1,i,aD,ah,v,[],c,h=>by
  simp only [eg,tail,dx];split
  .exact .inr (.inr rfl)
  .cases k with
   |zero=>exact .inr (.inl ⟨rfl,rfl⟩)
   |succ k=>exact .inl rfl
 |k +1,i,aD,ah,v,b::r,c,h=>by
  simp only [tail,hA]at h⊢;split at h
  .simp at h
  .rename_i al;rw [ap al];have:=De k (i+1) 128 191 (v*64+b.toNat%64) r c h;simp only [b'];have e:i+1+r.length=i+(r.length+1):= V
   rwa [e]at this
theorem oL{h:Bytes}(a:(first h).2.2=true):∃b r,h=b::r/\1<(lead b.toNat).1/\first h=tail ((lead b.toNat).1-1) 1 (lead b.toNat).2.1 (lead b.toNat).2.2 (b.toNat%2^(7- (lead b.toNat).1)) r:=by
 cases h with
 |nil=>simp [first]at a
 |cons b r =>
  refine⟨b,r,rfl,?_⟩;by_cases aN:(lead b.toNat).1=0
  .simp [first,aN]at a
  .by_cases aa:(lead b.toNat).1=1
   .simp [first,aa]at a
   .exact⟨V,by simp only [first,ap aN,ap aa]⟩
theorem Df{h:Bytes}(a:(first h).2.2=true):h.length<=3:=by obtain⟨b,r,rfl,c,e⟩:=oL a;rw [e]at a;have:=(Dd _ _ _ _ _ _ a).1;have:=C4 b.toNat;simp only [b'];omega
theorem Lt{h:Bytes}(a:(first h).2.2=true)(c:UInt8) :
 (first (h++[c])).2.2=true\/((first (h++[c])).2.2=false/\(first (h++[c])).2.1=h.length+1)\/first (h++[c])=(65533,h.length,false):=by
 obtain⟨b,r,rfl,f,e⟩:=oL a;rw [e]at a;have k:=De _ _ _ _ _ _ c a
 have aO:first (b::r++[c])=tail ((lead b.toNat).1-1) 1 (lead b.toNat).2.1 (lead b.toNat).2.2 (b.toNat%2^(7- (lead b.toNat).1)) (r++[c]):=by simp only [hA,first];rw [ap V,ap V]
 rw [aO];have d:1+r.length=(b::r).length:=by simp only [b'];omega
 rw [d]at k;exact k
theorem Lu(c:UInt8):((first [c]).2.2=true)\/((first [c]).2.2=false/\(first [c]).2.1=1):=by
 simp only [first];split
 .exact .inr ⟨rfl,rfl⟩
 .split
  .exact .inr ⟨rfl,rfl⟩
  .have h:(lead c.toNat).1-1≠0:= V;obtain⟨k,a⟩:=Nat.exists_eq_succ_of_ne_zero h;rw [a];exact .inl rfl
theorem p8(k:Nat):fj k []=([],[]):=by cases k<;>rfl
theorem Lv{c:UInt8}{h:Bytes} :(h++[c]).drop (h.length+1)=[]:=by rw [tA];simp
theorem Lw{c:UInt8}{h:Bytes} :(h++[c]).drop h.length=[c]:=by rw [mJ (Nat.le_refl _),lO];rfl
inductive Lx(h:Bytes)(c:UInt8):Prop where
 |more (e:bG h c=([],h++[c])) (o:(first (h++[c])).2.2=true)
 |whole (r:Nat) (e:bG h c=([r],[]))
 |broken (l:List Nat) (t:Bytes) (e:bG h c=(65533::l,t)) (aN:h≠[]) (aO:first (h++[c])=(65533,h.length,false))
theorem Ly(h:Bytes)(c:UInt8)(d:h=[]\/(first h).2.2=true):Lx h c:=by
 have ex:∀x:Bytes,x≠[]-> ∀k,fj (k+1) x=if(first x).2.2 then([],x)else((first x).1::(fj k (x.drop (first x).2.1)).1,(fj k (x.drop (first x).2.1)).2):=by
  intro x g k;cases x with
  |nil=>exact absurd rfl g
  |cons b r=>rfl
 have f:h++[c]≠[]:= an;have a:bG h c=fj (h.length+1) (h++[c]):=rfl;rw [ex _ f]at a;rcases d with rfl|d
 .simp only [eg]at a;rcases Lu c with o|⟨o,n⟩
  .rw [o,aE rfl]at a;exact .more a o
  .rw [o,ap an,n]at a;exact .whole (first [c]).1 (by rw [a];simp [p8])
 .rcases Lt d c with o|⟨o,n⟩|e
  .rw [o,aE rfl]at a;exact .more a o
  .rw [o,ap an,n,Lv,p8]at a;exact .whole _ a
  .rw [e]at a;simp only [ap (show ¬(false=true)by simp)]at a;exact .broken _ _ a (by rintro rfl;simp [first]at d) e
theorem Dg(r:Nat):1<=(put r).length:=by
 unfold put;simp only
 repeat' split
 all_goals simp
theorem yL:put 65533=[239,191,189]:= aA
theorem Lz{k n:Nat}{b:UInt8}{r:Bytes}(e:first (b::r)=(65533,n,false)):gI (k+1) (b::r)=65533::gI k ((b::r).drop n):=by simp only [gI,e]
theorem Dh{h:Bytes}{c:UInt8}(a:(first h).2.2=true)(e:first (h++[c])=(65533,h.length,false)):valid (h++[c])=false:=by
 have d:=Df a;obtain⟨b,r,rfl,l,_⟩:=oL a
 have f:dn (b::r++[c])=65533::gI (r++[c]).length [c]:=by
  have e':first (b::(r++[c]))=(65533,(b::r).length,false):=e
  show gI ((r++[c]).length+1) (b::(r++[c]))=_;rw [Lz e']
  congr 1
  have:(b::(r++[c])).drop (b::r).length=[c]:=Lw (h:=b::r);rw [this]
 have g:∃x,gI (r++[c]).length [c]=x::gI ((r++[c]).length-1) ([c].drop (first [c]).2.1):=by have:(r++[c]).length=r.length+1:= an;rw [this];exact⟨_,rfl⟩
 obtain⟨x,i⟩:=g;unfold valid;rw [f,i];rw [od];intro eq;simp only [eK,kW,yL]at eq;have j:=dW List.length eq;have p:=Dg x;simp only [dt,b',dx]at j;simp only [b']at d;have k:r.length=2:= V
 match r,k with
 |[m,n],_ =>
  simp only [hA,eg,fT]at eq;obtain⟨rfl,rfl,rfl,_⟩:=eq;revert a
  decide
theorem LA{k:Bytes}{c:UInt8}(h:k≠[]\/c≠27):at' (k++[c])=at' k:=by
 cases k with
 |nil =>
  rcases h with h|h
  .exact absurd rfl h
  .simp [at',h]
 |cons b r=>rfl
theorem LB(k:Bytes):at' k<=k.length:=by
 cases k with
 |nil=>simp [at']
 |cons b r=>simp only [at',b'];split<;>omega
theorem LC(k:Bytes):at' k<=1:=by
 cases k with
 |nil=>simp [at']
 |cons b r=>simp only [at'];split<;>omega
theorem yM{s:bq}{c:UInt8}{no:bq->bq×List aP}(ae:s.aw=[])(b:s.ax=s.ai.drop (at' s.ai))(a:s.ax=[]\/(first s.ax).2.2=true)(f:s.ai≠[]\/c≠27)(d:∀s1:bq,s1.aw=[]->s1.ax=[]->Good (no s1).1):Good (eZ s c no).1:=by
 have key:=Ly s.ax c a;unfold eZ;simp only;cases key with
 |more e o =>
  rw [e];simp only [ne_eq,List.append_eq_nil_iff,List.cons_ne_self,and_false,kY,and_self,dy];refine⟨ae,?_,an,?_,o⟩
  .show s.ax++[c]=(s.ai++[c]).drop (at' (s.ai++[c]));rw [LA f,b,mJ (LB _)]
  .exact Df o
 |whole r e =>
  rw [e];simp only [ne_eq,not_true_eq_false,false_and,ey];split
  .split<;>exact⟨rfl,rfl,ae⟩
  .exact d _ ae rfl
 |broken l t e aN aO =>
  rw [e]
  have h:valid (s.ai.drop (at' s.ai)++[c])=false:=by
   rw [<-b];rcases a with a|a
   .exact absurd a aN
   .exact Dh a aO
  have g:¬s.ai.length=at' s.ai:=by intro q;apply aN;rw [b,tA];omega
  rw [ap an,ap (by simp [h,g])];exact d _ ae rfl
theorem nt{s:bq}{e:aP}(h:s.ax=[])(p:s.aw=[]):Good (tell s e).1:=⟨rfl,h,p⟩
theorem u9{s:bq}{c:UInt8}(e:s.ai=[])(d:s.ax=[])(ae:s.aw=[]):Good (ground s c).1:=by
 unfold ground;split
 .exact⟨rfl,d,ae⟩
 .rename_i al;unfold hH;split
  .exact nt d ae
  .exact yM ae (by rw [e,d];rfl) (.inl d) (.inr al) λs1 a b=>nt b a
theorem yN{s:bq}{c:UInt8}(a:s.ax=[])(ae:s.aw=[]):Good (bad s c).1:=u9 rfl a ae
theorem LD{s:bq}{c:UInt8}(e:s.ai=[27])(d:s.ax=[])(ae:s.aw=[]):Good (plain s c).1:=by
 unfold plain hH;split
 .exact nt d ae
 .exact yM ae (by rw [e,d];rfl) (.inl d) (.inl (by rw [e];simp)) λs1 a b=>yN b a
theorem Di:∀(n:Nat)(k p:Bytes),k.length<=n->p.length<=65536->(shift n k p).1.isPrefixOf c6=true/\(shift n k p).2.length<=65536
 |0,k,p,h,ae=>by have:k=[]:=mI V;subst this;exact⟨by simp [shift],ae⟩
 |n+1,[],p,h,ae=>by simp [shift,ae]
 |n +1,b::r,p,h,ae=>by
  simp only [shift];split
  .exact⟨‹_›,ae⟩
  .refine Di n r _ (by simp only [b']at h;omega) ?_;split
   .simp;omega
   .exact ae
theorem LF{k:Bytes}(h:k.isPrefixOf c6=true):k.length<=6:=by rw [kk]at h;exact h.length_le
theorem Dj{s:bq}(c:UInt8)(h:Good s):Good (step s c).1:=by
 obtain⟨nx,ai,ax,aw⟩:=s;unfold step;cases nx with
 |ground=>exact u9 h.1 h.2.1 h.2.2
 |cH =>
  obtain⟨aa,h2,d⟩:=h;simp only at aa h2 d⊢;unfold cH;split
  .exact u9 rfl h2 d
  .split
   .exact⟨h2,d,by simp [aa],by simp [aa]⟩
   .split
    .rename_i al;exact⟨h2,d,by simp [aa,al]⟩
    .exact LD aa h2 d
 |cd =>
  obtain⟨aa,h2,d,e,f⟩:=h;simp only at aa h2 d e f⊢;have g:ai≠[]:=by rintro rfl;rw [h2]at d;simp at d
  exact yM aa h2 (.inr f) (.inl g) λs1 a b=>yN b a
 |sequence =>
  obtain⟨aa,h2,d,e⟩:=h;simp only at aa h2 d e⊢;unfold sequence;split
  .unfold done;split
   .exact⟨aa,an,an,by simp [h2]⟩
   .exact nt aa h2
  .split
   .exact yN aa h2
   .split
    .exact nt aa h2
    .refine⟨aa,h2,?_,?_⟩
     .show 2<=(ai++[c]).length;simp;omega
     .show(ai++[c]).length<64;simp only at *;simp;omega
 |single =>
  obtain⟨aa,h2,d⟩:=h;simp only at aa h2 d⊢;unfold single;split
  .exact nt aa h2
  .split
   .exact nt aa h2
   .split
    .exact nt aa h2
    .exact u9 rfl aa h2
 |cb =>
  obtain⟨aa,h2,d,e⟩:=h;simp only at aa h2 d e⊢;unfold cb;simp only;have k:=Di (ai.length+1) (ai++[c]) aw an e;split
  .exact⟨rfl,aa,rfl⟩
  .have:=LF k.1;exact⟨aa,by show(shift _ _ _).1.length<6;omega,k.1,k.2⟩
theorem Dk:∀(b:Bytes){s:bq},Good s->Good (bY s b).1
 |[],s,h=>h
 |c::r,s,h=>Dk r (Dj c h)
theorem yO{s:bq}{c:UInt8}{no:bq->bq×List aP}{k:Nat}(a:1<=k)(h:∀s1,(no s1).2.length<=k):(eZ s c no).2.length<=k:=by
 unfold eZ;simp only;split
 .simp
 .split
  .split<;>(simp only [tell,b',dx];omega)
  .exact h _
theorem u'(s:bq)(c:UInt8):(ground s c).2.length<=1:=by
 unfold ground;split
 .simp
 .unfold hH;split
  .simp [tell]
  .exact yO aA λs1=>by simp [tell]
theorem yP(s:bq)(c:UInt8):(bad s c).2.length<=2:=by unfold bad;simp only [b'];have:=u' (tell s (cQ s.ai)).1 c;omega
theorem LG(s:bq)(c:UInt8):(plain s c).2.length<=2:=by
 unfold plain hH;split
 .simp [tell]
 .exact yO aA λs1=>yP s1 c
theorem Dl(s:bq)(c:UInt8):(step s c).2.length<=2:=by
 unfold step;split
 .have:=u' s c;omega
 .unfold cH;split
  .simp only [b'];have:=u' (tell s (cY 4)).1 c;omega
  .split
   .simp
   .split
    .simp
    .exact LG s c
 .exact yO aA λs1=>yP s1 c
 .unfold sequence;split
  .unfold done;split<;>simp [tell]
  .split
   .exact yP s c
   .split<;>simp [tell]
 .unfold single;split
  .simp [tell]
  .split
   .simp [tell]
   .split
    .simp [tell]
    .simp only [b'];have:=u' (tell s (dq 79 2)).1 c;omega
 .unfold cb;simp only;split<;>simp [tell]
theorem yQ:∀(b:Bytes)(s:bq),(bY s b).2.length<=2*b.length
 |[],s=>by simp [bY]
 |c::r,s=>by simp only [bY,dt,b'];have aa:=Dl s c;have h2:=yQ r (step s c).1;omega
theorem LH{s:bq}(h:Good s):Good (flush s).1:=by
 obtain⟨nx,ai,ax,aw⟩:=s;unfold flush;split
 .exact h
 .rename_i az
  have ae:aw=[]:=by
   cases nx with
   |ground=>exact h.2.2
   |cH=>exact h.2.2
   |cd=>exact h.1
   |sequence=>exact h.2.1
   |single=>exact h.2.1
   |cb=>exact absurd (.inl rfl) az
  split
  .exact⟨rfl,rfl,ae⟩
  .split<;>exact⟨rfl,rfl,ae⟩
end Go.Keys
namespace Go.Proofs.YtddnafghiejcoaaGreatDoor
open Go.bh Go.Keys
set_option maxRecDepth 1000000
theorem LI(a:bm)(b:a (.tuple [.int .i32 0,.int .i64 0]) (T.af 7 [(0,ac.aj [.str []] 1 true (some (9,1)))])) :
 bC 54 [.str []] (⟨0,.nil⟩) a :=
 bI dP (.nil) b
theorem LJ(a:UInt8)(b:Bytes)(e d:Int)(c:bm)(f:bM 99 [.int .u8 (↑(UInt8.toNat a):Int)] (T.af 36 [(0,ac.aj [.str (a::b)] 1 true (some (9,1)))]) (.tuple [.int .i64 0,.int .u8 e,.int .u8 d]) (T.af 36 [(0,ac.aj [.str (a::b)] 1 true (some (9,1)))])/\c (.tuple [.int .i32 65533,.int .i64 1]) (T.af 45 [(0,ac.aj [.str (a::b)] 1 true (some (9,1)))])) :
 bC 54 [.str (a::b)] (⟨0,.nil⟩) c :=
 bI dP (he 3003 (he 1001 (.ak (.val 2001 (.tuple [.int .i64 0,.int .u8 e,.int .u8 d])) .nil))) f
theorem LK(a:UInt8)(b:Bytes)(e d:Int)(c:bm)(f:bM 99 [.int .u8 (↑(UInt8.toNat a):Int)] (T.af 36 [(0,ac.aj [.str (a::b)] 1 true (some (9,1)))]) (.tuple [.int .i64 1,.int .u8 e,.int .u8 d]) (T.af 36 [(0,ac.aj [.str (a::b)] 1 true (some (9,1)))])/\(-2147483648<=(↑(UInt8.toNat a):Int)/\(↑(UInt8.toNat a):Int)<=2147483647)/\c (.tuple [.int .i32 (↑(UInt8.toNat a):Int),.int .i64 1]) (T.af 49 [(0,ac.aj [.str (a::b)] 1 true (some (9,1)))])) :
 bC 54 [.str (a::b)] (⟨0,.nil⟩) c :=
 bI dP (he 3003 (he 1001 (.ak (.val 2001 (.tuple [.int .i64 1,.int .u8 e,.int .u8 d])) (ag 6001 .nil)))) f
theorem LL(a:UInt8)(d c:Int)(b:bm)(e:bM 99 [.int .u8 (↑(UInt8.toNat a):Int)] (T.af 36 [(0,ac.aj [.str [a]] 1 true (some (9,1)))]) (.tuple [.int .i64 2,.int .u8 d,.int .u8 c]) (T.af 36 [(0,ac.aj [.str [a]] 1 true (some (9,1)))])/\(-2147483648<=(↑(UInt8.toNat a):Int)/\(↑(UInt8.toNat a):Int)<=2147483647)/\True/\b (.tuple [.int .i32 65533,.int .i64 1]) (T.af 61 [(0,ac.aj [.str [a]] 1 true (some (9,1)))])) :
 bC 54 [.str ([a])] (⟨0,.nil⟩) b :=
 bI dP (he 3003 (he 1001 (.ak (.val 2001 (.tuple [.int .i64 2,.int .u8 d,.int .u8 c])) l1))) e
theorem LM(b a:UInt8)(c:Bytes)(f e:Int)(d:bm)(g:bM 99 [.int .u8 (↑(UInt8.toNat b):Int)] (T.af 36 [(0,ac.aj [.str (b::a::c)] 1 true (some (9,1)))]) (.tuple [.int .i64 2,.int .u8 f,.int .u8 e]) (T.af 36 [(0,ac.aj [.str (b::a::c)] 1 true (some (9,1)))])/\(-2147483648<=(↑(UInt8.toNat b):Int)/\(↑(UInt8.toNat b):Int)<=2147483647)/\True/\((↑(UInt8.toNat a):Int)<f->d (.tuple [.int .i32 65533,.int .i64 1]) (T.af 78 [(0,ac.aj [.str (b::a::c)] 1 true (some (9,1)))]))/\(¬(↑(UInt8.toNat a):Int)<f->(e<(↑(UInt8.toNat a):Int)->d (.tuple [.int .i32 65533,.int .i64 1]) (T.af 78 [(0,ac.aj [.str (b::a::c)] 1 true (some (9,1)))]))/\(¬e<(↑(UInt8.toNat a):Int)->Int.NonNeg (6-0)/\True/\(-2147483648<=be .u8 (↑(UInt8.toNat a):Int) (63)/\be .u8 (↑(UInt8.toNat a):Int) (63)<=2147483647)/\True/\d (.tuple [.int .i32 (cf .i32 (eD .i32 (be .i32 (↑(UInt8.toNat b):Int) (31)) (6)) (be .u8 (↑(UInt8.toNat a):Int) (63))),.int .i64 2]) (T.af 94 [(0,ac.aj [.str (b::a::c)] 1 true (some (9,1)))])))) :
 bC 54 [.str (b::a::c)] (⟨0,.nil⟩) d :=
 bI dP (he 3003 (he 1001 (.ak (.val 2001 (.tuple [.int .i64 2,.int .u8 f,.int .u8 e])) (ag 7001 (ag 7004 (.ak (.rounds 300) (he 13002 (.aq 14002 .nil (.aq 14006 .nil (ag 17001 (ag 17003 (ag 17004 (ag 17005 .nil))))))))))))) g
theorem LN(a:UInt8)(d c:Int)(b:bm)(e:bM 99 [.int .u8 (↑(UInt8.toNat a):Int)] (T.af 36 [(0,ac.aj [.str [a]] 1 true (some (9,1)))]) (.tuple [.int .i64 3,.int .u8 d,.int .u8 c]) (T.af 36 [(0,ac.aj [.str [a]] 1 true (some (9,1)))])/\(-2147483648<=(↑(UInt8.toNat a):Int)/\(↑(UInt8.toNat a):Int)<=2147483647)/\True/\b (.tuple [.int .i32 65533,.int .i64 1]) (T.af 61 [(0,ac.aj [.str [a]] 1 true (some (9,1)))])) :
 bC 54 [.str ([a])] (⟨0,.nil⟩) b :=
 bI dP (he 3003 (he 1001 (.ak (.val 2001 (.tuple [.int .i64 3,.int .u8 d,.int .u8 c])) l1))) e
theorem LO(b a:UInt8)(e d:Int)(c:bm)(f:bM 99 [.int .u8 (↑(UInt8.toNat b):Int)] (T.af 36 [(0,ac.aj [.str [b,a]] 1 true (some (9,1)))]) (.tuple [.int .i64 3,.int .u8 e,.int .u8 d]) (T.af 36 [(0,ac.aj [.str [b,a]] 1 true (some (9,1)))])/\(-2147483648<=(↑(UInt8.toNat b):Int)/\(↑(UInt8.toNat b):Int)<=2147483647)/\True/\((↑(UInt8.toNat a):Int)<e->c (.tuple [.int .i32 65533,.int .i64 1]) (T.af 78 [(0,ac.aj [.str [b,a]] 1 true (some (9,1)))]))/\(¬(↑(UInt8.toNat a):Int)<e->(d<(↑(UInt8.toNat a):Int)->c (.tuple [.int .i32 65533,.int .i64 1]) (T.af 78 [(0,ac.aj [.str [b,a]] 1 true (some (9,1)))]))/\(¬d<(↑(UInt8.toNat a):Int)->Int.NonNeg (6-0)/\True/\(-2147483648<=be .u8 (↑(UInt8.toNat a):Int) (63)/\be .u8 (↑(UInt8.toNat a):Int) (63)<=2147483647)/\True/\c (.tuple [.int .i32 65533,.int .i64 2]) (T.af 96 [(0,ac.aj [.str [b,a]] 1 true (some (9,1)))])))) :
 bC 54 [.str ([b,a])] (⟨0,.nil⟩) c :=
 bI dP (he 3003 (he 1001 (.ak (.val 2001 (.tuple [.int .i64 3,.int .u8 e,.int .u8 d])) (ag 7001 (ag 7004 (.ak (.rounds 300) (he 13002 (.aq 14002 .nil (.aq 14006 .nil (ag 17001 (ag 17003 (ag 17004 (ag 17005 .nil))))))))))))) f
theorem LP(c a b:UInt8)(d:Bytes)(g f:Int)(e:bm)(h:bM 99 [.int .u8 (↑(UInt8.toNat c):Int)] (T.af 36 [(0,ac.aj [.str (c::a::b::d)] 1 true (some (9,1)))]) (.tuple [.int .i64 3,.int .u8 g,.int .u8 f]) (T.af 36 [(0,ac.aj [.str (c::a::b::d)] 1 true (some (9,1)))])/\(-2147483648<=(↑(UInt8.toNat c):Int)/\(↑(UInt8.toNat c):Int)<=2147483647)/\True/\((↑(UInt8.toNat a):Int)<g->e (.tuple [.int .i32 65533,.int .i64 1]) (T.af 78 [(0,ac.aj [.str (c::a::b::d)] 1 true (some (9,1)))]))/\(¬(↑(UInt8.toNat a):Int)<g->(f<(↑(UInt8.toNat a):Int)->e (.tuple [.int .i32 65533,.int .i64 1]) (T.af 78 [(0,ac.aj [.str (c::a::b::d)] 1 true (some (9,1)))]))/\(¬f<(↑(UInt8.toNat a):Int)->Int.NonNeg (6-0)/\True/\(-2147483648<=be .u8 (↑(UInt8.toNat a):Int) (63)/\be .u8 (↑(UInt8.toNat a):Int) (63)<=2147483647)/\True/\((↑(UInt8.toNat b):Int)<128->e (.tuple [.int .i32 65533,.int .i64 2]) (T.af 113 [(0,ac.aj [.str (c::a::b::d)] 1 true (some (9,1)))]))/\(¬(↑(UInt8.toNat b):Int)<128->(191<(↑(UInt8.toNat b):Int)->e (.tuple [.int .i32 65533,.int .i64 2]) (T.af 113 [(0,ac.aj [.str (c::a::b::d)] 1 true (some (9,1)))]))/\(¬191<(↑(UInt8.toNat b):Int)->Int.NonNeg (6-0)/\True/\(-2147483648<=be .u8 (↑(UInt8.toNat b):Int) (63)/\be .u8 (↑(UInt8.toNat b):Int) (63)<=2147483647)/\True/\e (.tuple [.int .i32 (cf .i32 (eD .i32 (cf .i32 (eD .i32 (be .i32 (↑(UInt8.toNat c):Int) (15)) (6)) (be .u8 (↑(UInt8.toNat a):Int) (63))) (6)) (be .u8 (↑(UInt8.toNat b):Int) (63))),.int .i64 3]) (T.af 129 [(0,ac.aj [.str (c::a::b::d)] 1 true (some (9,1)))])))))) :
 bC 54 [.str (c::a::b::d)] (⟨0,.nil⟩) e :=
 bI dP (he 3003 (he 1001 (.ak (.val 2001 (.tuple [.int .i64 3,.int .u8 g,.int .u8 f])) (ag 7001 (ag 7004 (.ak (.rounds 300) (he 13002 (.aq 14002 .nil (.aq 14006 .nil (ag 17001 (ag 17003 (ag 17004 (ag 17005 (he 13002 (.aq 14002 .nil (.aq 14006 .nil (ag 17001 (ag 17003 (ag 17004 (ag 17005 .nil)))))))))))))))))))) h
theorem LQ(a:UInt8)(d c:Int)(b:bm)(e:bM 99 [.int .u8 (↑(UInt8.toNat a):Int)] (T.af 36 [(0,ac.aj [.str [a]] 1 true (some (9,1)))]) (.tuple [.int .i64 4,.int .u8 d,.int .u8 c]) (T.af 36 [(0,ac.aj [.str [a]] 1 true (some (9,1)))])/\(-2147483648<=(↑(UInt8.toNat a):Int)/\(↑(UInt8.toNat a):Int)<=2147483647)/\True/\b (.tuple [.int .i32 65533,.int .i64 1]) (T.af 61 [(0,ac.aj [.str [a]] 1 true (some (9,1)))])) :
 bC 54 [.str ([a])] (⟨0,.nil⟩) b :=
 bI dP (he 3003 (he 1001 (.ak (.val 2001 (.tuple [.int .i64 4,.int .u8 d,.int .u8 c])) l1))) e
theorem LR(b a:UInt8)(e d:Int)(c:bm)(f:bM 99 [.int .u8 (↑(UInt8.toNat b):Int)] (T.af 36 [(0,ac.aj [.str [b,a]] 1 true (some (9,1)))]) (.tuple [.int .i64 4,.int .u8 e,.int .u8 d]) (T.af 36 [(0,ac.aj [.str [b,a]] 1 true (some (9,1)))])/\(-2147483648<=(↑(UInt8.toNat b):Int)/\(↑(UInt8.toNat b):Int)<=2147483647)/\True/\((↑(UInt8.toNat a):Int)<e->c (.tuple [.int .i32 65533,.int .i64 1]) (T.af 78 [(0,ac.aj [.str [b,a]] 1 true (some (9,1)))]))/\(¬(↑(UInt8.toNat a):Int)<e->(d<(↑(UInt8.toNat a):Int)->c (.tuple [.int .i32 65533,.int .i64 1]) (T.af 78 [(0,ac.aj [.str [b,a]] 1 true (some (9,1)))]))/\(¬d<(↑(UInt8.toNat a):Int)->Int.NonNeg (6-0)/\True/\(-2147483648<=be .u8 (↑(UInt8.toNat a):Int) (63)/\be .u8 (↑(UInt8.toNat a):Int) (63)<=2147483647)/\True/\c (.tuple [.int .i32 65533,.int .i64 2]) (T.af 96 [(0,ac.aj [.str [b,a]] 1 true (some (9,1)))])))) :
 bC 54 [.str ([b,a])] (⟨0,.nil⟩) c :=
 bI dP (he 3003 (he 1001 (.ak (.val 2001 (.tuple [.int .i64 4,.int .u8 e,.int .u8 d])) (ag 7001 (ag 7004 (.ak (.rounds 300) (he 13002 (.aq 14002 .nil (.aq 14006 .nil (ag 17001 (ag 17003 (ag 17004 (ag 17005 .nil))))))))))))) f
theorem LS(c a b:UInt8)(f e:Int)(d:bm)(g:bM 99 [.int .u8 (↑(UInt8.toNat c):Int)] (T.af 36 [(0,ac.aj [.str [c,a,b]] 1 true (some (9,1)))]) (.tuple [.int .i64 4,.int .u8 f,.int .u8 e]) (T.af 36 [(0,ac.aj [.str [c,a,b]] 1 true (some (9,1)))])/\(-2147483648<=(↑(UInt8.toNat c):Int)/\(↑(UInt8.toNat c):Int)<=2147483647)/\True/\((↑(UInt8.toNat a):Int)<f->d (.tuple [.int .i32 65533,.int .i64 1]) (T.af 78 [(0,ac.aj [.str [c,a,b]] 1 true (some (9,1)))]))/\(¬(↑(UInt8.toNat a):Int)<f->(e<(↑(UInt8.toNat a):Int)->d (.tuple [.int .i32 65533,.int .i64 1]) (T.af 78 [(0,ac.aj [.str [c,a,b]] 1 true (some (9,1)))]))/\(¬e<(↑(UInt8.toNat a):Int)->Int.NonNeg (6-0)/\True/\(-2147483648<=be .u8 (↑(UInt8.toNat a):Int) (63)/\be .u8 (↑(UInt8.toNat a):Int) (63)<=2147483647)/\True/\((↑(UInt8.toNat b):Int)<128->d (.tuple [.int .i32 65533,.int .i64 2]) (T.af 113 [(0,ac.aj [.str [c,a,b]] 1 true (some (9,1)))]))/\(¬(↑(UInt8.toNat b):Int)<128->(191<(↑(UInt8.toNat b):Int)->d (.tuple [.int .i32 65533,.int .i64 2]) (T.af 113 [(0,ac.aj [.str [c,a,b]] 1 true (some (9,1)))]))/\(¬191<(↑(UInt8.toNat b):Int)->Int.NonNeg (6-0)/\True/\(-2147483648<=be .u8 (↑(UInt8.toNat b):Int) (63)/\be .u8 (↑(UInt8.toNat b):Int) (63)<=2147483647)/\True/\d (.tuple [.int .i32 65533,.int .i64 3]) (T.af 131 [(0,ac.aj [.str [c,a,b]] 1 true (some (9,1)))])))))) :
 bC 54 [.str ([c,a,b])] (⟨0,.nil⟩) d :=
 bI dP (he 3003 (he 1001 (.ak (.val 2001 (.tuple [.int .i64 4,.int .u8 f,.int .u8 e])) (ag 7001 (ag 7004 (.ak (.rounds 300) (he 13002 (.aq 14002 .nil (.aq 14006 .nil (ag 17001 (ag 17003 (ag 17004 (ag 17005 (he 13002 (.aq 14002 .nil (.aq 14006 .nil (ag 17001 (ag 17003 (ag 17004 (ag 17005 .nil)))))))))))))))))))) g
theorem LU(d a b c:UInt8)(e:Bytes)(h g:Int)(f:bm)(i:bM 99 [.int .u8 (↑(UInt8.toNat d):Int)] (T.af 36 [(0,ac.aj [.str (d::a::b::c::e)] 1 true (some (9,1)))]) (.tuple [.int .i64 4,.int .u8 h,.int .u8 g]) (T.af 36 [(0,ac.aj [.str (d::a::b::c::e)] 1 true (some (9,1)))])/\(-2147483648<=(↑(UInt8.toNat d):Int)/\(↑(UInt8.toNat d):Int)<=2147483647)/\True/\((↑(UInt8.toNat a):Int)<h->f (.tuple [.int .i32 65533,.int .i64 1]) (T.af 78 [(0,ac.aj [.str (d::a::b::c::e)] 1 true (some (9,1)))]))/\(¬(↑(UInt8.toNat a):Int)<h->(g<(↑(UInt8.toNat a):Int)->f (.tuple [.int .i32 65533,.int .i64 1]) (T.af 78 [(0,ac.aj [.str (d::a::b::c::e)] 1 true (some (9,1)))]))/\(¬g<(↑(UInt8.toNat a):Int)->Int.NonNeg (6-0)/\True/\(-2147483648<=be .u8 (↑(UInt8.toNat a):Int) (63)/\be .u8 (↑(UInt8.toNat a):Int) (63)<=2147483647)/\True/\((↑(UInt8.toNat b):Int)<128->f (.tuple [.int .i32 65533,.int .i64 2]) (T.af 113 [(0,ac.aj [.str (d::a::b::c::e)] 1 true (some (9,1)))]))/\(¬(↑(UInt8.toNat b):Int)<128->(191<(↑(UInt8.toNat b):Int)->f (.tuple [.int .i32 65533,.int .i64 2]) (T.af 113 [(0,ac.aj [.str (d::a::b::c::e)] 1 true (some (9,1)))]))/\(¬191<(↑(UInt8.toNat b):Int)->Int.NonNeg (6-0)/\True/\(-2147483648<=be .u8 (↑(UInt8.toNat b):Int) (63)/\be .u8 (↑(UInt8.toNat b):Int) (63)<=2147483647)/\True/\((↑(UInt8.toNat c):Int)<128->f (.tuple [.int .i32 65533,.int .i64 3]) (T.af 148 [(0,ac.aj [.str (d::a::b::c::e)] 1 true (some (9,1)))]))/\(¬(↑(UInt8.toNat c):Int)<128->(191<(↑(UInt8.toNat c):Int)->f (.tuple [.int .i32 65533,.int .i64 3]) (T.af 148 [(0,ac.aj [.str (d::a::b::c::e)] 1 true (some (9,1)))]))/\(¬191<(↑(UInt8.toNat c):Int)->Int.NonNeg (6-0)/\True/\(-2147483648<=be .u8 (↑(UInt8.toNat c):Int) (63)/\be .u8 (↑(UInt8.toNat c):Int) (63)<=2147483647)/\True/\f (.tuple [.int .i32 (cf .i32 (eD .i32 (cf .i32 (eD .i32 (cf .i32 (eD .i32 (be .i32 (↑(UInt8.toNat d):Int) (7)) (6)) (be .u8 (↑(UInt8.toNat a):Int) (63))) (6)) (be .u8 (↑(UInt8.toNat b):Int) (63))) (6)) (be .u8 (↑(UInt8.toNat c):Int) (63))),.int .i64 4]) (T.af 164 [(0,ac.aj [.str (d::a::b::c::e)] 1 true (some (9,1)))])))))))) :
 bC 54 [.str (d::a::b::c::e)] (⟨0,.nil⟩) f :=
 bI dP (he 3003 (he 1001 (.ak (.val 2001 (.tuple [.int .i64 4,.int .u8 h,.int .u8 g])) (ag 7001 (ag 7004 (.ak (.rounds 300) (he 13002 (.aq 14002 .nil (.aq 14006 .nil (ag 17001 (ag 17003 (ag 17004 (ag 17005 (he 13002 (.aq 14002 .nil (.aq 14006 .nil (ag 17001 (ag 17003 (ag 17004 (ag 17005 (he 13002 (.aq 14002 .nil (.aq 14006 .nil (ag 17001 (ag 17003 (ag 17004 (ag 17005 .nil))))))))))))))))))))))))))) i
def e9(s:Bytes):J:= .tuple [.int .i32 ((first s).1:Int),.int .i64 ((first s).2.1:Int)]
theorem eQ{s:Bytes}{a k:Nat}{x:Bool}(h:first s=(a,k,x)){bK k':Int}(b:bK=a)(c:k'=k):J.tuple [.int .i32 bK,.int .i64 k']=e9 s:=by unfold e9;rw [h,b,c]
theorem LV(H:T):bu 54 [.str []] H (e9 []) H:=bl.cm (LI (λv _=>v=e9 []) rfl) rfl rfl H
theorem kz(b:UInt8)(n:Nat)(h:(lead b.toNat).1=n)(H:T):bu 99 [.int .u8 (b.toNat:Int)] H (.tuple [.int .i64 (n:Int),.int .u8 ((lead b.toNat).2.1:Int),.int .u8 ((lead b.toNat).2.2:Int)]) H:=by have k:=np b.toNat H;simp only [kx,ns,h]at k;exact k
theorem LW(au:UInt8)(r:Bytes)(a:(lead au.toNat).1=0)(H:T):bu 54 [.str (au::r)] H (e9 (au::r)) H:=by refine bl.cm (LJ au r (lead au.toNat).2.1 (lead au.toNat).2.2 (λv _=>v=e9 (au::r)) ?_) rfl rfl H;exact⟨⟨kz au 0 a _⟩,eQ (show first (au::r)=(65533,1,false)by simp [first,a]) rfl rfl⟩
theorem LX(au:UInt8)(r:Bytes)(a:(lead au.toNat).1=1)(H:T):bu 54 [.str (au::r)] H (e9 (au::r)) H:=by refine bl.cm (LK au r (lead au.toNat).2.1 (lead au.toNat).2.2 (λv _=>v=e9 (au::r)) ?_) rfl rfl H;exact⟨⟨kz au 1 a _⟩,cE au,eQ (show first (au::r)=(au.toNat,1,false)by simp [first,a]) rfl rfl⟩
theorem LY(au:UInt8)(a:(lead au.toNat).1=2)(H:T):bu 54 [.str (au:: [])] H (e9 (au:: [])) H:=by
 refine bl.cm (LL au (lead au.toNat).2.1 (lead au.toNat).2.2 (λv _=>v=e9 (au:: [])) ?_) rfl rfl H;have c:∀r,first (au::r)=tail 1 1 (lead au.toNat).2.1 (lead au.toNat).2.2 (au.toNat%2^(7-2)) r:=λr=>hI au r 0 a
 have b:first (au:: [])=(65533,1,true):=by rw [c];rfl
 exact⟨⟨kz au 2 a _⟩,cE au,trivial,eQ b rfl rfl⟩
theorem LZ(au aH:UInt8)(r:Bytes)(c:(lead au.toNat).1=2)(H:T):bu 54 [.str (au::aH::r)] H (e9 (au::aH::r)) H:=by
 refine bl.cm (LM au aH r (lead au.toNat).2.1 (lead au.toNat).2.2 (λv _=>v=e9 (au::aH::r)) ?_) rfl rfl H;have b:∀r,first (au::r)=tail 1 1 (lead au.toNat).2.1 (lead au.toNat).2.2 (au.toNat%2^(7-2)) r:=λr=>hI au r 0 c
 have a:∀(al:aH.toNat<(lead au.toNat).2.1\/(lead au.toNat).2.2<aH.toNat),first (au::aH::r)=(65533,1,false):=λal=>by rw [b];simp only [tail];rw [aE al]
 have d:∀(aa:¬(aH.toNat<(lead au.toNat).2.1\/(lead au.toNat).2.2<aH.toNat)),first (au::aH::r)=((au.toNat%32)*64+aH.toNat%64,2,false):=λaa=>by rw [b];simp only [tail];rw [ap aa]
 have e:cf .i32 (eD .i32 (be .i32 (au.toNat:Int) 31) 6) (be .u8 (aH.toNat:Int) 63)=(((au.toNat%32)*64+aH.toNat%64:Nat):Int):=by rw [Da,jh aH,jQ _ V,jR _ _ V V]
 exact⟨⟨kz au 2 c _⟩,cE au,trivial,⟨λao=>eQ (a V) rfl rfl,λf=>⟨λcs=>eQ (a V) rfl rfl,λd1=>⟨gn,trivial,gJ aH,trivial,eQ (d V) e rfl⟩⟩⟩⟩
theorem L0(au:UInt8)(a:(lead au.toNat).1=3)(H:T):bu 54 [.str (au:: [])] H (e9 (au:: [])) H:=by
 refine bl.cm (LN au (lead au.toNat).2.1 (lead au.toNat).2.2 (λv _=>v=e9 (au:: [])) ?_) rfl rfl H;have c:∀r,first (au::r)=tail 2 1 (lead au.toNat).2.1 (lead au.toNat).2.2 (au.toNat%2^(7-3)) r:=λr=>hI au r 1 a
 have b:first (au:: [])=(65533,1,true):=by rw [c];rfl
 exact⟨⟨kz au 3 a _⟩,cE au,trivial,eQ b rfl rfl⟩
theorem L1(au aH:UInt8)(c:(lead au.toNat).1=3)(H:T):bu 54 [.str (au::aH:: [])] H (e9 (au::aH:: [])) H:=by
 refine bl.cm (LO au aH (lead au.toNat).2.1 (lead au.toNat).2.2 (λv _=>v=e9 (au::aH:: [])) ?_) rfl rfl H;have b:∀r,first (au::r)=tail 2 1 (lead au.toNat).2.1 (lead au.toNat).2.2 (au.toNat%2^(7-3)) r:=λr=>hI au r 1 c
 have a:∀(al:aH.toNat<(lead au.toNat).2.1\/(lead au.toNat).2.2<aH.toNat),first (au::aH:: [])=(65533,1,false):=λal=>by rw [b];simp only [tail];rw [aE al]
 have d:∀(aa:¬(aH.toNat<(lead au.toNat).2.1\/(lead au.toNat).2.2<aH.toNat)),first (au::aH:: [])=(65533,2,true):=λaa=>by rw [b];simp only [tail];rw [ap aa]
 exact⟨⟨kz au 3 c _⟩,cE au,trivial,⟨λao=>eQ (a V) rfl rfl,λe=>⟨λcs=>eQ (a V) rfl rfl,λd1=>⟨gn,trivial,gJ aH,trivial,eQ (d V) rfl rfl⟩⟩⟩⟩
theorem L2(au aH b2:UInt8)(r:Bytes)(d:(lead au.toNat).1=3)(H:T):bu 54 [.str (au::aH::b2::r)] H (e9 (au::aH::b2::r)) H:=by
 refine bl.cm (LP au aH b2 r (lead au.toNat).2.1 (lead au.toNat).2.2 (λv _=>v=e9 (au::aH::b2::r)) ?_) rfl rfl H;have a:∀r,first (au::r)=tail 2 1 (lead au.toNat).2.1 (lead au.toNat).2.2 (au.toNat%2^(7-3)) r:=λr=>hI au r 1 d
 have b:∀(al:aH.toNat<(lead au.toNat).2.1\/(lead au.toNat).2.2<aH.toNat),first (au::aH::b2::r)=(65533,1,false):=λal=>by rw [a];simp only [tail];rw [aE al]
 have c:∀(aa:¬(aH.toNat<(lead au.toNat).2.1\/(lead au.toNat).2.2<aH.toNat)) (al:b2.toNat<128\/191<b2.toNat),first (au::aH::b2::r)=(65533,2,false):=λaa al=>by rw [a];simp only [tail];rw [ap aa,aE al]
 have e:∀(aa:¬(aH.toNat<(lead au.toNat).2.1\/(lead au.toNat).2.2<aH.toNat)) (h2:¬(b2.toNat<128\/191<b2.toNat)),first (au::aH::b2::r)=(((au.toNat%16)*64+aH.toNat%64)*64+b2.toNat%64,3,false):=λaa h2=>by rw [a];simp only [tail];rw [ap aa,ap h2]
 have f:cf .i32 (eD .i32 (cf .i32 (eD .i32 (be .i32 (au.toNat:Int) 15) 6) (be .u8 (aH.toNat:Int) 63)) 6) (be .u8 (b2.toNat:Int) 63)=((((au.toNat%16)*64+aH.toNat%64)*64+b2.toNat%64:Nat):Int):=by rw [Db,jh aH,jh b2,jQ _ V,jR _ _ V V,jQ _ V,jR _ _ V V]
 exact⟨⟨kz au 3 d _⟩,cE au,trivial,⟨λao=>eQ (b V) rfl rfl,λg=>⟨λcs=>eQ (b V) rfl rfl,λd1=>⟨gn,trivial,gJ aH,trivial,⟨λa2=>eQ (c V V) rfl rfl,λh=>⟨λc2=>eQ (c V V) rfl rfl,λd2=>⟨gn,trivial,gJ b2,trivial,eQ (e V V) f rfl⟩⟩⟩⟩⟩⟩⟩
theorem L3(au:UInt8)(a:(lead au.toNat).1=4)(H:T):bu 54 [.str (au:: [])] H (e9 (au:: [])) H:=by
 refine bl.cm (LQ au (lead au.toNat).2.1 (lead au.toNat).2.2 (λv _=>v=e9 (au:: [])) ?_) rfl rfl H;have c:∀r,first (au::r)=tail 3 1 (lead au.toNat).2.1 (lead au.toNat).2.2 (au.toNat%2^(7-4)) r:=λr=>hI au r 2 a
 have b:first (au:: [])=(65533,1,true):=by rw [c];rfl
 exact⟨⟨kz au 4 a _⟩,cE au,trivial,eQ b rfl rfl⟩
theorem L4(au aH:UInt8)(c:(lead au.toNat).1=4)(H:T):bu 54 [.str (au::aH:: [])] H (e9 (au::aH:: [])) H:=by
 refine bl.cm (LR au aH (lead au.toNat).2.1 (lead au.toNat).2.2 (λv _=>v=e9 (au::aH:: [])) ?_) rfl rfl H;have b:∀r,first (au::r)=tail 3 1 (lead au.toNat).2.1 (lead au.toNat).2.2 (au.toNat%2^(7-4)) r:=λr=>hI au r 2 c
 have a:∀(al:aH.toNat<(lead au.toNat).2.1\/(lead au.toNat).2.2<aH.toNat),first (au::aH:: [])=(65533,1,false):=λal=>by rw [b];simp only [tail];rw [aE al]
 have d:∀(aa:¬(aH.toNat<(lead au.toNat).2.1\/(lead au.toNat).2.2<aH.toNat)),first (au::aH:: [])=(65533,2,true):=λaa=>by rw [b];simp only [tail];rw [ap aa]
 exact⟨⟨kz au 4 c _⟩,cE au,trivial,⟨λao=>eQ (a V) rfl rfl,λe=>⟨λcs=>eQ (a V) rfl rfl,λd1=>⟨gn,trivial,gJ aH,trivial,eQ (d V) rfl rfl⟩⟩⟩⟩
theorem L5(au aH b2:UInt8)(d:(lead au.toNat).1=4)(H:T):bu 54 [.str (au::aH::b2:: [])] H (e9 (au::aH::b2:: [])) H:=by
 refine bl.cm (LS au aH b2 (lead au.toNat).2.1 (lead au.toNat).2.2 (λv _=>v=e9 (au::aH::b2:: [])) ?_) rfl rfl H;have a:∀r,first (au::r)=tail 3 1 (lead au.toNat).2.1 (lead au.toNat).2.2 (au.toNat%2^(7-4)) r:=λr=>hI au r 2 d
 have b:∀(al:aH.toNat<(lead au.toNat).2.1\/(lead au.toNat).2.2<aH.toNat),first (au::aH::b2:: [])=(65533,1,false):=λal=>by rw [a];simp only [tail];rw [aE al]
 have c:∀(aa:¬(aH.toNat<(lead au.toNat).2.1\/(lead au.toNat).2.2<aH.toNat)) (al:b2.toNat<128\/191<b2.toNat),first (au::aH::b2:: [])=(65533,2,false):=λaa al=>by rw [a];simp only [tail];rw [ap aa,aE al]
 have e:∀(aa:¬(aH.toNat<(lead au.toNat).2.1\/(lead au.toNat).2.2<aH.toNat)) (h2:¬(b2.toNat<128\/191<b2.toNat)),first (au::aH::b2:: [])=(65533,3,true):=λaa h2=>by rw [a];simp only [tail];rw [ap aa,ap h2]
 exact⟨⟨kz au 4 d _⟩,cE au,trivial,⟨λao=>eQ (b V) rfl rfl,λf=>⟨λcs=>eQ (b V) rfl rfl,λd1=>⟨gn,trivial,gJ aH,trivial,⟨λa2=>eQ (c V V) rfl rfl,λg=>⟨λc2=>eQ (c V V) rfl rfl,λd2=>⟨gn,trivial,gJ b2,trivial,eQ (e V V) rfl rfl⟩⟩⟩⟩⟩⟩⟩
theorem L6(au aH b2 a:UInt8)(r:Bytes)(g:(lead au.toNat).1=4)(H:T):bu 54 [.str (au::aH::b2::a::r)] H (e9 (au::aH::b2::a::r)) H:=by
 refine bl.cm (LU au aH b2 a r (lead au.toNat).2.1 (lead au.toNat).2.2 (λv _=>v=e9 (au::aH::b2::a::r)) ?_) rfl rfl H;have b:∀r,first (au::r)=tail 3 1 (lead au.toNat).2.1 (lead au.toNat).2.2 (au.toNat%2^(7-4)) r:=λr=>hI au r 2 g
 have c:∀(al:aH.toNat<(lead au.toNat).2.1\/(lead au.toNat).2.2<aH.toNat),first (au::aH::b2::a::r)=(65533,1,false):=λal=>by rw [b];simp only [tail];rw [aE al]
 have d:∀(aa:¬(aH.toNat<(lead au.toNat).2.1\/(lead au.toNat).2.2<aH.toNat)) (al:b2.toNat<128\/191<b2.toNat),first (au::aH::b2::a::r)=(65533,2,false):=λaa al=>by rw [b];simp only [tail];rw [ap aa,aE al]
 have e:∀(aa:¬(aH.toNat<(lead au.toNat).2.1\/(lead au.toNat).2.2<aH.toNat)) (h2:¬(b2.toNat<128\/191<b2.toNat)) (al:a.toNat<128\/191<a.toNat),first (au::aH::b2::a::r)=(65533,3,false):=λaa h2 al=>by rw [b];simp only [tail];rw [ap aa,ap h2,aE al]
 have h:∀(aa:¬(aH.toNat<(lead au.toNat).2.1\/(lead au.toNat).2.2<aH.toNat)) (h2:¬(b2.toNat<128\/191<b2.toNat)) (f:¬(a.toNat<128\/191<a.toNat)),first (au::aH::b2::a::r)=((((au.toNat%8)*64+aH.toNat%64)*64+b2.toNat%64)*64+a.toNat%64,4,false):=λaa h2 f=>by rw [b];simp only [tail];rw [ap aa,ap h2,ap f]
 have i:cf .i32 (eD .i32 (cf .i32 (eD .i32 (cf .i32 (eD .i32 (be .i32 (au.toNat:Int) 7) 6) (be .u8 (aH.toNat:Int) 63)) 6) (be .u8 (b2.toNat:Int) 63)) 6) (be .u8 (a.toNat:Int) 63)=(((((au.toNat%8)*64+aH.toNat%64)*64+b2.toNat%64)*64+a.toNat%64:Nat):Int):=by rw [Dc,jh aH,jh b2,jh a,jQ _ V,jR _ _ V V,jQ _ V,jR _ _ V V,jQ _ V,jR _ _ V V]
 exact⟨⟨kz au 4 g _⟩,cE au,trivial,⟨λao=>eQ (c V) rfl rfl,λj=>⟨λcs=>eQ (c V) rfl rfl,λd1=>⟨gn,trivial,gJ aH,trivial,⟨λa2=>eQ (d V V) rfl rfl,λk=>⟨λc2=>eQ (d V V) rfl rfl,λd2=>⟨gn,trivial,gJ b2,trivial,⟨λa3=>eQ (e V V V) rfl rfl,λl=>⟨λc3=>eQ (e V V V) rfl rfl,λd3=>⟨gn,trivial,gJ a,trivial,eQ (h V V V) i rfl⟩⟩⟩⟩⟩⟩⟩⟩⟩⟩
theorem L7(s:Bytes)(H:T):bu 54 [.str s] H (e9 s) H:=by
 match s with
 |[]=>exact LV H
 |au::t =>
  rcases gF au.toNat with h|h|h|h|h
  .exact LW au t h H
  .exact LX au t h H
  .match t with
   |[]=>exact LY au h H
   |aH::r=>exact LZ au aH r h H
  .match t with
   |[]=>exact L0 au h H
   |[aH]=>exact L1 au aH h H
   |aH::b2::r=>exact L2 au aH b2 r h H
  .match t with
   |[]=>exact L3 au h H
   |[aH]=>exact L4 au aH h H
   |[aH,b2]=>exact L5 au aH b2 h H
   |aH::b2::a::r=>exact L6 au aH b2 a r h H
def Dm:List J->T->Option dm:=hN λa=>match a with | [.str s]=>some (e9 s,[])|_=>none
theorem L8:∀args h a,Dm args h=some a->a.cx Tryz.prog ck 54 args h:=by
 refine iz ?_;intro args v ps e ae H;split at e<;>first|(cases e;done)|skip
 simp only [a6,bo]at e;obtain⟨rfl,rfl⟩:=e;exact L7 _ H
abbrev fl(l:List J)(v f:Nat):ac:= {aQ:=l,es:=1,exact:=false,ro:=false,ab:=v,eb:=0,eS:=f,ty:=some (21,0)}
noncomputable def L9:dB:=l0.add 54 Dm
theorem yR:dv Tryz.prog ck L9:=dP.add L8
theorem Dn(a:Bytes)(b:bW->a8->T->Prop)(d:(0<(↑a.length:Int)->(-9223372036854775808<=0+(↑(Prod.fst (Prod.snd (first (List.drop 0 (List.take a.length a))))):Int)/\0+(↑(Prod.fst (Prod.snd (first (List.drop 0 (List.take a.length a))))):Int)<=9223372036854775807)/\b .normal [(0,.str a),(3,.slice (cX 16) 1 1),(4,.int .i64 (0+(↑(Prod.fst (Prod.snd (first (List.drop 0 (List.take a.length a))))):Int)))] (T.af 22 [(15,ac.aj [.int .i32 (↑(Prod.fst (first (List.drop 0 (List.take a.length a)))):Int)] 1 true),(16,ac.aj [.int .i32 (↑(Prod.fst (first (List.drop 0 (List.take a.length a)))):Int)] 1 false (some (21,0)))]))/\(¬0<(↑a.length:Int)->b (.exit 0) [(0,.str a),(3,.slice none 0 0),(4,.int .i64 0)] (T.af 4 []))) :
 ∃e c aa,bR 0 26 (br 150 0) [(0,.str a),(3,.slice none 0 0),(4,.int .i64 0)] (⟨0,.nil⟩) e c aa/\b e c aa :=
 di cP mixed yR (hs:= .aq 3003 (ag 6002 .nil) .nil) (keep:=[0,3,4]) ar d
theorem yS(c:Bytes)(a d h b:Nat)(f:List J)(g:bW->a8->T->Prop)(j:((a:Int)<(↑c.length:Int)->(0<=(a:Int)/\(a:Int)<=(↑c.length:Int))/\(d=d/\0+b=f.length/\b<b+1/\(b+1+(b+1)/4+512)*4<=281474976710656/\b+1<4611686018427387904)/\(-9223372036854775808<=(a:Int)+(↑(Prod.fst (Prod.snd (first (List.drop a c)))):Int)/\(a:Int)+(↑(Prod.fst (Prod.snd (first (List.drop a c)))):Int)<=9223372036854775807)/\g .normal [(0,.str c),(3,.slice (some {id:=16,ab:=d+1,idx:=0,fld:=0,es:=1}) (b+1) (b+1)),(4,.int .i64 ((a:Int)+(↑(Prod.fst (Prod.snd (first (List.drop a c)))):Int)))] (T.af 42 [(16,⟨f++[.int .i32 (↑(Prod.fst (first (List.drop a c))):Int)],1,false,false,d+1,0,if 0=d then f.length else min h f.length,some (21,0)⟩),(35,ac.aj [.int .i32 (↑(Prod.fst (first (List.drop a c))):Int)] 1 true)]))/\(¬(a:Int)<(↑c.length:Int)->g (.exit 0) [(0,.str c),(3,.slice (some ⟨16,d,0,0,1⟩) b b),(4,.int .i64 (a:Int))] (T.af 24 [(16,⟨f,1,false,false,d,0,h,some (21,0)⟩)]))) :
 ∃e i aa,bR 0 26 (br 150 0) [(0,.str c),(3,.slice (some ⟨16,d,0,0,1⟩) b b),(4,.int .i64 a)] (T.rows 20 [(16,fl f d h)]) e i aa/\g e i aa :=
 di cP mixed yR (hs:= .aq 3003 (ag 4002 (ag 5003 (ag 6002 .nil))) .nil) (keep:=[0,3,4]) ar j
theorem Dp(b:Bytes)(c e:J)(a:T)(d:bm)(f:bR 0 26 (Code.loop (br 150 0)) [(0,.str b),(3,.slice none 0 0),(4,.int .i64 0)] (T.af 3 []) (.exit 0) [(0,.str b),(3,c),(4,e)] a/\d c (T.mk (a.Y+2) (T.ay a))) :
 bC 150 [.str b] (⟨0,.nil⟩) d :=
 bI yR (.ak (.keep [0,3,4]) (.ak (.loop [(0,.str b),(3,c),(4,e)] a (.exit 0)) .nil)) f
end Go.Proofs.YtddnafghiejcoaaGreatDoor
