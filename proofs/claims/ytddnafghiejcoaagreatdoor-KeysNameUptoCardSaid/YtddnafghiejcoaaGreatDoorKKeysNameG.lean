/-
  Parts of the proof of KeysName.
-/
import Derived.Shelf.Strings.Search3
import Derived.Lib.AtoiAll
import Derived.Lib.AtoiErrMem
import Derived.Shelf.Strconv.AtoiAll
import Derived.Test.YtddnafghiejcoaaGreatDoorKKeysNameF
set_option maxRecDepth 1000000
set_option linter.unusedVariables false
set_option linter.defProp false
set_option linter.unusedSimpArgs false
namespace Go.Proofs.zz
open Go.br Go.Keys
def l5(f:FuncId)(H:T)(args:List J)(bs:Bytes):Prop :=
 ∃v H' j,be f args H v H'/\dF H' j v bs/\H.M<=j/\∀x,x<H.M->H'.get x=H.get x
def Db{H:T}{y:Nat}(b:aa)(k:Nat)(a:y<H.M+k):((⟨H.M+k,H.aF⟩:T).set y b).get y=some b:=T.eD _ _ _
def Ve(H:T)(r:Nat)(hs:Keys.Scalar r):∃H1 H2,(∀F,ba F (.tmp 7)=.av (r:Nat)->bt env cr (H.M+2) (ba F) ⟨H.M+6,H.aF⟩ (Op.buildSlice 84 1 {toList:=[(0,Operand.tmp 7)]})=some (J.aB (H.M+2) 0 0 1 1,H1)) /\
 be 51 [.aB (H.M+2) 0 0 1 1] H1 (.str (put r)) H1 /\
 (∀F,ba F (.tmp 9)=.str (put r)->du env (H.M+4) (ba F) H1 (Op.convert 9 34 (Operand.tmp 9))=some (.aB (H.M+4) 0 0 (put r).length (put r).length,H2)) /\
 dF H2 (H.M+4) (.aB (H.M+4) 0 0 (put r).length (put r).length) (put r)/\H2.M=H.M+6/\∀x,x<H.M->H2.get x=H.get x:=by
 have e:((⟨H.M+6,H.aF⟩:T).set (H.M+2) (iv r)).get (H.M+2)=some (iv r):=T.eD _ _ _;have f:(((⟨H.M+6,H.aF⟩:T).set (H.M+2) (iv r)).set (H.M+4) (aa.an (aE (put r)) 1 false)).get (H.M+4)=some (aa.an (aE (put r)) 1 false):=T.eD _ _ _;refine⟨(⟨H.M+6,H.aF⟩:T).set (H.M+2) (iv r),((⟨H.M+6,H.aF⟩:T).set (H.M+2) (iv r)).set (H.M+4) (aa.an (aE (put r)) 1 false),λF a=> ?_,Jd hs e (by show H.M+2<H.M+6;omega),λF a=> ?_,dF.an (bs:=put r) f (by show H.M+4<H.M+6;omega) (λ_=> .inl rfl),rfl,λx j=> ?_⟩
 .have c:∀(K:T)(y:Nat)(z:Int),jE (bi.D env) 84 1 [(0,.av z)] y K=some (.aB y 0 0 1 1,K.set y (aa.an [.av z] 1 true)):=by intro K y z;kernel_rfl
  show jE (bi.D env) 84 1 [(0,ba F (.tmp 7))] _ _=_;rw [a];exact c _ _ _
 .have Y:(bi.D env 9).map (λd=>d.kind)=some .string:= ao;have ag:(bi.D env 34).map (λd=>d.kind)=some (.slice 5):= ao;have b:(bi.D env 5).map (λd=>d.kind)=some (.int .u8):= ao;obtain⟨k,d1,g⟩:=cb.1 Y;obtain⟨l,d2,h⟩:=cb.1 ag;obtain⟨m,d3,i⟩:=cb.1 b;simp only [du,a,mw,d1,g,d2,h,d3,i];rfl
 .rw [T.dN _ _ A,T.dN _ _ A];rfl
def Jj{F:bc}{nid a b:Nat}{H:T}{x y:Nat}(c:ba F (.tmp a)=.V (x:Nat))(d:ba F (.tmp b)=.V (y:Nat)):bt env cr nid (ba F) H (Op.buildSlice 102 2 {toList:=[(0,Operand.tmp a),(1,Operand.tmp b)]})=some (.aB nid 0 0 2 2,H.set nid (oG [x,y])):=by
 have e:∀(K:T)(y:Nat)(z w:Int),jE (bi.D env) 102 2 [(0,.V z),(1,.V w)] y K=some (.aB y 0 0 2 2,K.set y (aa.an [.V z,.V w] 1 true)):=by intro K y z w;kernel_rfl
 show jE (bi.D env) 102 2 [(0,ba F (.tmp a)),(1,ba F (.tmp b))] _ _=_;rw [c,d];exact e _ _ _ _
variable {j k m n r:Nat}
def Jk{H2:T}(h:r<10000000)(hm:m<=7):∃v a j,be 44 [.str [117],.aB k 0 0 2 2] ((⟨k+3,H2.aF⟩:T).set k (oG [r,m+1])) v a/\dF a j v (e7 [117] [r,m+1])/\k+3<=j/\∀x,x<k->a.get x=H2.get x:=by obtain⟨v,a,j,b,g,d,f⟩:=C4 (H:=(⟨k+3,H2.aF⟩:T).set k (oG [r,m+1])) (q:=k) (c:=2) (l:=[r,m+1]) (e:=[117]) (T.eD _ _ _) (by show k<k+3;omega) au (by intro n aw;simp only [dR,ia,hh]at aw;rcases aw with rfl|rfl<;>omega) au au;refine⟨v,a,j,b,g,d,λx i=> ?_⟩;rw [f x (by show x<k+3;omega),T.dN _ _ A];rfl
def Vf(hm:m<=7)(a:r<1000)(h:m=4\/m=6\/(m=2/\(r=91\/r=79))):C' r m=jt r m:=by
 unfold C' jt;rw [ai (show ¬m=0 by omega)];by_cases ag:m=2
 .rw [az ag,ai A,ai A];exact uJ a A
 .rw [ai ag,ai A,az (show m=4\/m=6 by omega)];cases uA r with
  |none=>exact uJ a A
  |some c=>rfl
def Vg(H:T)(O:shown r=true)(hm:m<=7):l5 42 H [.av (r:Nat),.ac (m:Nat)] (jt r m):=by
 have l:∀{a b:Nat}{p:Prop},a<=b->p->_root_.cond (Nat.ble a b) p False:=λh k=>by rw [Nat.ble_eq.mpr h];exact k
 obtain⟨hs,s,I,_⟩:=rN O;rw [show(r:Int).toNat=r by omega]at hs s I;have P:=hs;unfold Keys.Scalar at P;have U:=AS r;by_cases aj:r<127/\(m=4\/m=6\/(m=2/\(r=91\/r=79)))
 ·
   have k:p9 r m=true:=by
    rcases aj.2 with rfl|rfl|⟨rfl,rfl|rfl⟩
    .rcases gK r 80 with h|h
     .have:=(Jg ⟨r-32,A⟩).1;simpa [pd s]using this
     .have:=(Jh ⟨r-80,A⟩).1;simpa [pd h]using this
    .rcases gK r 80 with h|h
     .have:=(Jg ⟨r-32,A⟩).2;simpa [pd s]using this
     .have:=(Jh ⟨r-80,A⟩).2;simpa [pd h]using this
    .exact Ji.1
    .exact Ji.2
   have:=Jf k (λa g=>by
    simp only [dR,ia,hh]at g
    rcases g with rfl|rfl<;>exact b0.int _ _) H
   rw [Vf hm A aj.2]at this;exact this
 obtain⟨H1,H2,i,q,n,g2,R,o⟩:=Ve H r hs;by_cases aM:m=0
 .subst aM
  obtain⟨v,Z,d,rfl,rfl⟩:=Uv H H1 H2 r (H.M+2) (H.M+4) (put r).length (put r) (λv Z=>v=.aB (H.M+4) 0 0 (put r).length (put r).length/\Z=⟨H2.M+5,H2.aF⟩)
   (aW (Nat.le_refl _) (aW A ⟨i _ rfl,⟨q⟩,n _ rfl,aW A (aW A (l A ⟨rfl,rfl⟩))⟩))
  exact⟨_,_,_,d,g2.keep rfl (by show H2.M<=H2.M+5;omega),A,o⟩
 .by_cases ag:m=2/\r≠91/\r≠79
  .obtain⟨rfl,L,K⟩:=ag;have D:∀F,bt env cr (H2.M+14) (ba F) ⟨H2.M+18,H2.aF⟩ (Op.buildSlice 34 1 {toList:=[(0,Operand.const (Value.int .u8 (27)))]})=some (J.aB (H2.M+14) 0 0 1 1,(⟨H2.M+18,H2.aF⟩:T).set (H2.M+14) (aa.an (aE [27]) 1 true)):=by intro F;kernel_rfl
   have E:=Db (H:=H2) (y:=H2.M+14) (aa.an (aE [27]) 1 true) 18 A;have C:∀x,x<H2.M->((⟨H2.M+18,H2.aF⟩:T).set (H2.M+14) (aa.an (aE [27]) 1 true)).get x=H2.get x:=λx e=>T.dN _ _ A
   have N:((⟨H2.M+18,H2.aF⟩:T).set (H2.M+14) (aa.an (aE [27]) 1 true)).M=H2.M+18:=rfl;generalize (⟨H2.M+18,H2.aF⟩:T).set (H2.M+14) (aa.an (aE [27]) 1 true)=G at D E C N;have g3:=g2.keep (C _ g2.lt) A;obtain⟨v,c,j,g,g4,z,S,f⟩:=(dF.an (bs:=[27]) E A (λh=>by cases h)).e9 (nid:=H2.M+16) g3.bg (IY r) (by simp only [bK,cq];omega) A
   obtain⟨w,Z,d,rfl,rfl⟩:=Uw H H1 H2 G c r (H.M+2) (H.M+4) (H2.M+14) (put r).length (put r) v (λw Z=>w=v/\Z=c)
    (aW (Nat.le_refl _) (aW A ⟨i _ rfl,⟨q⟩,n _ rfl,aW A (aW A ⟨by simp;omega,by simp;omega,aW A ⟨D _,(xZ _ _ _ _).trans g,l A ⟨rfl,rfl⟩⟩⟩)⟩))
   refine⟨_,_,j,d,?_,by rcases z with h|h<;>omega,λx e=> ?_⟩
   .have:jt r 2=[27]++put r:=by unfold jt;rw [ai aC,az ⟨rfl,L,K⟩];rfl
    rw [this];exact g4
   .rw [f x A A,C x A];exact o x e
  .by_cases t:m=4\/m=6
   .have W:127<r:= A;obtain⟨v,c,j,u,g4,z,f⟩:=Jk (H2:=H2) (r:=r) (m:=m) (k:=H2.M+49) A hm;have B:db .u8 (m:Int) 2=4:=by rcases t with rfl|rfl<;>decide+kernel
    obtain⟨w,Z,d,rfl,rfl⟩:=Uy H H1 H2 _ c r m (H.M+2) (H.M+4) (H2.M+49) (put r).length (put r) v (λw Z=>w=v/\Z=c)
     (aW (Nat.le_refl _) (aW A ⟨i _ rfl,⟨q⟩,n _ rfl,aW A ⟨by simp;omega,aW A ⟨by simp;omega,aW A ⟨trivial,by rw [B];rfl,aW A (aW A ⟨by simp;omega,aW A ⟨by simp;omega,by simp;omega,aW A ⟨by simp;omega,by simp;omega,aW A ⟨A,A,A,Jj (x:=r) (y:=m+1) rfl (by rfl),⟨u⟩,l (by have:=g4.lt;omega) ⟨rfl,rfl⟩⟩⟩⟩⟩)⟩⟩⟩⟩))
    refine⟨_,_,j,d,?_,A,λx e=> ?_⟩
    .have:jt r m=e7 [117] [r,m+1]:=by
      unfold jt;rw [ai aM,ai A,az t];have:uA r=none:=by unfold uA;rw [ai A,ai A,ai A]
      rw [this]
     rw [this];exact g4
    .rw [f x A];exact o x e
   .have Q:m≠2:= A;obtain⟨v,c,j,u,g4,z,f⟩:=Jk (H2:=H2) (r:=r) (m:=m) (k:=H2.M+23) A hm
    have B:db .u8 (m:Int) 2≠4:=by have:m=1\/m=3\/m=5\/m=7:= A;rcases this with rfl|rfl|rfl|rfl<;>decide+kernel
    obtain⟨w,Z,d,rfl,rfl⟩:=Ux H H1 H2 _ c r m (H.M+2) (H.M+4) (H2.M+23) (put r).length (put r) v (λw Z=>w=v/\Z=c)
     (aW (Nat.le_refl _) (aW A ⟨i _ rfl,⟨q⟩,n _ rfl,aW A ⟨by simp;omega,aW A ⟨by simp;omega,aW A ⟨trivial,by simp [B],aW A ⟨A,A,A,Jj (x:=r) (y:=m+1) rfl (by rfl),⟨u⟩,l (by have:=g4.lt;omega) ⟨rfl,rfl⟩⟩⟩⟩⟩⟩))
    refine⟨_,_,j,d,?_,A,λx e=> ?_⟩
    .have:jt r m=e7 [117] [r,m+1]:=by unfold jt;rw [ai aM,ai A,ai t]
     rw [this];exact g4
    .rw [f x A];exact o x e
def rS(f:FuncId)(H:T)(args:List J):Prop :=
 ∃H',be f args H (.slice none 0 0) H'/\H.M<=H'.M/\∀x,x<H.M->H'.get x=H.get x
def Dc{f:FuncId}{args:List J}{v:J}{Z:T}(m:be f args (T.of []) v Z)(d:∀a∈args,b0 a)(H:T) :
 ∃H',be f args H (v.aO (λi=>H.M+i)) H'/\H'.M=H.M+Z.M/\(∀i b,Z.get i=some b->H'.get (H.M+i)=some (b.aO (λi=>H.M+i)))/\∀x,x<H.M->H'.get x=H.get x:=by
 obtain⟨H',g,o,k,p⟩:=m.place au (λb c=>by cases c) (pw.2 λa h=>(d a h).dj _) (H:=H) [] kR (λj n=>by cases n) rfl (λi b h=>by simp at h);have r:(cP [] H.M)=λi=>H.M+i:=by funext i;rw [k0 au];simp
 have l:args.map (J.aO (cP [] H.M))=args:=by
  conv=>rhs;rw [<-pb args]
  exact i' λe he=>(d e he).1 _
 rw [l,r]at g;rw [r]at k;refine⟨H',g,by rw [o];simp,?_,λx q=>p x q au⟩;intro i b c;have:=k i b c;exact this
variable {bs:Bytes}
def dF.place{Z H':T}{v:J}(g:dF Z j v bs)(aw:H'.M=n+Z.M)(ab:∀i b,Z.get i=some b->H'.get (n+i)=some (b.aO (λi=>n+i))):dF H' (n+j) (v.aO (λi=>n+i)) bs:=by
 obtain⟨b,rfl,ag,c,a,d⟩:=g.ex
 have f:cu b:=by intro e he;rw [a]at he;exact js bs e he
 have h:=g.lt;have k:=ab j b ag;rw [f.aO]at k;exact⟨⟨b,rfl,k,c,a,d⟩,A⟩
def l5.of{f:FuncId}{args:List J}{v:J}{Z:T}(c:be f args (T.of []) v Z)(g:dF Z j v bs)(b:∀a∈args,b0 a)(H:T):l5 f H args bs:=by obtain⟨H',d,aw,ab,e⟩:=Dc c b H;exact⟨_,H',H.M+j,d,g.place aw ab,A,e⟩
def rS.of{f:FuncId}{args:List J}{Z:T}(c:be f args (T.of []) (.slice none 0 0) Z)(b:∀a∈args,b0 a)(H:T):rS f H args:=by obtain⟨H',d,aw,ab,e⟩:=Dc c b H;exact⟨H',d,A,e⟩
def dF.drop{H:T}{c:Nat}(g:dF H j (.aB j c 0 n n) bs)(f:k<=bs.length):ed 1 (.aB j c k (n-k) (n-k)) H=some (aE (bs.drop k)):=by
 obtain⟨b,he,ag,d,a,e⟩:=g.ex;simp only [J.slice.injEq,a8,bB.mk.injEq,true_and,hE]at he;obtain⟨rfl,rfl,_⟩:=he;simp only [ed,dG,ag];split
 .rename_i h;rw [List.drop_eq_nil_of_le A];rfl
 .rw [az ⟨by simp [aa.b6,a,aE];omega,by simp [a,aE];omega⟩,a]
  congr 1
  rw [nE (by simp [aE])];simp [aE,ss]
end Go.Proofs.zz
namespace Go.Keys
open Go.Lib
def Vh{w:Bytes}(h:iR w=true):w.all digit=true/\number w=200:=by
 unfold iR at h;simp only [eC,cC,jB]at h;rcases h with h|⟨h,_⟩
 .subst h;decide
 .have e:∀w:Bytes,(w.dropWhile (· == 48)).all digit=true->w.all digit=true/\number w=number (w.dropWhile (· == 48)):=by
   intro w;induction w with
   |nil=>intro _;exact⟨rfl,rfl⟩
   |cons b r ih =>
    intro d;by_cases f:b=48
    .subst f;have aQ:(48::r).dropWhile (· == (48:UInt8))=r.dropWhile (· == 48):=by simp [List.dropWhile]
     rw [aQ]at d⊢;obtain⟨a,c⟩:=ih d;refine⟨by simp only [iE,a,Bool.and_true];decide,?_⟩;rw [<-c];rfl
    .have aQ:(b::r).dropWhile (· == (48:UInt8))=b::r:=by rw [List.dropWhile_cons,ai (by simpa using f)]
     rw [aQ]at d⊢;exact⟨d,rfl⟩
  have:=e w (by rw [h];decide);rw [h]at this;exact⟨this.1,by rw [this.2];decide⟩
def Vi(s:Bytes):cB zero (27::s)=cB ⟨.cQ,[27],[],[]⟩ s:=by rw [cB];show(_,[]++_)=_;rw [eQ];rfl
def Vj{k n:Nat}(h:mX k=some n):gQ n=k/\0<k/\n<=24:=by
 have go:∀k:Fin 33,∀n:Fin 25,mX k.val=some n.val->gQ n.val=k.val/\0<k.val:= aC
 have a:k<33/\n<25:=by
  unfold mX at h
  repeat' split at h
  all_goals first|(cases h;done)|(simp only [a8]at h;omega)
 have:=go ⟨k,a.1⟩ ⟨n,a.2⟩ h;exact⟨this.1,this.2,A⟩
def Vk:∀c:Fin 7,∀m:Fin 8,(gI c.val+4*m.val)/4%8=m.val/\gI c.val+4*m.val-4*m.val=gI c.val/\gI c.val+4*m.val<1000:= aC
end Go.Keys
namespace Go.Keys
def kH(t:Bytes):aP:=⟨4,0,0,0,0,t⟩
def Vl:∀k:Fin 33,∀m:Fin 8,(1<=k.val/\k.val<=14\/21<=k.val)->(h6 k.val m.val).isSome=true:= aC
def Vm{s:bI}(h:Good s):s.ak.length<=63:=by
 obtain⟨nx,ak,ay,ax⟩:=s;cases nx with
 |ground=>obtain⟨Y,_⟩:=h;simp only at Y;subst Y;simp
 |cQ=>obtain⟨Y,_⟩:=h;simp only at Y;subst Y;simp
 |cp =>
  obtain⟨_,ag,_,a,_⟩:=h;simp only at ag a⊢;have b:=dm List.length ag;rw [eF]at b;have:=O9 ak;omega
 |sequence=>obtain⟨_,_,_,a⟩:=h;simp only at a⊢; omega
 |single=>obtain⟨_,_,Y⟩:=h;simp only at Y;subst Y;simp
 |cD=>obtain⟨_,Y,_⟩:=h;simp only at Y⊢; omega
end Go.Keys
namespace Go.Proofs.zz
open Go.br Go.Keys
def Vn(k:Nat):oE k<1000:=by unfold oE;split<;>(try split)<;>(try split)<;>omega
variable {i k m q:Nat}
def Vo(hm:m<=7):Da k m=h6 k m:=by
 unfold Da h6;by_cases h:1<=k/\k<=4
 .rw [az h,az h,uJ (Vn k) A];rfl
 .rw [ai h,ai h];cases a:rK k with
  |some c=>simp only;rw [uJ aC A];rfl
  |none =>
   simp only;cases aw:mX k with
   |none=>rfl
   |some n =>
    have:=(Vj aw).2.2;simp only;rw [Va A,uJ A A]
def Vp{h:T}{l:Bytes}{e:Bool}{ty:bw}(ab:h.get q=some (aa.an (aE l) 1 e ty))(ah:i<l.length):a6 (bi.D env) 5 ⟨q,0,0+i,0,1⟩ h=some (.ac (l[i].toNat:Nat)):=by have a:(bi.D env 5).map (λd=>d.kind.isAgg)=some false:= ao;obtain⟨x,Y,ag⟩:=cb.1 a;unfold a6;rw [Y,ab];simp [aa.elem?,aa.b6,eK,ag,aa.an,ah,aE]
def kI:Bytes:=[65,66,67,68,72,70]
def Vq:∀i:Fin 6,5<=ft ((kI[i.val]'(by exact i.isLt)).toNat:Int)/\ft ((kI[i.val]'(by exact i.isLt)).toNat:Int)<=10:= aC
def Vr:∀i:Fin 25,fM (i.val:Int)=0\/(9<=fM (i.val:Int)/\fM (i.val:Int)<=14)\/(21<=fM (i.val:Int)/\fM (i.val:Int)<=32):= aC
def j7(k:Int):Prop:= ¬(1<=k/\k<=14)/\¬(21<=k/\k<=32)
abbrev x3(k:Int)(m q i:Nat):bc:=[(0,.int .i32 k),(1,.int .u8 (m:Nat)),(5,.int .i64 ((m:Int)+1)),(52,.slice (some ⟨q,0,0,0,1⟩) 6 6),(53,.int .i64 6),(54,.int .i64 (i:Nat))]
def Vs{B:Nat}{k:Int}(l:j7 k):∀(t i:Nat)(H:T),6-i<=t->i<=6->B<=H.M->H.get q=some (aa.an (aE kI) 1 true) ->
 ∃n c,dd B 111 (bu 43 0) (x3 k m q i) H (.exit 1) [(0,.av k),(1,.ac (m:Nat)),(5,.V ((m:Int)+1)),(52,.aB q 0 0 6 6),(53,.V 6),(54,c)] ⟨H.M+n,H.aF⟩:=by
 intro t
 have fin:∀(H:T),B<=H.M-> ∃n c,dd B 111 (bu 43 0) (x3 k m q 6) H (.exit 1) [(0,.av k),(1,.ac (m:Nat)),(5,.V ((m:Int)+1)),(52,.aB q 0 0 6 6),(53,.V 6),(54,c)] ⟨H.M+n,H.aF⟩:=by intro H a;obtain⟨e,b,Y,d,rfl,rfl,rfl⟩:=I' H B q 6 0 k m (λe b Y=>e=.exit 1/\b=x3 k m q 6/\Y=⟨H.M+1,H.aF⟩) (aW a ⟨λh=>absurd h A,λ_=>⟨rfl,rfl,rfl⟩⟩);exact⟨1,_,b2.last au d⟩
 induction t with
 |zero =>
  intro i H r ah a _;obtain rfl:i=6:= A;exact fin H a
 |succ t ih =>
  intro i H r ah a ab;by_cases f:i<6
  .have hlen:kI.length=6:=rfl;have j:=Vq ⟨i,f⟩;simp only at j
   have o:a6 (bi.D env) 5 ⟨q,0,0+Int.toNat (i:Int),0,1⟩ ⟨H.M+4,H.aF⟩=some (.ac ((kI[i]' A).toNat:Nat)):=by rw [fS];exact Vp (h:=⟨H.M+4,H.aF⟩) ab A
   have p:(ft ((kI[i]' A).toNat:Int) != k)=true:=by unfold j7 at l;simp only [bne_iff_ne,ne_eq];omega
   obtain⟨e,b,Y,d,rfl,rfl,rfl⟩:=I' H B q i (kI[i]' A).toNat k m (λe b Y=>e=.normal/\b=x3 k m q (i+1)/\Y=⟨H.M+10,H.aF⟩)
    (aW a ⟨λ_=>aW A ⟨⟨A,A⟩,o,aW A ⟨by rw [p],aW A ⟨⟨A,A⟩,rfl,by rw [show((i:Int)+1)=((i+1:Nat):Int)by omega],rfl⟩⟩⟩,λh=>absurd h A⟩)
   obtain⟨n,c,g⟩:=ih (i+1) ⟨H.M+10,H.aF⟩ A A (by show B<=H.M+10;omega) ab;exact⟨10+n,c,by rw [<-qt];exact b2.step d g⟩
  .obtain rfl:i=6:= A;exact fin H a
abbrev rT(k:Int)(m i:Nat):bc:=[(0,.int .i32 k),(1,.int .u8 (m:Nat)),(5,.int .i64 ((m:Int)+1)),(9,.int .i64 (i:Nat))]
def Vt{B:Nat}{k:Int}(l:j7 k):∀(t i:Nat)(H:T),25-i<=t->i<=25->B<=H.M ->
 ∃n,dd B 111 (bu 43 1) (rT k m i) H (.exit 3) (rT k m 25) ⟨H.M+n,H.aF⟩:=by
 intro t
 have fin:∀(H:T),B<=H.M-> ∃n,dd B 111 (bu 43 1) (rT k m 25) H (.exit 3) (rT k m 25) ⟨H.M+n,H.aF⟩:=by intro H a;obtain⟨e,b,Y,c,rfl,rfl,rfl⟩:=Jb H B 25 k m (λe b Y=>e=.exit 3/\b=rT k m 25/\Y=⟨H.M+2,H.aF⟩) (aW a ⟨λh=>absurd h A,λ_=>⟨rfl,rfl,rfl⟩⟩);exact⟨2,b2.last au c⟩
 induction t with
 |zero =>
  intro i H o ah a;obtain rfl:i=25:= A;exact fin H a
 |succ t ih =>
  intro i H o ah a;by_cases f:i<25
  .have j:=Vr ⟨i,f⟩;simp only at j;have d:((i:Int)+1)=((i+1:Nat):Int):= A
   obtain⟨e,b,Y,c,rfl,rfl,rfl⟩:=Jb H B i k m (λe b Y=>e=.normal/\b=rT k m (i+1)/\Y=⟨H.M+13,H.aF⟩)
    (aW a ⟨λ_=>aW A ⟨λaM=>⟨by
     have:(fM (i:Int) == k)=false:=by unfold j7 at l;rw [mu];omega
     rw [this],aW A ⟨⟨A,A⟩,rfl,by rw [d],rfl⟩⟩,λaM=>aW A ⟨⟨A,A⟩,rfl,by rw [d],rfl⟩⟩,λh=>absurd A h⟩)
   obtain⟨n,g⟩:=ih (i+1) ⟨H.M+13,H.aF⟩ A A (by show B<=H.M+13;omega);exact⟨13+n,by rw [<-qt];exact b2.step c g⟩
  .obtain rfl:i=25:= A;exact fin H a
def Vu(H:T){k:Int}(i:j7 k)(hm:m<=7):rS 43 H [.av k,.ac (m:Nat)]:=by
 have d:∀{a b:Nat}{p:Prop},a<=b->p->_root_.cond (Nat.ble a b) p False:=λh k=>by rw [Nat.ble_eq.mpr h];exact k
 have f:∀F,bt env cr (H.M+11) (ba F) ⟨H.M+15,H.aF⟩ (Op.buildSlice 34 6 {toList:=[(0,Operand.const (Value.int .u8 (65))),(1,Operand.const (Value.int .u8 (66))),(2,Operand.const (Value.int .u8 (67))),(3,Operand.const (Value.int .u8 (68))),(4,Operand.const (Value.int .u8 (72))),(5,Operand.const (Value.int .u8 (70)))]})=some (J.aB (H.M+11) 0 0 6 6,(⟨H.M+15,H.aF⟩:T).set (H.M+11) (aa.an (aE kI) 1 true)):=by intro F;kernel_rfl
 have e:=Db (H:=H) (y:=H.M+11) (aa.an (aE kI) 1 true) 15 A;have o:∀x,x<H.M->((⟨H.M+15,H.aF⟩:T).set (H.M+11) (aa.an (aE kI) 1 true)).get x=H.get x:=λx q=>T.dN _ _ A
 have t:((⟨H.M+15,H.aF⟩:T).set (H.M+11) (aa.an (aE kI) 1 true)).M=H.M+15:=rfl;generalize (⟨H.M+15,H.aF⟩:T).set (H.M+11) (aa.an (aE kI) 1 true)=H1 at f e o t;obtain⟨n,r,j⟩:=Vs (B:=H.M) (m:=m) i 6 0 H1 A A A e;obtain⟨n2,c⟩:=Vt (B:=H.M) (m:=m) i 23 2 ⟨H1.M+n+11,H1.aF⟩ A A (by show H.M<=H1.M+n+11;omega);have l:∀(K:Nat) x,x<H.M->(⟨H1.M+n+11+n2+K,H1.aF⟩:T).get x=H.get x:=λK x q=>o x q
 unfold j7 at i;by_cases aM:k<1
 .obtain⟨v,Z,g,rfl,rfl⟩:=Uz H H1 ⟨H1.M+n,H1.aF⟩ ⟨H1.M+n+11+n2,H1.aF⟩ (H.M+11) m k r (λv Z=>v=.slice none 0 0/\Z=⟨H1.M+n+11+n2+1,H1.aF⟩)
   (aW (Nat.le_refl _) (aW A ⟨A,A,aW A ⟨by simp;omega,aW A ⟨f _,x1 rfl e rfl rfl aC,cO.dn j,aW (by show H.M<=H1.M+n;omega) ⟨λ_=>⟨by simp;omega,aW (by show H.M<=H1.M+n+10;omega) ⟨cO.dn c,aW (by show H.M<=H1.M+n+11+n2;omega) (d (by show H.M<=H1.M+n+11+n2+1;omega) ⟨rfl,rfl⟩)⟩⟩,λ_=>aW (by show H.M<=H1.M+n+10;omega) ⟨cO.dn c,aW (by show H.M<=H1.M+n+11+n2;omega) (d (by show H.M<=H1.M+n+11+n2+1;omega) ⟨rfl,rfl⟩)⟩⟩⟩⟩⟩))
  exact⟨_,g,by show H.M<=H1.M+n+11+n2+1;omega,l 1⟩
 .obtain⟨v,Z,g,rfl,rfl⟩:=UA H H1 ⟨H1.M+n,H1.aF⟩ ⟨H1.M+n+11+n2,H1.aF⟩ (H.M+11) m k r (λv Z=>v=.slice none 0 0/\Z=⟨H1.M+n+11+n2+1,H1.aF⟩)
   (aW (Nat.le_refl _) (aW A ⟨A,A,aW A ⟨by simp;omega,by simp;omega,aW A ⟨f _,x1 rfl e rfl rfl aC,cO.dn j,aW (by show H.M<=H1.M+n;omega) ⟨λ_=>⟨λs=>⟨by simp;omega,aW (by show H.M<=H1.M+n+10;omega) ⟨cO.dn c,aW (by show H.M<=H1.M+n+11+n2;omega) (d (by show H.M<=H1.M+n+11+n2+1;omega) ⟨rfl,rfl⟩)⟩⟩,λs=>aW (by show H.M<=H1.M+n+10;omega) ⟨cO.dn c,aW (by show H.M<=H1.M+n+11+n2;omega) (d (by show H.M<=H1.M+n+11+n2+1;omega) ⟨rfl,rfl⟩)⟩⟩,λ_=>aW (by show H.M<=H1.M+n+10;omega) ⟨cO.dn c,aW (by show H.M<=H1.M+n+11+n2;omega) (d (by show H.M<=H1.M+n+11+n2+1;omega) ⟨rfl,rfl⟩)⟩⟩⟩⟩⟩))
  exact⟨_,g,by show H.M<=H1.M+n+11+n2+1;omega,l 1⟩
def Vv(H:T)(f:¬j7 k)(hm:m<=7):∃b,h6 k m=some b/\l5 43 H [.av (k:Nat),.ac (m:Nat)] b:=by
 have c:uK k m=true:=by
  unfold j7 at f;by_cases Y:k<=14
  .have:=Vb ⟨k-1,A⟩ ⟨m,A⟩;simpa [pd (show 1<=k by omega)]using this
  .by_cases ag:k<27
   .have:=Vc ⟨k-21,A⟩ ⟨m,A⟩;simpa [pd (show 21<=k by omega)]using this
   .have:=Vd ⟨k-27,A⟩ ⟨m,A⟩;simpa [pd (show 27<=k by omega)]using this
 unfold uK at c;rw [Vo hm]at c
 have g:(h6 k m).isSome=true:=by unfold j7 at f;exact Vl ⟨k,A⟩ ⟨m,A⟩ (by simp only;omega)
 obtain⟨b,e⟩:=nF.1 g;rw [e]at c
 exact⟨b,e,Jf c (λa d=>by
  simp only [dR,ia,hh]at d
  rcases d with rfl|rfl<;>exact b0.int _ _) H⟩
def Vw(a:j7 k):h6 k m=none:=by
 unfold j7 at a;unfold h6;rw [ai A];have Y:rK k=none:=by unfold rK;rw [ai A,ai A,ai A]
 rw [Y];simp only;rw [ai A];have ag:mX k=none:=by unfold mX;rw [ai A,ai A,ai A,ai A,ai A]
 rw [ag]
open Go.Shelf
def Vx:Ren where
 f:=λx=>if x=143 then 74 else if x=144 then 45 else if x=217 then 115 else if x=219 then 95 else if x=224 then 117 else if x=225 then 116 else if x=266 then 133 else if x=267 then 118 else if x=314 then 134 else 0
 t:=λx=>if x=3 then 3 else if x=4 then 4 else if x=5 then 5 else if x=9 then 9 else if x=46 then 108 else if x=51 then 132 else if x=146 then 176 else 0
 g:=λx=>if x=1 then 2 else 0
def Vy:Lays.n144 Tryz.prog Vx:=by constructor;all_goals first|kernel_rfl|(intro w;kernel_rfl)
def Jl:∀(t:Bytes),(hasEnd t=true->0<=Lib.index t cm)/\(hasEnd t=false->Lib.index t cm= -1)
 |[]=>⟨λh=>by simp [hasEnd]at h,λ_=>by simp [Lib.index,cm]⟩
 |b ::r=>by
  obtain⟨Y,ag⟩:=Jl r;rw [hasEnd,Lib.index];cases ae:cm.isPrefixOf (b::r)with
  |true=>exact⟨λ_=> au,λh=>by simp at h⟩
  |false =>
   simp only [sp,ey,ez];refine⟨λh=> ?_,λh=> ?_⟩
   .have:=Y h;rw [ai (by rw [jB];omega)];omega
   .rw [ag h];rfl
def Vz(t:Bytes):Lib.contains t cm=hasEnd t:=by
 obtain⟨Y,ag⟩:=Jl t;unfold Lib.contains;cases h:hasEnd t with
 |true=>simpa using Y h
 |false=>rw [ag h];rfl
def VA(t:Bytes)(p:t.length<=65536)(H:T):be 45 [.str t,.str cm] H (.bool (hasEnd t)) H:=by
 intro aR aV o eh φ w g i f c;obtain⟨l⟩:=g;simp only [bo,aA]at c;obtain⟨a,q,rfl,⟨u,rfl,hu⟩,b,t2,rfl,⟨d,rfl,j⟩,rfl⟩:=c;refine⟨⟨Tryz.f45,_,ao,rfl⟩,?_⟩;have h:=eh.keep f λ_ n=>n
 obtain⟨m,hm⟩:=h.mx
 have k:=Any.strings_Contains Vy u d m w (by
  have:u.size=t.length:=by rw [<-hu];rfl
  rw [this];omega) hm
 rw [hu,j,Vz]at k
 exact k.mono λe a7 ⟨he,hw⟩=>by subst hw;exact⟨_,φ,he,dM.refl _ _,by simp only [aA],i,f,Nat.le_refl _⟩
end Go.Proofs.zz
namespace Go.Keys
def VB{s:bI}(h:Good s)(aw:s.nx≠ .cD):s.ax=[]:=by
 obtain⟨nx,ak,ay,ax⟩:=s;cases nx with
 |ground=>exact h.2.2
 |cQ=>exact h.2.2
 |cp=>exact h.1
 |sequence=>exact h.2.1
 |single=>exact h.2.1
 |cD=>exact absurd rfl aw
end Go.Keys
namespace Go.Proofs.zz
open Go.br Go.Keys
def fl(e:aP)(v:J)(Z:T):Prop :=
 ∃w c,v=.tuple [w,.int .i64 c]/\((∃bs j,enc e=some bs/\c=0/\dF Z j w bs)\/(enc e=none/\c=220/\w=.slice none 0 0))
variable {bs:Bytes}{i j k m n q:Nat}
def fl.new{e:aP}{w:J}{H:T}(he:enc e=some bs)(g:dF H j w bs):fl e (.tuple [w,.V 0]) ⟨H.M+k,H.aF⟩:=⟨_,_,rfl,.inl ⟨bs,j,he,rfl,g.keep rfl (by show H.M<=H.M+k;omega)⟩⟩
def fl.nil{e:aP}{Z:T}(he:enc e=none):fl e (.tuple [.slice none 0 0,.V 220]) Z:=⟨_,_,rfl,.inr ⟨he,rfl,rfl⟩⟩
abbrev Jm:FuncId:=21
def ix(e:aP):Prop:= ∃v Z,be Jm [bp e] (T.of []) v Z/\fl e v Z
def VC(H:T):l5 44 H [.str [],.slice none 0 0] [27,91]:=by
 have e:∀{a b:Nat}{p:Prop},a<=b->p->_root_.cond (Nat.ble a b) p False:=λh k=>by rw [Nat.ble_eq.mpr h];exact k
 obtain⟨H1,d,aj,g1,m,g⟩:=C3 H;have g2:=g1.keep (H':=⟨H1.M+8,H1.aF⟩) rfl (by show H1.M<=H1.M+8;omega);obtain⟨b,he,ag,i,j,l⟩:=g2.ex;simp only [J.slice.injEq,a8,bB.mk.injEq,true_and,hE]at he
 have c:fA env.D 34 (.aB (H.M+1) 0 0 2 2) (.str []) (H1.M+6) ⟨H1.M+8,H1.aF⟩=some (.aB (H.M+1) 0 0 2 2,⟨H1.M+8,H1.aF⟩) :=
  (pD rJ _).symm.trans (z1 (b:=b) rJ (by rfl) aC aC (λa c=>by cases c;exact⟨ag,rfl,rfl⟩) (Nat.le_refl _) (λh=>by cases h))
 obtain⟨w,Z,f,rfl,rfl⟩:=I7 H H1 ⟨H1.M+8,H1.aF⟩ (H.M+1) [] (.aB (H.M+1) 0 0 2 2) (λw Z=>w=.aB (H.M+1) 0 0 2 2/\Z=⟨H1.M+8,H1.aF⟩)
  (aW (Nat.le_refl _) (aW A ⟨d _,aj _ rfl,aW A (aW A (aW A ⟨(uF _ _ _ _).trans c,e (by show H.M<=H1.M+8;omega) ⟨rfl,rfl⟩⟩))⟩))
 exact⟨_,_,H.M+1,f,g2,A,g⟩
def x4(H:T){t:Bytes}(a:t.length<=62):l5 44 H [.str t,.slice none 0 0] (27::91::t):=by
 by_cases h:t=[]
 .subst h;exact VC H
 .exact Us H h A
def VD{e:aP}(a:e.kind≠3)(hm:7<e.cI):enc e=none:=by unfold enc;rw [ai a,az hm]
def VE{e:aP}(a:e.kind≠3)(hm:7<e.cI):ix e:=by obtain⟨v,Z,b,rfl,_⟩:=UD e.kind e.code e.cI e.x e.y e.text (λv Z=>v=.tuple [.slice none 0 0,.V 220]/\True) ⟨by simp [a],by simp;omega,rfl,trivial⟩;exact⟨_,_,b,fl.nil (VD a hm)⟩
def l6{m:Int}(h:¬7<m):some (J.bool (decide (m>7)))=some (J.bool false):=by simp;omega
def VF{c m:Int}(aM:0<=m)(hm:¬7<m):ix ⟨1,c,m,0,0,[]⟩:=by
 by_cases hs:shown c=true
 .have aj:=(rN hs).2.2.2;have f:((m.toNat:Nat):Int)=m:=ja aM;have he:enc ⟨1,c,m,0,0,[]⟩=some (jt c.toNat m.toNat):=by unfold enc;rw [ai au,ai hm,az ⟨rfl,rfl,hs⟩]
  obtain⟨w,H,j,e,g,_,_⟩:=Vg (T.bO 39 [(0,aa.an [bb 1 c m 0 0 []] 6 true (some (42,6))),(4,aa.an [bb 1 0 0 0 0 []] 6 true (some (42,6)))]) (r:=c.toNat) (m:=m.toNat) (by rw [aj];exact hs) A;rw [aj,f]at e;obtain⟨b,rfl,_⟩:=g.ex;have a:=Ah c (T.bO 33 [(0,aa.an [bb 1 c m 0 0 []] 6 true (some (42,6))),(4,aa.an [bb 1 0 0 0 0 []] 6 true (some (42,6)))]);rw [hs]at a;obtain⟨v,Z,d,rfl,rfl⟩:=UE H c m ⟨j,b.ad,0,0,1⟩ (jt c.toNat m.toNat).length (λv Z=>v=.tuple [.aB j b.ad 0 (jt c.toNat m.toNat).length (jt c.toNat m.toNat).length,.V 0]/\Z=⟨H.M+5,H.aF⟩) ⟨l6 hm,⟨a⟩,⟨e⟩,rfl,rfl⟩;exact⟨_,_,d,fl.new he g⟩
 .have he:enc ⟨1,c,m,0,0,[]⟩=none:=by unfold enc;rw [ai au,ai hm,ai (λq=>hs q.2.2),ai (λq=>absurd q.1 au),ai au,ai au,ai (λq=>absurd q.1 au),ai (λq=>absurd q.1 au)]
  have a:=Ah c (T.bO 33 [(0,aa.an [bb 1 c m 0 0 []] 6 true (some (42,6))),(4,aa.an [bb 1 0 0 0 0 []] 6 true (some (42,6)))]);rw [gL.2 hs]at a;obtain⟨v,Z,d,rfl,_⟩:=UG c m (λv Z=>v=.tuple [.slice none 0 0,.V 220]/\True) ⟨l6 hm,⟨a⟩,rfl,trivial⟩;exact⟨_,_,d,fl.nil he⟩
variable {y z:Int}
def VG{c m x:Int}{t:Bytes}(hm:¬7<m)(ae:¬(x=0/\y=0/\t=[])):ix ⟨1,c,m,x,y,t⟩:=by
 have he:enc ⟨1,c,m,x,y,t⟩=none:=by unfold enc;rw [ai au,ai hm,ai (λq=>ae (by have:=q.2.1;simp only [h7,cC,eP]at this;exact⟨this.1.1,this.1.2,this.2⟩)),ai (λq=>absurd q.1 au),ai au,ai au,ai (λq=>absurd q.1 au),ai (λq=>absurd q.1 au)]
 obtain⟨v,Z,a,rfl,_⟩:=UF c m x y t (λv Z=>v=.tuple [.slice none 0 0,.V 220]/\True) ⟨l6 hm,by simpa using ae,rfl,trivial⟩;exact⟨_,_,a,fl.nil he⟩
def Jn{c m:Int}(hm:¬7<m):enc ⟨2,c,m,0,0,[]⟩=if 0<=c then h6 c.toNat m.toNat else none:=by unfold enc;rw [ai au,ai hm,ai (λq=>absurd q.1 au),az ⟨rfl,rfl⟩]
def VH{c m:Int}(aM:0<=m)(hm:¬7<m):ix ⟨2,c,m,0,0,[]⟩:=by
 have f:((m.toNat:Nat):Int)=m:=ja aM;by_cases d:j7 c
 .have he:enc ⟨2,c,m,0,0,[]⟩=none:=by
   rw [Jn hm];split
   .rename_i c0;exact Vw (by rw [ja c0];exact d)
   .rfl
  obtain⟨H,a,_,_⟩:=Vu (T.bO 48 [(0,aa.an [bb 2 c m 0 0 []] 6 true (some (42,6))),(4,aa.an [bb 2 0 0 0 0 []] 6 true (some (42,6)))]) (m:=m.toNat) d A;rw [f]at a;obtain⟨v,Z,e,rfl,_⟩:=UI H c m (λv Z=>v=.tuple [.slice none 0 0,.V 220]/\True) ⟨l6 hm,⟨a⟩,rfl,trivial⟩;exact⟨_,_,e,fl.nil he⟩
 .have c0:0<=c:=by unfold j7 at d;omega
  have aj:((c.toNat:Nat):Int)=c:=ja c0;obtain⟨bs,h,w,H,j,a,g,_,_⟩:=Vv (T.bO 48 [(0,aa.an [bb 2 c m 0 0 []] 6 true (some (42,6))),(4,aa.an [bb 2 0 0 0 0 []] 6 true (some (42,6)))]) (k:=c.toNat) (m:=m.toNat) (by rw [aj];exact d) A;rw [aj,f]at a;have he:enc ⟨2,c,m,0,0,[]⟩=some bs:=by rw [Jn hm,az c0,h]
  obtain⟨b,rfl,_⟩:=g.ex;obtain⟨v,Z,e,rfl,rfl⟩:=UH H c m ⟨j,b.ad,0,0,1⟩ bs.length (λv Z=>v=.tuple [.aB j b.ad 0 bs.length bs.length,.V 0]/\Z=⟨H.M+5,H.aF⟩) ⟨l6 hm,⟨a⟩,rfl,rfl⟩;exact⟨_,_,e,fl.new he g⟩
def VI{c m x:Int}{t:Bytes}(hm:¬7<m)(ae:¬(x=0/\y=0/\t=[])):ix ⟨2,c,m,x,y,t⟩:=by
 have he:enc ⟨2,c,m,x,y,t⟩=none:=by unfold enc;rw [ai au,ai hm,ai (λq=>absurd q.1 au),ai (λq=>ae (by have:=q.2;simp only [h7,cC,eP]at this;exact⟨this.1.1,this.1.2,this.2⟩)),ai au,ai au,ai (λq=>absurd q.1 au),ai (λq=>absurd q.1 au)]
 obtain⟨v,Z,a,rfl,_⟩:=UJ c m x y t (λv Z=>v=.tuple [.slice none 0 0,.V 220]/\True) ⟨l6 hm,by simpa using ae,rfl,trivial⟩;exact⟨_,_,a,fl.nil he⟩
def VJ{c m x:Int}{t:Bytes}(hm:¬7<m):ix ⟨5,c,m,x,y,t⟩:=by
 by_cases d:(⟨5,c,m,x,y,t⟩:aP)=⟨5,0,0,0,0,[]⟩
 .rw [d];obtain⟨w,H,j,f,g,_,_⟩:=x4 (T.bO 48 [(0,aa.an [bb 5 0 0 0 0 []] 6 true (some (42,6))),(4,aa.an [bb 5 0 0 0 0 []] 6 true (some (42,6)))]) (t:=[79]) aC;obtain⟨b,rfl,_⟩:=g.ex;obtain⟨v,Z,a,rfl,rfl⟩:=UK H ⟨j,b.ad,0,0,1⟩ _ (λv Z=>v=.tuple [.aB j b.ad 0 _ _,.V 0]/\Z=⟨H.M+5,H.aF⟩) ⟨⟨f⟩,rfl,rfl⟩;exact⟨_,_,a,fl.new (bs:=27::91:: [79]) (by rfl) g⟩
 .by_cases e:(⟨5,c,m,x,y,t⟩:aP)=⟨5,1,0,0,0,[]⟩
  .rw [e];obtain⟨w,H,j,f,g,_,_⟩:=x4 (T.bO 52 [(0,aa.an [bb 5 1 0 0 0 []] 6 true (some (42,6))),(4,aa.an [bb 5 0 0 0 0 []] 6 true (some (42,6)))]) (t:=[73]) aC;obtain⟨b,rfl,_⟩:=g.ex;obtain⟨v,Z,a,rfl,rfl⟩:=UL H ⟨j,b.ad,0,0,1⟩ _ (λv Z=>v=.tuple [.aB j b.ad 0 _ _,.V 0]/\Z=⟨H.M+5,H.aF⟩) ⟨⟨f⟩,rfl,rfl⟩;exact⟨_,_,a,fl.new (bs:=27::91:: [73]) (by rfl) g⟩
  .have he:enc ⟨5,c,m,x,y,t⟩=none:=by unfold enc;rw [ai au,ai hm,ai (λq=>absurd q.1 au),ai (λq=>absurd q.1 au),ai d,ai e,ai (λq=>absurd q.1 au),ai (λq=>absurd q.1 au)]
   obtain⟨v,Z,a,rfl,_⟩:=UM c m x y t (λv Z=>v=.tuple [.slice none 0 0,.V 220]/\True) ⟨l6 hm,by simpa using d,by simpa using e,rfl,trivial⟩;exact⟨_,_,a,fl.nil he⟩
def VK{k c m x:Int}{t:Bytes}(b:k≠3)(Y:k≠1)(ag:k≠2)(a:k≠5)(d:k≠4)(e:k≠6)(hm:¬7<m):ix ⟨k,c,m,x,y,t⟩:=by
 have he:enc ⟨k,c,m,x,y,t⟩=none:=by unfold enc;rw [ai b,ai hm,ai (λq=>Y q.1),ai (λq=>ag q.1),ai (λq=>a (dm aP.kind q)),ai (λq=>a (dm aP.kind q)),ai (λq=>d (dm aP.kind q.1)),ai (λq=>e (dm aP.kind q.1))]
 obtain⟨v,Z,f,rfl,_⟩:=UY k c m x y t (λv Z=>v=.tuple [.slice none 0 0,.V 220]/\True) ⟨by simp [b],l6 hm,by simp [Y],by simp [ag],by simp [a],by simp [a],by simp [d],by simp [e],rfl,trivial⟩;exact⟨_,_,f,fl.nil he⟩
abbrev dl(e:J):aa:=aa.an [e] 6 true (some (42,6))
def Jo{h:T}{x:Nat}{k c m:Int}{t:Bytes}(e:h.get x=some (dl (bb k c m y z t))):a6 (bi.D env) 42 ⟨x,0,0,0,6⟩ h=some (bb k c m y z t):=by have a:(bi.D env 42).map (λd=>(d.kind.isAgg,d.size))=some (true,6):= ao;obtain⟨x,Y,ag⟩:=cb.1 a;simp only [bC]at ag;unfold a6;rw [Y,e];simp [aa.elem?,aa.b6,eK,ag.1,ag.2,aa.an]
def Dd{h:T}{x:Nat}{k c m:Int}{t:Bytes}(e:h.get x=some (dl (bb k c m y z t))):a6 (bi.D env) 9 ⟨x,0,0,5,6⟩ h=some (.str t):=by have a:(bi.D env 9).map (λd=>d.kind.isAgg)=some false:= ao;obtain⟨x,Y,ag⟩:=cb.1 a;unfold a6;rw [Y,e];simp [aa.elem?,aa.b6,eK,ag,aa.an]
abbrev x5:aa:=aa.an [J.agg [J.int .i64 0,J.int .i64 1,J.int .i64 2,J.int .i64 0,J.int .i64 64,J.int .i64 65,J.int .i64 35]] 7 true (some (106,7))
def VL:∀c:Fin 7,c' (bi.D env) 106 (J.agg [J.int .i64 0,J.int .i64 1,J.int .i64 2,J.int .i64 0,J.int .i64 64,J.int .i64 65,J.int .i64 35]) (J.int .i32 (c.val:Nat))=some (J.int .i64 (gI c.val:Nat)):=by
 intro c;rcases c with ⟨c,aj⟩
 rcases (show c=0\/c=1\/c=2\/c=3\/c=4\/c=5\/c=6 by omega)with rfl|rfl|rfl|rfl|rfl|rfl|rfl<;>kernel_rfl
def VM:∀c:Fin 7,∀m:Fin 8,bP .i64 (gI c.val:Nat) (eu .i64 (m.val:Nat) 2)=((gI c.val+4*m.val:Nat):Int):=by decide+kernel
def Jp{H H1:T}{a:Nat}(g:dF H j (.aB j a 0 n n) bs)(ag:2<bs.length)(i:bs.length<2^30):∃H1 H2 v j2,(∀F,bt env cr (H.M+0) (ba F) ⟨H.M+6,H.aF⟩ (Op.buildSlice 34 3 {toList:=[(0,Operand.const (Value.int .u8 (27))),(1,Operand.const (Value.int .u8 (91))),(2,Operand.const (Value.int .u8 (60)))]})=some (J.aB H.M 0 0 3 3,H1)) /\
 (∀F,ba F (.tmp 64)=J.aB H.M 0 0 3 3->du env (H.M+1) (ba F) H1 (Op.convert 34 34 (Operand.tmp 64))=some (J.aB H.M 0 0 3 3,H1)) /\
 eY env Builtin.append {toList:=[34,34]} [J.aB H.M 0 0 3 3,J.aB j a 2 (n-2) (n-2)] (H.M+4) H1=some (v,H2)/\dF H2 j2 v (27::91::60::bs.drop 2):=by
 have b:=Db (H:=H) (y:=H.M) (aa.an (aE [27,91,60]) 1 true) 6 A;have l:((⟨H.M+6,H.aF⟩:T).set H.M (aa.an (aE [27,91,60]) 1 true)).M=H.M+6:=rfl;have f:=g.lt;have g1:dF ((⟨H.M+6,H.aF⟩:T).set H.M (aa.an (aE [27,91,60]) 1 true)) j (.aB j a 0 n n) bs:=g.keep (T.dN _ _ A) A;have e:dF ((⟨H.M+6,H.aF⟩:T).set H.M (aa.an (aE [27,91,60]) 1 true)) H.M (.aB H.M 0 0 3 3) [27,91,60]:=dF.an (bs:=[27,91,60]) b A (λh=>by cases h)
 obtain⟨v,H2,j2,c,g2,_,_,_⟩:=e.e9 (nid:=H.M+4) (g1.drop (k:=2) A) (by
  intro h;have:=dm List.length h
  rw [eF,cq]at this;omega) (by rw [eF];simp only [bK,cq];omega) A
 exact⟨_,H2,v,j2,(λF=> ao),λF d=>x1 d b rfl rfl aC,(xZ _ _ _ _).trans c,g2⟩
def Jq{H:T}{b x y:Nat}{e:Bytes}(he:e≠[])(d:e.length=1)(ab:H.get q=some (oG [b,x,y]))(a:q<H.M)(c:b<10000000)(f:x<10000000)(g:y<10000000):l5 44 H [.str e,.aB q 0 0 3 3] (e7 e [b,x,y]) :=
 C4 (l:=[b,x,y]) ab a au (by intro n aw;simp only [dR,ia,hh]at aw;rcases aw with rfl|rfl|rfl<;>omega) he A
def Jr:Int.NonNeg (2-0):=(show(0:Int)<=2 by decide)
def Js{h Z:T}{b:aa}(e:Z=(⟨h.M+k,h.aF⟩:T).set i b)(ah:n<=i):hW n h Z=true:=by subst e;exact vG λx a=>by rw [T.dN _ _ A];rfl
def VN(H:T){c x y:Nat}(aj:c<=6)(hm:m<=7)(B:x<4096)(C:y<4096):l5 40 H [bb 3 c m x y []] (l3 c m x y):=by
 have ah:=VL ⟨c,A⟩;have t:=VM ⟨c,A⟩ ⟨m,A⟩;simp only at ah t;have z:gI c+4*m<1000:=(Vk ⟨c,A⟩ ⟨m,A⟩).2.2
 have d:∀e:UInt8,(e7 [e] [gI c+4*m,x+1,y+1]).length<2^30/\2<(e7 [e] [gI c+4*m,x+1,y+1]).length:=by intro e;have:=x0 [gI c+4*m,x+1,y+1] (by intro n aw;simp only [dR,ia,hh]at aw;rcases aw with rfl|rfl|rfl<;>omega);unfold e7;simp only [bK,dt,cq]at this⊢;omega
 have u:∀a∈ [bb (3:Int) c m x y []],b0 a:=λa f=>by rw [cF.1 f];exact b0.of rfl
 by_cases l:c=3
 .obtain⟨w,K,j,s,g,_,ay⟩:=Jq (H:=T.bO 67 [(0,dl (bb 3 c m x y [])),(61,aa.an [J.int .i64 ((gI c+4*m:Nat):Int),J.int .i64 ((x:Int)+1),J.int .i64 ((y:Int)+1)] 1 true),(64,x5)]) (q:=61) (b:=gI c+4*m) (x:=x+1) (y:=y+1) (e:=[109]) au rfl (by rfl) (by show(61:Nat)<67;decide) A A A;obtain⟨b,rfl,_⟩:=g.ex;obtain⟨H1,H2,v,j2,o,p,f,g2⟩:=Jp g (d 109).2 (d 109).1 (H1:=K)
  obtain⟨h,Z,r,rfl,rfl⟩:=U8 K H1 H2 c m x y (gI c) j b.ad (e7 [109] [gI c+4*m,x+1,y+1]).length K.M v (λh Z=>h=v/\Z=H2)
   ⟨rfl,by simp;omega,by simp;omega,rfl,by simp;omega,rfl,by simp;omega,rfl,by simp [l],Js (n:=64) (i:=64) (k:=3) (b:=x5) ao A,ah,A,Jr,trivial,A,A,by rw [t];exact⟨s⟩,o _,p _ rfl,⟨A,by have:=(d 109).2;omega,Nat.le_refl _⟩,f,rfl,rfl⟩
  have e:l3 c m x y=27::91::60::(e7 [109] [gI c+4*m,x+1,y+1]).drop 2:=by unfold l3 e7;rw [az l];rfl
  rw [e];exact l5.of r g2 u H
 .obtain⟨w,K,j,s,g,_,ay⟩:=Jq (H:=T.bO 66 [(0,dl (bb 3 c m x y [])),(60,aa.an [J.int .i64 ((gI c+4*m:Nat):Int),J.int .i64 ((x:Int)+1),J.int .i64 ((y:Int)+1)] 1 true),(63,x5)]) (q:=60) (b:=gI c+4*m) (x:=x+1) (y:=y+1) (e:=[77]) au rfl (by rfl) (by show(60:Nat)<66;decide) A A A;obtain⟨b,rfl,_⟩:=g.ex;obtain⟨H1,H2,v,j2,o,p,f,g2⟩:=Jp g (d 77).2 (d 77).1 (H1:=K)
  obtain⟨h,Z,r,rfl,rfl⟩:=U7 K H1 H2 c m x y (gI c) j b.ad (e7 [77] [gI c+4*m,x+1,y+1]).length K.M v (λh Z=>h=v/\Z=H2)
   ⟨rfl,by simp;omega,by simp;omega,rfl,by simp;omega,rfl,by simp;omega,rfl,by simp;omega,Js (n:=63) (i:=63) (k:=3) (b:=x5) ao A,ah,A,Jr,trivial,A,A,by rw [t];exact⟨s⟩,o _,p _ rfl,⟨A,by have:=(d 77).2;omega,Nat.le_refl _⟩,f,rfl,rfl⟩
  have e:l3 c m x y=27::91::60::(e7 [77] [gI c+4*m,x+1,y+1]).drop 2:=by unfold l3 e7;rw [ai l];rfl
  rw [e];exact l5.of r g2 u H
def Jt(c m x y:Int)(t:Bytes):enc ⟨3,c,m,x,y,t⟩=if rL ⟨3,c,m,x,y,t⟩=true then some (l3 c.toNat m.toNat x.toNat y.toNat)else none:=by unfold enc;rw [az rfl]
def VO{c m x:Int}{t:Bytes}(h:rL ⟨3,c,m,x,y,t⟩≠true)(H:T):rS 40 H [bb 3 c m x y t]:=by
 have fin:(∃v Z,be 40 [bb 3 c m x y t] ⟨0,.nil⟩ v Z/\v=.slice none 0 0)->rS 40 H [bb 3 c m x y t]:=by rintro ⟨v,Z,k,rfl⟩;exact rS.of k (λa j=>by rw [cF.1 j];exact b0.of rfl) H
 apply fin;by_cases Y:c<0
 .exact UZ c m x y t (λv _=>v=.slice none 0 0) ⟨by simp [Y],rfl⟩
 by_cases ag:c>6
 .exact U0 c m x y t (λv _=>v=.slice none 0 0) ⟨by simp;omega,by simp [ag],rfl⟩
 by_cases b:m>7
 .exact U1 c m x y t (λv _=>v=.slice none 0 0) ⟨by simp;omega,by simp;omega,by simp [b],rfl⟩
 by_cases d:x<0
 .exact U2 c m x y t (λv _=>v=.slice none 0 0) ⟨by simp;omega,by simp;omega,by simp;omega,by simp [d],rfl⟩
 by_cases e:x≥4096
 .exact U3 c m x y t (λv _=>v=.slice none 0 0) ⟨by simp;omega,by simp;omega,by simp;omega,by simp;omega,by simp [e],rfl⟩
 by_cases f:y<0
 .exact U4 c m x y t (λv _=>v=.slice none 0 0) ⟨by simp;omega,by simp;omega,by simp;omega,by simp;omega,by simp;omega,by simp [f],rfl⟩
 by_cases g:y≥4096
 .exact U5 c m x y t (λv _=>v=.slice none 0 0) ⟨by simp;omega,by simp;omega,by simp;omega,by simp;omega,by simp;omega,by simp;omega,by simp [g],rfl⟩
 have i:t≠[]:=by intro l;apply h;simp only [rL,cC,eP];exact⟨⟨⟨⟨⟨⟨⟨A,A⟩,A⟩,A⟩,A⟩,A⟩,A⟩,l⟩
 exact U6 c m x y t (λv _=>v=.slice none 0 0) ⟨by simp;omega,by simp;omega,by simp;omega,by simp;omega,by simp;omega,by simp;omega,by simp;omega,by simp [i],rfl⟩
def VP{c m x:Int}{t:Bytes}(aM:0<=m):ix ⟨3,c,m,x,y,t⟩:=by
 by_cases a:rL ⟨3,c,m,x,y,t⟩=true
 .have he:=Jt c m x y t;rw [az a]at he;simp only [rL,cC,eP]at a;obtain⟨⟨⟨⟨⟨⟨⟨c0,h⟩,m7⟩,ij⟩,i⟩,f⟩,k⟩,rfl⟩:=a;obtain⟨w,H,j,d,g,_,_⟩:=VN (T.bO 18 [(0,dl (bb 3 c m x y [])),(4,dl (bb 3 0 0 x y []))]) (c:=c.toNat) (m:=m.toNat) (x:=x.toNat) (y:=y.toNat) A A A A;rw [ja c0,ja aM,ja ij,ja f]at d;obtain⟨b,rfl,_⟩:=g.ex;obtain⟨v,Z,e,rfl,rfl⟩:=UB H c m x y [] ⟨j,b.ad,0,0,1⟩ (l3 c.toNat m.toNat x.toNat y.toNat).length (λv Z=>v=.tuple [.aB j b.ad 0 (l3 c.toNat m.toNat x.toNat y.toNat).length (l3 c.toNat m.toNat x.toNat y.toNat).length,.V 0]/\Z=⟨H.M+5,H.aF⟩) ⟨⟨d⟩,rfl,rfl⟩;exact⟨_,_,e,fl.new he g⟩
 .have he:=Jt c m x y t;rw [ai a]at he;obtain⟨H,d,_,_⟩:=VO a (T.bO 18 [(0,dl (bb 3 c m x y t)),(4,dl (bb 3 0 0 x y t))]);obtain⟨v,Z,e,rfl,_⟩:=UC H c m x y t (λv Z=>v=.tuple [.slice none 0 0,.V 220]/\True) ⟨⟨d⟩,rfl,trivial⟩;exact⟨_,_,e,fl.nil he⟩
def De(t:Bytes):enc ⟨4,0,0,0,0,t⟩=if t.length<=65536/\hasEnd t=false then some (mY++(t++cm))else none:=by
 unfold enc;rw [ai au,ai au,ai (λq=>absurd q.1 au),ai (λq=>absurd q.1 au),ai au,ai au];by_cases h:t.length<=65536/\hasEnd t=false
 .rw [az ⟨rfl,h⟩,az h]
 .rw [ai (λq=>h q.2),ai h,ai (λq=>absurd q.1 au)]
def VQ{c m x:Int}{t:Bytes}(hm:¬7<m)(h:¬(c=0/\m=0/\x=0/\y=0)):ix ⟨4,c,m,x,y,t⟩:=by
 have he:enc ⟨4,c,m,x,y,t⟩=none:=by unfold enc;rw [ai au,ai hm,ai (λq=>absurd q.1 au),ai (λq=>absurd q.1 au),ai au,ai au,ai (λq=>h (by simpa using q.1)),ai (λq=>absurd q.1 au)]
 obtain⟨v,Z,a,rfl,_⟩:=UO c m x y t (λv Z=>v=.tuple [.slice none 0 0,.V 220]/\True) ⟨l6 hm,by simpa using h,rfl,trivial⟩;exact⟨_,_,a,fl.nil he⟩
def VR(t:Bytes):ix ⟨4,0,0,0,0,t⟩:=by
 by_cases k:t.length<=65536
 .have d:=VA t k (T.bO 68 [(0,dl (bb 4 0 0 0 0 t)),(4,dl (bb 4 0 0 0 0 t))]);cases f:hasEnd t with
  |true =>
   have he:enc ⟨4,0,0,0,0,t⟩=none:=by rw [De,ai (λq=>by rw [f]at q;exact absurd q.2 au)]
   rw [f]at d;obtain⟨v,Z,a,rfl,_⟩:=UQ t (λv Z=>v=.tuple [.slice none 0 0,.V 220]/\True) ⟨au,by simp;omega,⟨d⟩,rfl,trivial⟩;exact⟨_,_,a,fl.nil he⟩
  |false =>
   have he:enc ⟨4,0,0,0,0,t⟩=some (mY++(t++cm)):=by rw [De,az ⟨k,f⟩]
   rw [f]at d;obtain⟨w,H,j,p,g,h,m⟩:=C4 (H:=T.bO 75 [(0,dl (bb 4 0 0 0 0 t)),(4,dl (bb 4 0 0 0 0 t)),(68,oG [200])]) (q:=68) (c:=1) (l:=[200]) (e:=[126]) rfl (by show(68:Nat)<75;decide) au au au au;have h:75<=j:=h;have r:=g.lt
   have n:e7 [126] [200]=mY:=by unfold e7 gd;rw [p6 aC,p6 aC,p7 aC];rfl
   rw [n]at g;have aM:H.get 0=some (dl (bb 4 0 0 0 0 t)):=m 0 (by show(0:Nat)<75;decide);obtain⟨b,rfl,_⟩:=g.ex;obtain⟨v2,H1,j2,o,g2,_,_,_⟩:=g.e9 (nid:=73) (x:= .str (t++cm)) (new:=t++cm) (by rfl) (by simp [cm]) (by simp [mY,cm];omega) A;obtain⟨bx,rfl,_⟩:=g2.ex
   obtain⟨v,Z,a,rfl,rfl⟩:=UN H H1 t ⟨j,b.ad,0,0,1⟩ ⟨j2,bx.ad,0,0,1⟩ mY.length (mY++(t++cm)).length (λv Z=>v=.tuple [.aB j2 bx.ad 0 (mY++(t++cm)).length (mY++(t++cm)).length,.V 0]/\Z=⟨H1.M+5,H1.aF⟩)
    ⟨au,by simp;omega,⟨d⟩,⟨p⟩,vG (λi ah=>m i ah),Dd aM,by show Nat.le (Nat.succ (t.length+6)) (2^62);show t.length+6+1<=2^62;omega,(uF _ _ _ _).trans o,.inr (by exact h),rfl,rfl⟩
   exact⟨_,_,a,fl.new he g2⟩
 .have he:enc ⟨4,0,0,0,0,t⟩=none:=by rw [De,ai (λq=>k q.1)]
  obtain⟨v,Z,a,rfl,_⟩:=UP t (λv Z=>v=.tuple [.slice none 0 0,.V 220]/\True) ⟨au,by simp;omega,rfl,trivial⟩;exact⟨_,_,a,fl.nil he⟩
def Ju(t:Bytes):enc ⟨6,0,0,0,0,t⟩=if t.length<=62 then(if(cB zero (27::91::t)).2=[⟨6,0,0,0,0,t⟩]/\held (cB zero (27::91::t)).1=0 then some (27::91::t)else none)else none:=by
 unfold enc;rw [ai au,ai au,ai (λq=>absurd q.1 au),ai (λq=>absurd q.1 au),ai au,ai au,ai (λq=>absurd q.1 au)];by_cases h:t.length<=62
 .rw [az ⟨rfl,h⟩,az h]
 .rw [ai (λq=>h q.2),ai h]
def VS{c m x:Int}{t:Bytes}(hm:¬7<m)(h:¬(c=0/\m=0/\x=0/\y=0)):ix ⟨6,c,m,x,y,t⟩:=by
 have he:enc ⟨6,c,m,x,y,t⟩=none:=by unfold enc;rw [ai au,ai hm,ai (λq=>absurd q.1 au),ai (λq=>absurd q.1 au),ai au,ai au,ai (λq=>absurd q.1 au),ai (λq=>h (by simpa using q.1))]
 obtain⟨v,Z,a,rfl,_⟩:=UW c m x y t (λv Z=>v=.tuple [.slice none 0 0,.V 220]/\True) ⟨l6 hm,by simpa using h,rfl,trivial⟩;exact⟨_,_,a,fl.nil he⟩
def cT.an{K K':T}(aw:K.M<=K'.M)(b:∀x,x<K.M->K'.get x=K.get x)(c:Nat->Nat)(k:Nat):cT K K' c (λx=>if x<K.M then c x else k) []:=⟨aw,λx a _=>b x a,λx a _=>az a⟩
def dF.Df{H:T}{v:J}{col:Nat->Nat}{c:Nat}(g:dF H j v bs)(aj:col j=c):∃ad,v=.aB j ad 0 bs.length bs.length/\mW H col c (some ⟨j,ad,0,0,1⟩) bs:=by obtain⟨b,rfl,ag,d,a,e⟩:=g.ex;refine⟨b.ad,rfl,⟨.inr ⟨j,b.ad,0,rfl,⟨b,ag,λi ah=> ?_⟩,g.lt,aj⟩⟩⟩;simp [aa.elem?,aa.b6,a,aE,ah]
def VT{s:bI}(h:Keys.Good s):s.ak.length<2^40/\s.ax.length<2^40:=by
 have b:=Vm h;refine⟨A,?_⟩;by_cases aw:s.nx=.cD
 .obtain⟨nx,ak,ay,ax⟩:=s;simp only at aw;subst aw;obtain⟨_,_,_,a⟩:=h;simp only at a⊢;omega
 .rw [VB h aw];simp
def VU(t:Bytes):ix ⟨6,0,0,0,0,t⟩:=by
 by_cases B:t.length<=62
 rotate_left
 .have he:enc ⟨6,0,0,0,0,t⟩=none:=by rw [Ju,ai B]
  obtain⟨v,Z,n,rfl,_⟩:=UX t (λv Z=>v=.tuple [.slice none 0 0,.V 220]/\True) ⟨au,by simp;omega,rfl,trivial⟩;exact⟨_,_,n,fl.nil he⟩
 have C:some (J.bool (decide ((t.length:Int)<=62)))=some (J.bool true):=by simp;omega
 have he:=Ju t;rw [az B]at he;obtain⟨H1,d,I,cL,E,a5,m1⟩:=ir.new (T.bO 82 [(0,dl (bb 6 0 0 0 0 t)),(4,dl (bb 6 0 0 0 0 t))]) (λ_=>0) 1;have d1:82<=H1.M:=m1.M;have f1:=cT.fresh H1 cL 6;obtain⟨d6,H2,j,w,g2,a0,bs⟩:=x4 ⟨H1.M+6,H1.aF⟩ B;have a0:H1.M+6<=j:=a0;have dg:=g2.lt;have m2:=cT.an (K:=⟨H1.M+6,H1.aF⟩) (K':=H2) (by show H1.M+6<=H2.M;omega) bs (fresh H1 cL) 5;obtain⟨ad,rfl,a4⟩:=g2.Df (col:=λx=>if x<H1.M+6 then fresh H1 cL x else 5) (c:=5) (by show(if j<H1.M+6 then _ else 5)=5;rw [ai A]);have a9:=(a5.de f1 au).de m2 au;obtain⟨g,cj,c0,c3,F,W,O,m3⟩:=a9.feed (m:=(27::91::t).length) IT (by simp only [bK];omega) a4 aC;have Q:=((m1.trans f1).trans m2).trans m3;have a2:=Q.M;have a2:82<=g.M:=a2;have ct:g.get 0=some (dl (bb 6 0 0 0 0 t)):=(Q.get 0 (by show(0:Nat)<82;decide) aC).trans rfl;have G:a6 (bi.D env) 9 ⟨0,0,0,5,6⟩ ⟨H1.M+6,H1.aF⟩=some (.str t):=Dd (h:=⟨H1.M+6,H1.aF⟩) ((m1.get 0 (by show(0:Nat)<82;decide) aC).trans rfl);have S:a6 (bi.D env) 42 ⟨0,0,0,0,6⟩ ⟨g.M+15,g.aF⟩=some (bb 6 0 0 0 0 t):=Jo (h:=⟨g.M+15,g.aF⟩) ct;have hzero:zero=jL:=rfl;rw [hzero]at he;have am:=FX (27::91::t) IT;have L:=VT am;generalize d0:(cB jL (27::91::t)).2=es at O he;generalize d2:(cB jL (27::91::t)).1=sz at W he am L
 have bv:∃aD,cj=.slice aD es.length es.length:=by
  rcases O.ex with ⟨rfl,ag⟩|⟨_,o,_,_,s,d5,f,rfl,_⟩
  .have:es=[]:=by simpa using ag
   rw [this];exact⟨none,rfl⟩
  .exact⟨_,by rw [iF]⟩
 by_cases Y:es.length=1
 rotate_left
 .obtain⟨aD,rfl⟩:=bv
  have p:enc ⟨6,0,0,0,0,t⟩=none:=by rw [he,ai];rintro ⟨q,_⟩;rw [q]at Y;exact Y rfl
  obtain⟨v,Z,n,rfl,_⟩:=UR H1 H2 g g g t d (27::91::t).length es.length ⟨j,ad,0,0,1⟩ aD (λv Z=>v=.tuple [.slice none 0 0,.V 220]/\True)
   ⟨au,C,⟨E⟩,G,⟨w⟩,⟨F⟩,by simp;omega,rfl,trivial⟩
  exact⟨_,_,n,fl.nil p⟩
 obtain⟨x,rfl⟩:∃x,es=[x]:=by
  cases es with
  |nil=>simp at Y
  |cons x r =>
   have:r=[]:=by simpa using Y
   rw [this];exact⟨x,rfl⟩
 obtain⟨o,ca,_⟩:=TU O;obtain⟨s,d4,d3,rfl,ce,P⟩:=ca.cases;have rx:a6 (bi.D env) 42 ⟨o,s,0,0,6⟩ ⟨g.M+15,g.aF⟩=some (bp x):=TR (i:=0) (h:=⟨g.M+15,g.aF⟩) ce au;by_cases N:x=⟨6,0,0,0,0,t⟩
 rotate_left
 .have p:enc ⟨6,0,0,0,0,t⟩=none:=by rw [he,ai];rintro ⟨q,_⟩;exact N (by simpa using q)
  obtain⟨v,Z,n,rfl,_⟩:=US H1 H2 g g g t d (27::91::t).length o s ⟨j,ad,0,0,1⟩ ⟨0,0,0,0,0⟩ 0 x.kind x.code x.cI x.x x.y x.text (λv Z=>v=.tuple [.slice none 0 0,.V 220]/\True)
   ⟨au,C,⟨E⟩,G,⟨w⟩,⟨F⟩,rx,P,S,A,by
    have:¬(x.kind=6/\x.code=0/\x.cI=0/\x.x=0/\x.y=0/\x.text=t):=by rintro ⟨a,b,c,d,e,f⟩;apply N;obtain⟨k,c5,m,y,z,u⟩:=x;simp only at a b c d e f;subst a b c d e f;rfl
    simpa using this,rfl,trivial⟩
  exact⟨_,_,n,fl.nil p⟩
 subst N;obtain⟨l,c2,c4,R,c9,m4,X⟩:=(W.de (cT.fresh g c3 15) au).held L.1 L.2;have X:g.M+15<l.M:=X;by_cases aM:held sz=0
 rotate_left
 .have p:enc ⟨6,0,0,0,0,t⟩=none:=by rw [he,ai (λq=>aM q.2)]
  obtain⟨v,Z,n,rfl,_⟩:=UT H1 H2 g l l t d (27::91::t).length o s ⟨j,ad,0,0,1⟩ ⟨0,0,0,0,0⟩ 0 (.undef) (held sz:Nat) (λv Z=>v=.tuple [.slice none 0 0,.V 220]/\True)
   ⟨au,C,⟨E⟩,G,⟨w⟩,⟨F⟩,rx,P,S,A,au,⟨R⟩,by simp;omega,rfl,trivial⟩
  exact⟨_,_,n,fl.nil p⟩
 rw [aM]at R;have p:enc ⟨6,0,0,0,0,t⟩=some (27::91::t):=by rw [he,az ⟨rfl,aM⟩]
 have co:=(Q.trans (cT.fresh g c3 15)).trans m4;have cs:l.get 0=some (dl (bb 6 0 0 0 0 t)):=(co.get 0 (by show(0:Nat)<82;decide) aC).trans rfl;obtain⟨d7,H,a3,bn,g5,_,_⟩:=x4 ⟨l.M+4,l.aF⟩ B;obtain⟨U,rfl,_⟩:=g5.ex
 obtain⟨v,Z,n,rfl,rfl⟩:=UU H1 H2 g l H t d (27::91::t).length o s ⟨j,ad,0,0,1⟩ ⟨a3,U.ad,0,0,1⟩ (27::91::t).length (.undef) 0 (λv Z=>v=.tuple [.aB a3 U.ad 0 (27::91::t).length (27::91::t).length,.V 0]/\Z=⟨H.M+5,H.aF⟩)
  ⟨au,C,⟨E⟩,G,⟨w⟩,⟨F⟩,rx,P,S,A,au,⟨R⟩,Dd (h:=⟨l.M+4,l.aF⟩) cs,⟨bn⟩,rfl,rfl⟩
 exact⟨_,_,n,fl.new p g5⟩
def VV{e:aP}(aM:0<=e.cI):ix e:=by
 obtain⟨k,c,m,x,y,t⟩:=e;simp only at aM;by_cases a:k=3
 .subst a;exact VP aM
 by_cases hm:7<m
 .exact VE a hm
 by_cases Y:k=1
 .subst Y;by_cases ae:x=0/\y=0/\t=[]
  .obtain⟨rfl,rfl,rfl⟩:=ae;exact VF aM hm
  .exact VG hm ae
 by_cases ag:k=2
 .subst ag;by_cases ae:x=0/\y=0/\t=[]
  .obtain⟨rfl,rfl,rfl⟩:=ae;exact VH aM hm
  .exact VI hm ae
 by_cases d:k=5
 .subst d;exact VJ hm
 by_cases b:k=4
 .subst b;by_cases ae:c=0/\m=0/\x=0/\y=0
  .obtain⟨rfl,rfl,rfl,rfl⟩:=ae;exact VR t
  .exact VQ hm ae
 by_cases f:k=6
 .subst f;by_cases ae:c=0/\m=0/\x=0/\y=0
  .obtain⟨rfl,rfl,rfl,rfl⟩:=ae;exact VU t
  .exact VS hm ae
 exact VK a Y ag d b f hm
def VW(H:T){e:aP}(b:ix e) :
 ∃w c H',be Jm [bp e] H (.tuple [w,.V c]) H'/\H.M<=H'.M/\(∀x,x<H.M->H'.get x=H.get x)/\((∃bs j,enc e=some bs/\c=0/\dF H' j w bs/\H.M<=j)\/(enc e=none/\c=220/\w=.slice none 0 0)):=by
 obtain⟨v,Z,h,w,c,rfl,i⟩:=b;obtain⟨H',d,aw,ab,f⟩:=Dc h (λa b=>by rw [cF.1 b];exact b0.of rfl) H;rcases i with ⟨bs,j,cw,rfl,g⟩|⟨cw,rfl,rfl⟩
 .exact⟨_,_,H',d,A,f,.inl ⟨bs,H.M+j,cw,rfl,g.place aw ab,A⟩⟩
 .exact⟨_,_,H',d,A,f,.inr ⟨cw,rfl,rfl⟩⟩
abbrev m':J:= .agg [.str [99,116,114,108,43],.str [97,108,116,43],.str [115,104,105,102,116,43]]
abbrev VX:J:=J.str [115,104,105,102,116,43]
abbrev rU(a:T):T:=(T.mk (a.M+5+6) (T.aF (T.mk (a.M+1+4) (T.aF (T.mk (a.M+1) (T.aF a))))))
abbrev na:J:=J.agg [.str [99,116,114,108,43],.str [97,108,116,43],VX]
def Jv(a:T)(b c:Nat)(f:Bytes)(d:Int)(g:b8->bc->T->Prop)(i:aY b (a.M) (aY b (a.M+1) (aY b (a.M+5) (a6 env.D 5 ⟨c,0,0,2,6⟩ (bf a 11)=some (.ac d)/\c<a.M+5/\True/\(a' .u8 d (4)=0->aY b (a.M+11) (g .normal [(1,J.aT c),(6,.str f),(26,na),(27,.V 1)] (T.mk (a.M+11+2) (T.aF (rU a)))))/\(¬a' .u8 d (4)=0->aY b (a.M+11) (bY (f.length+List.length [(99:UInt8),116,114,108,43])/\aY b (a.M+15) (g .normal [(1,J.aT c),(6,.str (f++[(99:UInt8),116,114,108,43])),(26,na),(27,.V 1)] (T.mk (a.M+15+2) (T.aF (T.mk (a.M+11+4) (T.aF (rU a)))))))))))) :
 ∃e h Y,bN b 89 (bu 23 0) [(1,J.aT c),(6,.str f),(26,m'),(27,.V 0)] a e h Y/\g e h Y :=
 dD c6 mixed ci (hs:= .aG (.gO 8001 (.ac d)) (ab 8004 (.al 8005 .nil (ab 9002 .nil)))) (keep:=[1,6,26,27]) ao i
def Jw(a:T)(b c:Nat)(f:Bytes)(d:Int)(g:b8->bc->T->Prop)(i:aY b (a.M) (aY b (a.M+1) (aY b (a.M+5) (a6 env.D 5 ⟨c,0,0,2,6⟩ (bf a 11)=some (.ac d)/\c<a.M+5/\True/\(a' .u8 d (2)=0->aY b (a.M+11) (g .normal [(1,J.aT c),(6,.str f),(26,na),(27,.V 2)] (T.mk (a.M+11+2) (T.aF (rU a)))))/\(¬a' .u8 d (2)=0->aY b (a.M+11) (bY (f.length+List.length [(97:UInt8),108,116,43])/\aY b (a.M+15) (g .normal [(1,J.aT c),(6,.str (f++[(97:UInt8),108,116,43])),(26,na),(27,.V 2)] (T.mk (a.M+15+2) (T.aF (T.mk (a.M+11+4) (T.aF (rU a)))))))))))) :
 ∃e h Y,bN b 89 (bu 23 0) [(1,J.aT c),(6,.str f),(26,m'),(27,.V 1)] a e h Y/\g e h Y :=
 dD c6 mixed ci (hs:= .aG (.gO 8001 (.ac d)) (ab 8004 (.al 8005 .nil (ab 9002 .nil)))) (keep:=[1,6,26,27]) ao i
def Jx(a:T)(b c:Nat)(f:Bytes)(d:Int)(g:b8->bc->T->Prop)(i:aY b (a.M) (aY b (a.M+1) (aY b (a.M+5) (a6 env.D 5 ⟨c,0,0,2,6⟩ (bf a 11)=some (.ac d)/\c<a.M+5/\True/\(a' .u8 d (1)=0->aY b (a.M+11) (g .normal [(1,J.aT c),(6,.str f),(26,na),(27,.V 3)] (T.mk (a.M+11+2) (T.aF (rU a)))))/\(¬a' .u8 d (1)=0->aY b (a.M+11) (bY (f.length+List.length [(115:UInt8),104,105,102,116,43])/\aY b (a.M+15) (g .normal [(1,J.aT c),(6,.str (f++[(115:UInt8),104,105,102,116,43])),(26,na),(27,.V 3)] (T.mk (a.M+15+2) (T.aF (T.mk (a.M+11+4) (T.aF (rU a)))))))))))) :
 ∃e h Y,bN b 89 (bu 23 0) [(1,J.aT c),(6,.str f),(26,m'),(27,.V 2)] a e h Y/\g e h Y :=
 dD c6 mixed ci (hs:= .aG (.gO 8001 (.ac d)) (ab 8004 (.al 8005 .nil (ab 9002 .nil)))) (keep:=[1,6,26,27]) ao i
def VY(a:T)(b f:Nat)(g:Bytes)(d:b8->bc->T->Prop)(h:aY b (a.M) (d (.exit 0) [(1,J.aT f),(6,.str g),(26,na),(27,.V 3)] (bf a 1))) :
 ∃e c Y,bN b 89 (bu 23 0) [(1,J.aT f),(6,.str g),(26,m'),(27,.V 3)] a e c Y/\d e c Y :=
 dD c6 mixed ci (hs:= .nil) (keep:=[1,6,26,27]) ao h
abbrev iy(b a c e f:Int)(d:Bytes):J:=J.agg [.bA b,.av a,.ac c,.V e,.V f,.str d]
def VZ(j:Nat)(a d b:T)(f e g c i:Int)(h:Bytes)(k:aU)(l:aY (a.M) (a.M) (bt env cr (a.M+0) (ba [(0,(iy f e g c i h))]) (bf a 3) (Op.box 42 (Operand.tmp 0))=some (.aT j,d)/\aY (a.M) (d.M) (a6 env.D 42 ⟨j,0,0,0,6⟩ (bf d 7)=some ((iy f e g c i h))/\bk 21 [(iy f e g c i h)] (bf d 7) (.tuple [.slice none 0 0,.V 220]) b/\aY (a.M) (b.M) (aY (a.M) (b.M+12) (cc (a.M) (b.M+14) (k (.tuple [.str [],.V 220]) (T.mk (b.M+12+2) (T.aF (bf b 12))))))))) :
 bl 23 [bb f e g c i h] a k :=
 bm ci (.aG (.act 0 (.aT j) λc=>d)<|ap 1000 (bb f e g c i h)<|.aG (.act 1001 (.tuple [.slice none 0 0,.V 220]) λc=>b) .nil) l
abbrev ln(a:T):T:=(T.mk (a.M+12) (a.2))
abbrev x6:J:=J.tuple [.str [],.V 220]
abbrev Dg(a:T):T:=(T.mk (a.M+12+2) (T.aF (T.mk (a.M+12) (T.aF a))))
def V0(h:Nat)(b e a:T)(c f g d j:Int)(i:Bytes)(m:bB)(l:Nat)(k:aU)(n:aY (b.M) (b.M) (bt env cr (b.M+0) (ba [(0,(iy c f g d j i))]) (bf b 3) (Op.box 42 (Operand.tmp 0))=some (.aT h,e)/\aY (b.M) (e.M) (a6 env.D 42 ⟨h,0,0,0,6⟩ (bf e 7)=some ((iy c f g d j i))/\bk 21 [(iy c f g d j i)] (bf e 7) (.tuple [.slice (some m) l l,.V 0]) a/\aY (b.M) (a.M) (a6 env.D 40 ⟨h,0,0,0,6⟩ (ln a)=some (.bA c)/\(c=1->bt env cr (a.M+11) (ba [(24,.aJ),(16,.aJ)]) (ln a) (Op.pick (Operand.tmp 16) (Operand.const (Value.bool true)) (Operand.tmp 24))=some (J.bool true,(ln a))/\aY (b.M) (a.M+12) (cc (b.M) (a.M+14) (k (x6) (Dg a))))/\(¬c=1->a6 env.D 40 ⟨h,0,0,0,6⟩ (ln a)=some (.bA c)/\(c=2->bt env cr (a.M+11) (ba [(24,.aJ),(16,.aJ)]) (ln a) (Op.pick (Operand.tmp 16) (Operand.const (Value.bool true)) (Operand.tmp 24))=some (J.bool true,(ln a))/\aY (b.M) (a.M+12) (cc (b.M) (a.M+14) (k (x6) (Dg a))))/\(¬c=2->bt env cr (a.M+11) (ba [(24,.aK),(16,.aJ)]) (ln a) (Op.pick (Operand.tmp 16) (Operand.const (Value.bool true)) (Operand.tmp 24))=some (J.bool true,(ln a))/\aY (b.M) (a.M+12) (cc (b.M) (a.M+14) (k (x6) (Dg a))))))))) :
 bl 23 [bb c f g d j i] b k :=
 bm ci (.aG (.act 0 (.aT h) λd=>e)<|ap 1000 (bb c f g d j i)<|.aG (.act 1001 (.tuple [.slice (some m) l l,.V 0]) λd=>a)<|ap 2004 (.bA c)<|.al 2005 (ap 2011 .aK .nil)<|ap 2008 (.bA c)<|.al 2009 (ap 2011 .aK .nil)<|ap 2011 .aK .nil) n
abbrev Dh(a b:Int):J:=J.agg [.bA 2,.av a,.ac b,.V 0,.V 0,.str []]
def V1(d:Nat)(b h e c f j:T)(a i:Int)(p:bB)(l o:Nat)(g m k:Bytes)(n:aU)(q:aY (b.M) (b.M) (bt env cr (b.M+0) (ba [(0,(Dh a i))]) (bf b 3) (Op.box 42 (Operand.tmp 0))=some (.aT d,h)/\aY (b.M) (h.M) (a6 env.D 42 ⟨d,0,0,0,6⟩ (bf h 7)=some ((Dh a i))/\bk 21 [(Dh a i)] (bf h 7) (.tuple [.slice (some p) l l,.V 0]) e/\aY (b.M) (e.M) (a6 env.D 40 ⟨d,0,0,0,6⟩ (ln e)=some (.bA 2)/\a6 env.D 40 ⟨d,0,0,0,6⟩ (ln e)=some (.bA 2)/\aY (b.M) (e.M+12) (aY (b.M) (e.M+13) (bN (b.M) 89 (Code.loop (bu 23 0)) [(1,J.aT d),(6,.str []),(26,na),(27,.V 0)] (T.mk (e.M+13+2) (T.aF (T.mk (e.M+12+1) (T.aF (bf e 12))))) (.exit 0) [(1,J.aT d),(6,.str g),(26,m'),(27,.V 3)] c/\aY (b.M) (c.M) (a6 env.D 40 ⟨d,0,0,0,6⟩ (bf c 9)=some (.bA 2)/\a6 env.D 21 ⟨d,0,0,1,6⟩ (bf c 9)=some (.av a)/\(21<=a->aY (b.M) (c.M+9) (bY (g.length+(Array.toList (ByteArray.data {data:= #[102]})).length)/\a6 env.D 21 ⟨d,0,0,1,6⟩ (bf c 20)=some (.av a)/\(bd (a))/\(bd (a-21))/\(bd (a-21+1))/\bk 49 [.V (a-21+1)] (bf c 20) (.str k) j/\bY ((g++[(102:UInt8)]).length+k.length)/\cc (b.M) (j.M) (n (.tuple [.str (g++[(102:UInt8)]++k),.V 0]) j)))/\(¬21<=a->aY (b.M) (c.M+9) (a6 env.D 40 ⟨d,0,0,0,6⟩ (bf c 13)=some (.bA 2)/\aY (b.M) (c.M+13) (bk 50 [.str [101,110,116,101,114,32,116,97,98,32,98,97,99,107,115,112,97,99,101,32,101,115,99,97,112,101,32,117,112,32,100,111,119,110,32,114,105,103,104,116,32,108,101,102,116,32,104,111,109,101,32,101,110,100,32,105,110,115,101,114,116,32,100,101,108,101,116,101,32,112,97,103,101,117,112,32,112,97,103,101,100,111,119,110]] (bf c 23) (.slice (b5 o) 14 14) f/\hW (c.M+23) (bf c 23) f=true/\a6 env.D 21 ⟨d,0,0,1,6⟩ f=some (.av a)/\d<c.M+13/\(cf (a-1))/\(0<=a-1/\a-1<14)/\a6 env.D 9 ⟨o,0,0+Int.toNat (a-1),0,1⟩ f=some (J.str m)/\bY (g.length+m.length)/\cc (b.M) (f.M) (n (.tuple [.str (g++m),.V 0]) f))))))))))) :
 bl 23 [bb 2 a i 0 0 []] b n :=
 bm ci (.aG (.act 0 (.aT d) λx=>h)<|ap 1000 (bb 2 a i 0 0 [])<|.aG (.act 1001 (.tuple [.slice (some p) l l,.V 0]) λx=>e)<|ap 2004 (.bA 2)<|ap 2008 (.bA 2)<|.aG (.keep [1,6,26,27])<|.aG (.loop [(1,J.aT d),(6,.str g),(26,m'),(27,.V 3)] c (.exit 0))<|ap 11001 (.bA 2)<|ap 11005 (.av a)<|.al 11006 (ab 12001<|ap 12003 (.av a)<|ab 12004<|ab 12005<|ab 12006<|.aG (.act 12007 (.str k) λx=>j)<|ab 12008 .nil)<|ap 13001 (.bA 2)<|.aG (.act 14001 (.slice (b5 o) 14 14) λx=>f)<|.aG (.gO 14003 (.av a))<|ab 14004<|ab 14005<|ap 14006 (.str m)<|ab 14007 .nil) q
abbrev Jy(a:T):T:=(T.mk (a.M+13+4) (T.aF (T.mk (a.M+9+4) (T.aF (T.mk (a.M+9) (T.aF a))))))
def V2(d:Nat)(b g e a m i:T)(c h:Int)(o:bB)(k n:Nat)(f l:Bytes)(j:aU)(p:aY (b.M) (b.M) (bt env cr (b.M+0) (ba [(0,(eN c h))]) (bf b 3) (Op.box 42 (Operand.tmp 0))=some (.aT d,g)/\aY (b.M) (g.M) (a6 env.D 42 ⟨d,0,0,0,6⟩ (bf g 7)=some ((eN c h))/\bk 21 [(eN c h)] (bf g 7) (.tuple [.slice (some o) k k,.V 0]) e/\aY (b.M) (e.M) (a6 env.D 40 ⟨d,0,0,0,6⟩ (ln e)=some (.bA 1)/\aY (b.M) (e.M+12) (aY (b.M) (e.M+13) (bN (b.M) 89 (Code.loop (bu 23 0)) [(1,J.aT d),(6,.str []),(26,na),(27,.V 0)] (T.mk (e.M+13+2) (T.aF (T.mk (e.M+12+1) (T.aF (bf e 12))))) (.exit 0) [(1,J.aT d),(6,.str f),(26,m'),(27,.V 3)] a/\aY (b.M) (a.M) (a6 env.D 40 ⟨d,0,0,0,6⟩ (bf a 9)=some (.bA 1)/\aY (b.M) (a.M+9) (a6 env.D 40 ⟨d,0,0,0,6⟩ (bf a 13)=some (.bA 1)/\aY (b.M) (a.M+13) (a6 env.D 21 ⟨d,0,0,1,6⟩ (bf a 17)=some (.av c)/\(c=32->aY (b.M) (a.M+17) (bY (f.length+(Array.toList (ByteArray.data {data:= #[115,112,97,99,101]})).length)/\cc (b.M) (a.M+21) (j (.tuple [.str (f++[(115:UInt8),112,97,99,101]),.V 0]) (T.mk (a.M+17+4) (T.aF (Jy a))))))/\(¬c=32->aY (b.M) (a.M+17) (a6 env.D 21 ⟨d,0,0,1,6⟩ (bf a 21)=some (.av c)/\(c=43->aY (b.M) (a.M+21) (bY (f.length+(Array.toList (ByteArray.data {data:= #[112,108,117,115]})).length)/\cc (b.M) (a.M+25) (j (.tuple [.str (f++[(112:UInt8),108,117,115]),.V 0]) (T.mk (a.M+21+4) (T.aF (T.mk (a.M+17+4) (T.aF (Jy a))))))))/\(¬c=43->aY (b.M) (a.M+21) (a6 env.D 21 ⟨d,0,0,1,6⟩ (bf a 29)=some (.av c)/\bt env cr (a.M+24) (ba [(85,.av c)]) (bf a 29) (Op.buildSlice 84 1 {toList:=[(0,Operand.tmp 85)]})=some (J.slice (b5 n) 1 1,m)/\bk 51 [.slice (b5 n) 1 1] m (.str l) i/\bY (f.length+l.length)/\cc (b.M) (i.M) (j (.tuple [.str (f++l),.V 0]) i)))))))))))))) :
 bl 23 [bb 1 c h 0 0 []] b j :=
 bm ci (.aG (.act 0 (.aT d) λx=>g)<|ap 1000 (bb 1 c h 0 0 [])<|.aG (.act 1001 (.tuple [.slice (some o) k k,.V 0]) λx=>e)<|ap 2004 (.bA 1)<|.aG (.keep [1,6,26,27])<|.aG (.loop [(1,J.aT d),(6,.str f),(26,m'),(27,.V 3)] a (.exit 0))<|ap 11001 (.bA 1)<|ap 13001 (.bA 1)<|ap 15001 (.av c)<|.al 15002 (ab 16001 .nil)<|ap 17001 (.av c)<|.al 17002 (ab 18001 .nil)<|ap 19002 (.av c)<|.aG (.act 19003 (.slice (b5 n) 1 1) λx=>m)<|.aG (.act 19004 (.str l) λx=>i)<|ab 19005 .nil) p
end Go.Proofs.zz
namespace Go.Keys
open Go.Lib
def l7:Bytes:=[99,116,114,108,43]
def nb:Bytes:=[97,108,116,43]
def oI:Bytes:=[115,104,105,102,116,43]
def V3:Bytes:=[115,112,97,99,101]
def V4:Bytes:=[112,108,117,115]
def iX:List Bytes:=[[101,110,116,101,114],[116,97,98],[98,97,99,107,115,112,97,99,101],[101,115,99,97,112,101],[117,112],[100,111,119,110],[114,105,103,104,116],[108,101,102,116],[104,111,109,101],[101,110,100],[105,110,115,101,114,116],[100,101,108,101,116,101],[112,97,103,101,117,112],[112,97,103,101,100,111,119,110]]
def eO(m:Nat):Bytes:=(if m/4%2=1 then l7 else [])++((if m/2%2=1 then nb else [])++(if m%2=1 then oI else []))
def ju(k:Nat):Bytes:=if 21<=k then 102::decDigits (k-20)else iX.getD (k-1) []
def lo(c:Nat):Bytes:=if c=32 then V3 else if c=43 then V4 else put c
def hz(e:aP):Option Bytes:=if(enc e).isSome=true/\(e.kind=1\/e.kind=2)then some (eO e.cI.toNat++if e.kind=2 then ju e.code.toNat else lo e.code.toNat)else none
def uL{e:aP}(h:h7 e=true):e.x=0/\e.y=0/\e.text=[]:=by unfold h7 at h;simp only [cC,eP]at h;exact⟨h.1.1,h.1.2,h.2⟩
variable {k m:Nat}
def x7{b:Bytes}(h:h6 k m=some b):(1<=k/\k<=14)\/(21<=k/\k<=32):=by
 unfold h6 at h;split at h
 .omega
 .split at h
  .rename_i c aj;unfold rK at aj;split at aj
   .omega
   .split at aj
    .omega
    .split at aj
     .omega
     .cases aj
  .split at h
   .omega
   .split at h
    .rename_i n aw;unfold mX at aw
     repeat' split at aw
     all_goals first|omega|cases aw
    .cases h
def V5{e:aP}{b:Bytes}(aM:0<=e.cI)(h:enc e=some b)(a:e.kind=2):∃k m:Nat,e=⟨2,k,m,0,0,[]⟩/\m<=7/\((1<=k/\k<=14)\/(21<=k/\k<=32)):=by
 obtain⟨kind,code,cI,x,y,text⟩:=e;simp only at a aM;subst a;unfold enc at h;rw [ai (by show ¬(2:Int)=3;decide)]at h;split at h
 .cases h
 .rename_i hm;simp only at hm;rw [ai (by intro q;exact absurd q.1 (by show ¬(2:Int)=1;decide))]at h;split at h
  .rename_i ae;obtain⟨c,d,f⟩:=uL ae.2;simp only at c d f;subst c d f;split at h
   .rename_i aj;simp only at aj h;refine⟨code.toNat,cI.toNat,?_,A,x7 h⟩;rw [ja aj,ja aM]
   .cases h
  .rename_i ae;rw [ai (by intro q;cases q),ai (by intro q;cases q),ai (by intro q;cases q.1),ai (by intro q;cases q.1)]at h;cases h
def Jz{e:aP}{b:Bytes}(aM:0<=e.cI)(h:enc e=some b)(a:e.kind=1):∃c m:Nat,e=⟨1,c,m,0,0,[]⟩/\m<=7/\shown (c:Int)=true:=by
 obtain⟨kind,code,cI,x,y,text⟩:=e;simp only at a aM;subst a;unfold enc at h;rw [ai (by show ¬(1:Int)=3;decide)]at h;split at h
 .cases h
 .rename_i hm;simp only at hm;split at h
  .rename_i ae;obtain⟨d,f,g⟩:=uL ae.2.1;simp only at d f g;subst d f g;have hs:shown code=true:=ae.2.2;obtain⟨_,_,_,q⟩:=rN hs;refine⟨code.toNat,cI.toNat,?_,A,by rw [q];exact hs⟩;rw [q,ja aM]
  .rw [ai (by intro q;exact absurd q.1 (by show ¬(1:Int)=2;decide)),ai (by intro q;cases q),ai (by intro q;cases q),ai (by intro q;cases q.1),ai (by intro q;cases q.1)]at h;cases h
def V6{e:aP}(h:enc e=none):hz e=none:=by unfold hz;rw [h];rfl
def V7{e:aP}(Y:e.kind≠1)(ag:e.kind≠2):hz e=none:=by unfold hz;rw [ai (by rintro ⟨_,h|h⟩<;>contradiction)]
def Di{b:Bytes}(h:enc ⟨2,k,m,0,0,[]⟩=some b):hz ⟨2,k,m,0,0,[]⟩=some (eO m++ju k):=by unfold hz;rw [az ⟨by rw [h];rfl,.inr rfl⟩];rfl
def x8{c:Nat}{b:Bytes}(h:enc ⟨1,c,m,0,0,[]⟩=some b):hz ⟨1,c,m,0,0,[]⟩=some (eO m++lo c):=by unfold hz;rw [az ⟨by rw [h];rfl,.inl rfl⟩];rfl
def Dj(k:Nat):Bytes:=if 21<=k then 102::(if k<30 then [u8 (28+k)]else [49,u8 (18+k)])else iX.getD (k-1) []
def V8(h:k<=32):ju k=Dj k:=by
 unfold ju Dj;split
 .congr 1
  by_cases Y:k<30
  .rw [az Y,decDigits,dif_pos A];unfold u8;congr 2;omega
  .rw [ai Y,decDigits,dif_neg A,decDigits,dif_pos A];have aQ:(k-20)/10=1:= A;have aZ:(k-20)%10=k-30:= A;rw [aQ,aZ];unfold u8;show [UInt8.ofNat (48+1)]++[UInt8.ofNat (48+(k-30))]=_;rw [show 48+(k-30)=18+k by omega];rfl
 .rfl
end Go.Keys
namespace Go.Proofs
open Go.Shelf
def Tryz.V9:Go.Shelf.Ren:=⟨fun|157=>50|229=>76|199=>77|261=>97|311=>123|312=>124|n=>n,fun|9=>9|31=>77|3=>3|5=>5|4=>4|119=>113|0=>0|40=>69|152=>129|21=>21|154=>131|51=>132|141=>134|196=>162|193=>159|198=>165|49=>163|194=>160|201=>168|226=>183|46=>108|227=>184|n=>n,fun|0=>0|6=>1|n=>n⟩
def Tryz.V':Go.Proofs.Lays.n157 Tryz.prog Tryz.V9:= {
 mixed:= ao
 f157:=Tryz.func50.trans (dm some ao)
 f199:=Tryz.func77.trans (dm some ao)
 f229:=Tryz.func76.trans (dm some ao)
 f261:=Tryz.func97.trans (dm some ao)
 f311:=Tryz.func123.trans (dm some ao)
 f312:=Tryz.func124.trans (dm some ao)
 t0:=Tryz.underlying0
 a0:=Tryz.isAgg0
 z0:=Tryz.sizeOf0
 v0:=Tryz.zeroValue0
 t3:=Tryz.underlying3
 a3:=Tryz.isAgg3
 z3:=Tryz.sizeOf3
 v3:=Tryz.zeroValue3
 t4:=Tryz.underlying4
 a4:=Tryz.isAgg4
 z4:=Tryz.sizeOf4
 v4:=Tryz.zeroValue4
 t5:=Tryz.underlying5
 a5:=Tryz.isAgg5
 z5:=Tryz.sizeOf5
 v5:=Tryz.zeroValue5
 t9:=Tryz.underlying9
 a9:=Tryz.isAgg9
 z9:=Tryz.sizeOf9
 v9:=Tryz.zeroValue9
 t21:=Tryz.underlying21
 a21:=Tryz.isAgg21
 z21:=Tryz.sizeOf21
 v21:=Tryz.zeroValue21
 t31:=Tryz.underlying77
 a31:=Tryz.isAgg77
 z31:=Tryz.sizeOf77
 v31:=Tryz.zeroValue77
 t40:=Tryz.underlying69
 a40:=Tryz.isAgg69
 z40:=Tryz.sizeOf69
 v40:=Tryz.zeroValue69
 t46:=Tryz.underlying108
 a46:=Tryz.isAgg108
 z46:=Tryz.sizeOf108
 v46:=Tryz.zeroValue108
 t49:=Tryz.underlying163
 a49:=Tryz.isAgg163
 z49:=Tryz.sizeOf163
 v49:=Tryz.zeroValue163
 t51:=Tryz.underlying132
 a51:=Tryz.isAgg132
 z51:=Tryz.sizeOf132
 v51:=Tryz.zeroValue132
 t119:=Tryz.underlying113
 a119:=Tryz.isAgg113
 z119:=Tryz.sizeOf113
 t141:=Tryz.underlying134
 a141:=Tryz.isAgg134
 z141:=Tryz.sizeOf134
 v141:=Tryz.zeroValue134
 t152:=Tryz.underlying129
 a152:=Tryz.isAgg129
 z152:=Tryz.sizeOf129
 v152:=Tryz.zeroValue129
 t154:=Tryz.underlying131
 a154:=Tryz.isAgg131
 z154:=Tryz.sizeOf131
 v154:=Tryz.zeroValue131
 t193:=Tryz.underlying159
 a193:=Tryz.isAgg159
 z193:=Tryz.sizeOf159
 v193:=Tryz.zeroValue159
 t194:=Tryz.underlying160
 a194:=Tryz.isAgg160
 z194:=Tryz.sizeOf160
 v194:=Tryz.zeroValue160
 t196:=Tryz.underlying162
 a196:=Tryz.isAgg162
 z196:=Tryz.sizeOf162
 v196:=Tryz.zeroValue162
 t198:=Tryz.underlying165
 a198:=Tryz.isAgg165
 z198:=Tryz.sizeOf165
 v198:=Tryz.zeroValue165
 t201:=Tryz.underlying168
 a201:=Tryz.isAgg168
 z201:=Tryz.sizeOf168
 v201:=Tryz.zeroValue168
 t226:=Tryz.underlying183
 a226:=Tryz.isAgg183
 z226:=Tryz.sizeOf183
 v226:=Tryz.zeroValue183
 t227:=Tryz.underlying184
 a227:=Tryz.isAgg184
 z227:=Tryz.sizeOf184
 v227:=Tryz.zeroValue184
 g0:= ao
 g6:=by kernel_rfl}
end Go.Proofs
namespace Go.Keys
def x9:Bytes:=[101,110,116,101,114,32,116,97,98,32,98,97,99,107,115,112,97,99,101,32,101,115,99,97,112,101,32,117,112,32,100,111,119,110,32,114,105,103,104,116,32,108,101,102,116,32,104,111,109,101,32,101,110,100,32,105,110,115,101,114,116,32,100,101,108,101,116,101,32,112,97,103,101,117,112,32,112,97,103,101,100,111,119,110]
def oJ:List Bytes:=[[101,110,116,101,114],[116,97,98],[98,97,99,107,115,112,97,99,101],[101,115,99,97,112,101],[117,112],[100,111,119,110],[114,105,103,104,116],[108,101,102,116],[104,111,109,101],[101,110,100],[105,110,115,101,114,116],[100,101,108,101,116,101],[112,97,103,101,117,112],[112,97,103,101,100,111,119,110]]
end Go.Keys
namespace Go.Proofs.zz
open Go.br Go.Keys Go.RowKit
def Wa:Lib.fields x9=oJ:=by decide+kernel
def JA(φ:Map):∀l:List Bytes,bo φ (flat (l.map J.str)) (l.map λl=>Value.string ⟨l.toArray⟩)
 |[]=>by simp [flat,bo]
 |a::r=>by have:=JA φ r;simp only [ei,flat,kP,J.cells,hB,eQ,bo];exact⟨_,_,rfl,by simp only [aA];exact⟨_,rfl,rfl⟩,this⟩
def p':aa:=aa.an (oJ.map J.str) 1 true
def Wb(H:T):be 50 [.str x9] H (.aB H.M 0 0 14 14) ((⟨H.M+1,H.aF⟩:T).set H.M p'):=by
 intro aR aV r eh φ w m f c d;obtain⟨l⟩:=m;simp only [bo]at d;obtain⟨x,t,rfl,a,rfl⟩:=d;simp only [aA]at a;obtain⟨u,rfl,hu⟩:=a;have o:=eh.keep c (λ_ h=>h);have g:dS aR w.heap.size:=r.le c.size
 have hid:∀v,φ H.M v=none:=by
  intro v;cases z:φ H.M v with
  |none=>rfl
  |some p=>have:=(f.cN _ _ _ z).1;omega
 refine⟨⟨Tryz.f50,_,Tryz.func50,rfl⟩,?_⟩
 have k:=Any.strings_Fields Tryz.V' ao ao u w (by rw [show u.size=u.data.toList.length from fy.symm,hu];decide) (by
  rw [hu];intro j b s;have hm:=gx s
  exact o2 (ea.1 (show x9.all (λb=>decide (b.toNat<128))=true by decide+kernel) b hm)) o.z6
 rw [hu,Wa]at k;refine Calls.mono k λe a7 ⟨he,hw⟩=> ?_
 subst he hw;have y:(oJ.map λl=>Value.string ⟨l.toArray⟩).length=14:=rfl;refine⟨_,φ.add H.M 0 ⟨w.heap.size,0,0,1,14,true,false⟩,rfl,?_,aA.hF (nid:=H.M) (b:=w.heap.size) (es:=1) (len:=14) (cap:=14) (tot:=14) (ex:=true) (cap':=14) aC aC aC (λ_=>rfl),?_,c.alloc g _,by show H.M<=H.M+1;omega⟩
 .refine⟨φ.nS _ (hid 0),λi ah aw v=> ?_,λi v p ae B=> ?_⟩
  .unfold Map.add;rw [ai A];exact aw v
  .unfold Map.add at ae;split at ae
   .simp at ae;subst ae;cases B
   .exact ae
 .have C:bo (φ) (flat (oJ.map J.str)) ((oJ.map λl=>Value.string ⟨l.toArray⟩).toArray.toList.take ((oJ.map J.str).length*1)):=by rw [nE aC];exact JA φ oJ
  refine(f.M (n:=H.M+1) A).an hid (by show H.M<H.M+1;omega) g Nat.one_pos (by intro e he;obtain⟨q,_,rfl⟩:=dV.1 he;rfl) C (by simp [y,oJ]) aC (by
   intro x a;have a:=sl a;simp only [dV]at a;obtain⟨q,_,rfl⟩:=a
   rfl) nofun
end Go.Proofs.zz
namespace Go.Proofs.zz
open Go.br Go.Keys Go.Lib
def rV(n:Nat):Bytes:=if n<10 then [u8 (48+n)]else [49,u8 (38+n)]
def Wc:∀n:Fin 12,(match hY Tryz.prog env 60 49 [.V ((n.val+1:Nat):Int)] ⟨0,.nil⟩with|some (.str s,_)=>decide (s=rV (n.val+1))|_=>false)=true:=by decide+kernel
variable {i k m n:Nat}
def Wd(Y:21<=k)(ag:k<=32):102::rV (k-20)=ju k:=by
 rw [V8 ag];unfold Dj rV;rw [az Y];by_cases h:k<30
 .rw [az h,az A,show 48+(k-20)=28+k by omega]
 .rw [ai h,ai A,show 38+(k-20)=18+k by omega]
def We(Y:1<=n)(ag:n<=12)(H:T):be 49 [.V (n:Nat)] H (.str (rV n)) H:=by
 have h:=Wc ⟨n-1,A⟩;rw [show n-1+1=n by omega]at h;split at h
 .rename_i s Z a;rw [mF]at a;have hs:=o2 h;subst hs;exact bj.bU ⟨_,_,bj.lG c6 mixed a,rfl⟩ rfl rfl H
 .cases h
def Wf:∀n:Fin 8,a' .u8 (n.val:Int) 4=0↔ ¬n.val/4%2=1:=by decide+kernel
def Wg:∀n:Fin 8,a' .u8 (n.val:Int) 2=0↔ ¬n.val/2%2=1:=by decide+kernel
def Wh:∀n:Fin 8,a' .u8 (n.val:Int) 1=0↔ ¬n.val%2=1:=by decide+kernel
def l8{h:T}{x:Nat}{k c m y z:Int}{t:Bytes}(e:h.get x=some (dl (bb k c m y z t))):a6 (bi.D env) 5 ⟨x,0,0,2,6⟩ h=some (.ac m):=by have a:(bi.D env 5).map (λd=>d.kind.isAgg)=some false:= ao;obtain⟨x,Y,ag⟩:=cb.1 a;unfold a6;rw [Y,e];simp [aa.elem?,aa.b6,eK,ag,aa.an]
def nc{h:T}{x:Nat}{k c m y z:Int}{t:Bytes}(e:h.get x=some (dl (bb k c m y z t))):a6 (bi.D env) 40 ⟨x,0,0,0,6⟩ h=some (.bA k):=by have a:(bi.D env 40).map (λd=>d.kind.isAgg)=some false:= ao;obtain⟨x,Y,ag⟩:=cb.1 a;unfold a6;rw [Y,e];simp [aa.elem?,aa.b6,eK,ag,aa.an]
def fH{h:T}{x:Nat}{k c m y z:Int}{t:Bytes}(e:h.get x=some (dl (bb k c m y z t))):a6 (bi.D env) 21 ⟨x,0,0,1,6⟩ h=some (.av c):=by have a:(bi.D env 21).map (λd=>d.kind.isAgg)=some false:= ao;obtain⟨x,Y,ag⟩:=cb.1 a;unfold a6;rw [Y,e];simp [aa.elem?,aa.b6,eK,ag,aa.an]
abbrev h8(p:Nat)(s:Bytes)(i:Int):bc:=[(1,.ptr (some ⟨p,0,0,0,6⟩)),(6,.str s),(26,m'),(27,.int .i64 i)]
def JB{H:T}{B p:Nat}{k c y z:Int}{t:Bytes}(l:B<=H.M)(ae:p<H.M)(hm:m<=7)(ab:H.get p=some (dl (bb k c m y z t))) :
 ∃q,bN B 89 (.loop (bu 23 0)) (h8 p [] 0) H (.exit 0) (h8 p (eO m) 3) ⟨H.M+q,H.aF⟩:=by
 have d:=Wf ⟨m,A⟩;have aZ:=Wg ⟨m,A⟩;have aQ:=Wh ⟨m,A⟩;simp only at d aZ aQ;have eo:∀j,a6 (bi.D env) 5 ⟨p,0,0,2,6⟩ ⟨H.M+j,H.aF⟩=some (.ac m):=λj=>l8 (h:=⟨H.M+j,H.aF⟩) ab
 have jL:∃q,bN B 89 (bu 23 0) (h8 p [] 0) H .normal (h8 p (if m/4%2=1 then l7 else []) 1) ⟨H.M+q,H.aF⟩:=by
  by_cases h:m/4%2=1
  .rw [az h]
   obtain⟨e,a,Y,b,rfl,rfl,rfl⟩:=Jv H B p [] m (λe a Y=>e=.normal/\a=h8 p l7 1/\Y=⟨H.M+17,H.aF⟩)
    (aW l (aW A (aW A ⟨eo 11,A,trivial,λq=>absurd h (d.1 q),λ_=>aW A ⟨by show 0+5+1<=2^62;omega,aW A ⟨rfl,rfl,rfl⟩⟩⟩)))
   exact⟨17,b⟩
  .rw [ai h]
   obtain⟨e,a,Y,b,rfl,rfl,rfl⟩:=Jv H B p [] m (λe a Y=>e=.normal/\a=h8 p [] 1/\Y=⟨H.M+13,H.aF⟩)
    (aW l (aW A (aW A ⟨eo 11,A,trivial,λ_=>aW A ⟨rfl,rfl,rfl⟩,λq=>absurd (d.2 h) q⟩)))
   exact⟨13,b⟩
 have s1:∀(j:Nat)(s:Bytes),s.length<=20-> ∃q,bN B 89 (bu 23 0) (h8 p s 1) ⟨H.M+j,H.aF⟩ .normal (h8 p (s++if m/2%2=1 then nb else []) 2) ⟨H.M+j+q,H.aF⟩:=by
  intro j s hs;by_cases h:m/2%2=1
  .rw [az h]
   obtain⟨e,a,Y,b,rfl,rfl,rfl⟩:=Jw ⟨H.M+j,H.aF⟩ B p s m (λe a Y=>e=.normal/\a=h8 p (s++nb) 2/\Y=⟨H.M+j+17,H.aF⟩)
    (aW (by show B<=H.M+j;omega) (aW (by show B<=H.M+j+1;omega) (aW (by show B<=H.M+j+5;omega) ⟨eo (j+11),by show p<H.M+j+5;omega,trivial,λq=>absurd h (aZ.1 q),λ_=>aW (by show B<=H.M+j+11;omega) ⟨by show s.length+4+1<=2^62;omega,aW (by show B<=H.M+j+15;omega) ⟨rfl,rfl,rfl⟩⟩⟩)))
   exact⟨17,b⟩
  .rw [ai h,gy]
   obtain⟨e,a,Y,b,rfl,rfl,rfl⟩:=Jw ⟨H.M+j,H.aF⟩ B p s m (λe a Y=>e=.normal/\a=h8 p s 2/\Y=⟨H.M+j+13,H.aF⟩)
    (aW (by show B<=H.M+j;omega) (aW (by show B<=H.M+j+1;omega) (aW (by show B<=H.M+j+5;omega) ⟨eo (j+11),by show p<H.M+j+5;omega,trivial,λ_=>aW (by show B<=H.M+j+11;omega) ⟨rfl,rfl,rfl⟩,λq=>absurd (aZ.2 h) q⟩)))
   exact⟨13,b⟩
 have s2:∀(j:Nat)(s:Bytes),s.length<=20-> ∃q,bN B 89 (bu 23 0) (h8 p s 2) ⟨H.M+j,H.aF⟩ .normal (h8 p (s++if m%2=1 then oI else []) 3) ⟨H.M+j+q,H.aF⟩:=by
  intro j s hs;by_cases h:m%2=1
  .rw [az h]
   obtain⟨e,a,Y,b,rfl,rfl,rfl⟩:=Jx ⟨H.M+j,H.aF⟩ B p s m (λe a Y=>e=.normal/\a=h8 p (s++oI) 3/\Y=⟨H.M+j+17,H.aF⟩)
    (aW (by show B<=H.M+j;omega) (aW (by show B<=H.M+j+1;omega) (aW (by show B<=H.M+j+5;omega) ⟨eo (j+11),by show p<H.M+j+5;omega,trivial,λq=>absurd h (aQ.1 q),λ_=>aW (by show B<=H.M+j+11;omega) ⟨by show s.length+6+1<=2^62;omega,aW (by show B<=H.M+j+15;omega) ⟨rfl,rfl,rfl⟩⟩⟩)))
   exact⟨17,b⟩
  .rw [ai h,gy]
   obtain⟨e,a,Y,b,rfl,rfl,rfl⟩:=Jx ⟨H.M+j,H.aF⟩ B p s m (λe a Y=>e=.normal/\a=h8 p s 3/\Y=⟨H.M+j+13,H.aF⟩)
    (aW (by show B<=H.M+j;omega) (aW (by show B<=H.M+j+1;omega) (aW (by show B<=H.M+j+5;omega) ⟨eo (j+11),by show p<H.M+j+5;omega,trivial,λ_=>aW (by show B<=H.M+j+11;omega) ⟨rfl,rfl,rfl⟩,λq=>absurd (aQ.2 h) q⟩)))
   exact⟨13,b⟩
 have r:∀(j:Nat)(s:Bytes),bN B 89 (bu 23 0) (h8 p s 3) ⟨H.M+j,H.aF⟩ (.exit 0) (h8 p s 3) ⟨H.M+j+1,H.aF⟩:=by intro j s;obtain⟨e,a,Y,b,rfl,rfl,rfl⟩:=VY ⟨H.M+j,H.aF⟩ B p s (λe a Y=>e=.exit 0/\a=h8 p s 3/\Y=⟨H.M+j+1,H.aF⟩) (aW (by show B<=H.M+j;omega) ⟨rfl,rfl,rfl⟩);exact b
 obtain⟨f,o⟩:=jL;obtain⟨cw,n⟩:=s1 f (if m/4%2=1 then l7 else []) (by split<;>decide);obtain⟨cy,g⟩:=s2 (f+cw) ((if m/4%2=1 then l7 else [])++if m/2%2=1 then nb else []) (by split<;>split<;>decide);have i:=r (f+cw+cy) (((if m/4%2=1 then l7 else [])++if m/2%2=1 then nb else [])++if m%2=1 then oI else []);have em:((if m/4%2=1 then l7 else [])++if m/2%2=1 then nb else [])++(if m%2=1 then oI else [])=eO m:=jb _ _ _;rw [em]at g i;simp only [qt]at n g i;exact⟨_,cO.dn (b2.step o (b2.step n (b2.step g (b2.last au i))))⟩
def h9(e:aP):J:=match hz e with|some s=> .tuple [.str s,.int .i64 0]|none=> .tuple [.str [],.int .i64 220]
def JC{F:bc}{v:aP}{nid:Nat}{H:T}(h:ba F (.tmp 0)=bp v):bt env cr nid (ba F) H (Op.box 42 (Operand.tmp 0))=some (.ptr (some ⟨nid,0,0,0,6⟩),H.set nid (dl (bp v))):=by
 have b:∀(K:T)(y:Nat)(k c m x z:Int)(t:Bytes),bt env cr y (ba [(0,bb k c m x z t)]) K (Op.box 42 (Operand.tmp 0))=some (.ptr (some ⟨y,0,0,0,6⟩),K.set y (dl (bb k c m x z t))):=by intro K y k c m x z t;kernel_rfl
 have aj:bt env cr nid (ba F) H (Op.box 42 (Operand.tmp 0))=bt env cr nid (ba [(0,bp v)]) H (Op.box 42 (Operand.tmp 0)):=zj (by
  intro x a;simp only [Op.operands,dR,ia,hh]at a;subst a
  exact h)
 rw [aj];exact b _ _ _ _ _ _ _ _
def Wi(h:(1<=k/\k<=14)\/(21<=k/\k<=32)):(-2147483648<=(k:Int)-1/\(k:Int)-1<=2147483647)/\(¬21<=(k:Int)->0<=(k:Int)-1/\(k:Int)-1<14):= A
def JD(ah:i<14):p'.elem? 0 i=some (.str (iX.getD i [])):=by have:i=0\/i=1\/i=2\/i=3\/i=4\/i=5\/i=6\/i=7\/i=8\/i=9\/i=10\/i=11\/i=12\/i=13:= A;rcases this with rfl|rfl|rfl|rfl|rfl|rfl|rfl|rfl|rfl|rfl|rfl|rfl|rfl|rfl<;>rfl
def Wj{e:aP}(aM:0<=e.cI)(a3:ix e)(H:T):∃v H',be 23 [bp e] H v H'/\v=h9 e:=by
 have t:∀{a b:Nat}{p:Prop},a<=b->p->_root_.cond (Nat.ble a b) p False:=λh k=>by rw [Nat.ble_eq.mpr h];exact k
 obtain⟨f,O⟩:∃K,K=(⟨H.M+3,H.aF⟩:T).set H.M (dl (bp e)):=⟨_,rfl⟩
 have dg:f.M=H.M+3:=by rw [O];rfl
 have S:f.get H.M=some (dl (bp e)):=by rw [O];exact T.eD _ _ _
 have E:∀{F:bc},ba F (.tmp 0)=bp e->bt env cr (H.M+0) (ba F) ⟨H.M+3,H.aF⟩ (Op.box 42 (Operand.tmp 0))=some (.ptr (some ⟨H.M,0,0,0,6⟩),f):=λh=>by rw [O];exact JC h
 obtain⟨w,c,H1,G,U,ct,c0⟩:=VW ⟨f.M+7,f.aF⟩ a3;have U:f.M+7<=H1.M:=U;have I:H1.get H.M=some (dl (bp e)):=(ct _ (by show H.M<f.M+7;omega)).trans S;have N:a6 (bi.D env) 42 ⟨H.M,0,0,0,6⟩ ⟨f.M+7,f.aF⟩=some (bp e):=Jo (h:=⟨f.M+7,f.aF⟩) S;have g1:∀j,(⟨H1.M+j,H1.aF⟩:T).get H.M=some (dl (bp e)):=λj=>I
 rcases c0 with ⟨bs,j,o,rfl,am,c5⟩|⟨o,rfl,rfl⟩
 .obtain ⟨b,rfl,_⟩:=id am.ex;by_cases L:e.kind=1
  ·
    obtain⟨r,m,rfl,hm,c2⟩:=Jz aM o L;have hs:Keys.Scalar r:=by have:=(rN c2).1;simpa using this
    obtain⟨q,Q⟩:=JB (B:=H.M) (H:=⟨H1.M+15,H1.aF⟩) (p:=H.M) (by show H.M<=H1.M+15;omega) (by show H.M<H1.M+15;omega) hm (g1 15)
    have co:(eO m).length<=15:=by unfold eO l7 nb oI;simp only [dt];split<;>split<;>split<;>simp
    have g2:∀j,(⟨H1.M+15+q+j,H1.aF⟩:T).get H.M=some (dl (bp ⟨1,r,m,0,0,[]⟩)):=λj=>I
    obtain⟨g,l⟩:∃K,K=(⟨H1.M+15+q+29,H1.aF⟩:T).set (H1.M+15+q+24) (iv r):=⟨_,rfl⟩
    have a5:∀{F:bc},ba F (.tmp 85)=.av (r:Nat)->bt env cr (H1.M+15+q+24) (ba F) ⟨H1.M+15+q+29,H1.aF⟩ (Op.buildSlice 84 1 {toList:=[(0,Operand.tmp 85)]})=some (J.aB (H1.M+15+q+24) 0 0 1 1,g):=by
     intro F a2;have a4:∀(K:T)(y:Nat)(z:Int),jE (bi.D env) 84 1 [(0,.av z)] y K=some (.aB y 0 0 1 1,K.set y (aa.an [.av z] 1 true)):=by intro K y z;kernel_rfl
     show jE (bi.D env) 84 1 [(0,ba F (.tmp 85))] _ _=_;rw [a2,l];exact a4 _ _ _
    have c3:=Jd (H:=g) (q:=H1.M+15+q+24) hs (by rw [l];exact T.eD _ _ _) (by rw [l];show H1.M+15+q+24<H1.M+15+q+29;omega);have cs:g.M=H1.M+15+q+29:=by rw [l];rfl
    have d0:(put r).length<=4:=by
     rw [put_eq hs]
     repeat' split
     all_goals simp
    obtain ⟨v,H',C,rfl⟩:=V2 H.M H f H1 ⟨H1.M+15+q,H1.aF⟩ g g r m ⟨j,b.ad,0,0,1⟩ bs.length (H1.M+15+q+24) (eO m) (put r) (λv _=>v=h9 ⟨1,r,m,0,0,[]⟩)
     (aW (Nat.le_refl _) ⟨E rfl,aW A ⟨N,⟨G⟩,aW A ⟨nc (g1 12),aW A (aW A ⟨Q,aW (by show H.M<=H1.M+15+q;omega) ⟨nc (g2 9),aW (by show H.M<=H1.M+15+q+9;omega) ⟨nc (g2 13),aW (by show H.M<=H1.M+15+q+13;omega) ⟨fH (g2 17),
      λW=>aW (by show H.M<=H1.M+15+q+17;omega) ⟨by show(eO m).length+5+1<=2^62;omega,t (by show H.M<=H1.M+15+q+21;omega) (by unfold h9;rw [x8 o];unfold lo;rw [az A];rfl)⟩,
      λW=>aW (by show H.M<=H1.M+15+q+17;omega) ⟨fH (g2 21),
       λX=>aW (by show H.M<=H1.M+15+q+21;omega) ⟨by show(eO m).length+4+1<=2^62;omega,t (by show H.M<=H1.M+15+q+25;omega) (by unfold h9;rw [x8 o];unfold lo;rw [ai A,az A];rfl)⟩,
       λX=>aW (by show H.M<=H1.M+15+q+21;omega) ⟨fH (g2 29),a5 rfl,⟨c3⟩,by show(eO m).length+(put r).length+1<=2^62;omega,t A (by unfold h9;rw [x8 o];unfold lo;rw [ai A,ai A])⟩⟩⟩⟩⟩⟩)⟩⟩⟩)
    exact⟨_,H',C,rfl⟩
  .by_cases R:e.kind=2
   ·
     obtain⟨k,m,rfl,hm,ce⟩:=V5 aM o R;obtain⟨q,Q⟩:=JB (B:=H.M) (H:=⟨H1.M+15,H1.aF⟩) (p:=H.M) (by show H.M<=H1.M+15;omega) (by show H.M<H1.M+15;omega) hm (g1 15)
     have co:(eO m).length<=15:=by unfold eO l7 nb oI;simp only [dt];split<;>split<;>split<;>simp
     have g2:∀j,(⟨H1.M+15+q+j,H1.aF⟩:T).get H.M=some (dl (bp ⟨2,k,m,0,0,[]⟩)):=λj=>I
     have P:=Wb ⟨H1.M+15+q+23,H1.aF⟩;obtain⟨g,l⟩:∃K,K=(⟨H1.M+15+q+23+1,H1.aF⟩:T).set (H1.M+15+q+23) p':=⟨_,rfl⟩
     have P:be 50 [.str x9] ⟨H1.M+15+q+23,H1.aF⟩ (.aB (H1.M+15+q+23) 0 0 14 14) g:=by rw [l];exact P
     have bv:g.get H.M=some (dl (bp ⟨2,k,m,0,0,[]⟩)):=by rw [l,T.dN _ _ A];exact I
     have cs:g.M=H1.M+15+q+24:=by rw [l];rfl
     have c4:∀i,i<14->a6 (bi.D env) 9 ⟨H1.M+15+q+23,0,0+i,0,1⟩ g=some (.str (iX.getD i [])):=by
      intro i ah;have a0:(bi.D env 9).map (λd=>d.kind.isAgg)=some false:= ao;obtain⟨x,Y,ag⟩:=cb.1 a0;have ab:g.get (H1.M+15+q+23)=some p':=by rw [l];exact T.eD _ _ _
      have a9:p'.elem? 0 (0+i)=some (.str (iX.getD i [])):=by rw [gw];exact JD ah
      unfold a6;rw [Y,ab];simp only [a9,eK,ag];simp
     have bn:21<=k-> ∃u,be 49 [.V ((k:Int)-21+1)] ⟨H1.M+15+q+20,H1.aF⟩ (.str u) ⟨H1.M+15+q+20,H1.aF⟩/\102::u=ju k/\u.length<=2:=by
      intro s;refine⟨rV (k-20),?_,Wd s A,by unfold rV;split<;>simp⟩;have:=We (n:=k-20) A A ⟨H1.M+15+q+20,H1.aF⟩
      rwa [show((k-20:Nat):Int)=(k:Int)-21+1 by omega]at this
     have c9:(iX.getD (k-1) []).length<=9:=by have:∀i:Fin 40,(iX.getD i.val []).length<=9:= aC;exact this ⟨k-1,A⟩
     obtain⟨u,hu⟩:∃u,21<=k->be 49 [.V ((k:Int)-21+1)] ⟨H1.M+15+q+20,H1.aF⟩ (.str u) ⟨H1.M+15+q+20,H1.aF⟩/\102::u=ju k/\u.length<=2:=by
      by_cases s:21<=k
      .obtain⟨u,hu⟩:=bn s;exact⟨u,λ_=>hu⟩
      .exact⟨[],λh=>absurd h s⟩
     obtain⟨aN,bx⟩:=Wi ce
     obtain ⟨v,H',C,rfl⟩:=V1 H.M H f H1 ⟨H1.M+15+q,H1.aF⟩ g ⟨H1.M+15+q+20,H1.aF⟩ k m ⟨j,b.ad,0,0,1⟩ bs.length (H1.M+15+q+23) (eO m) (iX.getD (k-1) []) u (λv _=>v=h9 ⟨2,k,m,0,0,[]⟩)
      (aW (Nat.le_refl _) ⟨E rfl,aW A ⟨N,⟨G⟩,aW A ⟨nc (g1 12),nc (g1 12),aW A (aW A ⟨Q,aW (by show H.M<=H1.M+15+q;omega) ⟨nc (g2 9),fH (g2 9),
       λs=>aW (by show H.M<=H1.M+15+q+9;omega) ⟨by show(eO m).length+1+1<=2^62;omega,fH (g2 20),A,A,A,⟨(hu A).1⟩,by
        have:=(hu A).2.2;show(eO m++[102]).length+u.length+1<=2^62
        rw [dt];show(eO m).length+1+u.length+1<=2^62;omega,t (by show H.M<=H1.M+15+q+20;omega) (by
        unfold h9;rw [Di o,<- (hu A).2.1,jb];rfl)⟩,
       λs=>aW (by show H.M<=H1.M+15+q+9;omega) ⟨nc (g2 13),aW (by show H.M<=H1.M+15+q+13;omega) ⟨⟨P⟩,vG (λi ah=>by
           have ah:i<H1.M+15+q+23:=ah
           rw [l,T.dN _ _ A];rfl),fH bv,by show H.M<H1.M+15+q+13;omega,aN,bx s,by
        have:=c4 (k-1) A
        rwa [show Int.toNat ((k:Int)-1)=k-1 by omega],by show(eO m).length+(iX.getD (k-1) []).length+1<=2^62;omega,t A (by
        unfold h9;rw [Di o];unfold ju;rw [ai A])⟩⟩⟩⟩)⟩⟩⟩)
     exact⟨_,H',C,rfl⟩
   .have d1:¬e.kind=1:=L
    obtain⟨v,H',C,rfl⟩:=V0 H.M H f H1 e.kind e.code e.cI e.x e.y e.text ⟨j,b.ad,0,0,1⟩ bs.length (λv _=>v=h9 e)
     (aW (Nat.le_refl _) ⟨E rfl,aW A ⟨N,⟨G⟩,aW A ⟨nc (g1 12),λq=>absurd q L,λ_=>⟨nc (g1 12),λq=>absurd q R,λ_=>⟨rfl,aW A (t A (by unfold h9;rw [V7 L R]))⟩⟩⟩⟩⟩)
    exact⟨_,H',C,rfl⟩
 .obtain⟨v,H',C,rfl⟩:=VZ H.M H f H1 e.kind e.code e.cI e.x e.y e.text (λv _=>v=h9 e)
   (aW (Nat.le_refl _) ⟨E rfl,aW A ⟨N,⟨G⟩,aW A (aW A (t A (by unfold h9;rw [V6 o])))⟩⟩)
  exact⟨_,H',C,rfl⟩
def Wk(e:aP):(h9 e).jl=true:=by unfold h9;split<;>rfl
def Wl{e:aP}(aM:0<=e.cI)(a:ix e)(H:T):be 23 [bp e] H (h9 e) H:=by obtain⟨v,H',b,rfl⟩:=Wj aM a ⟨0,.nil⟩;exact bj.bU ⟨_,_,b,rfl⟩ rfl (Wk e) H
def Wm{e:aP}(aM:0<=e.cI)(H:T):be 23 [bp e] H (h9 e) H:=Wl aM (VV aM) H
end Go.Proofs.zz
namespace Go.Proofs
open Go.Shelf
end Go.Proofs
namespace Go.Proofs.zz
open Go.br Go.RowKit
end Go.Proofs.zz
namespace Go.Proofs.zz
open Go.br Go.Keys
open Go.Lib
end Go.Proofs.zz
namespace Go.Proofs.zz
open Go.br Go.Keys
open Go.Lib
def uM(k c m:Int)(L:List Nat):∀e∈(dl (bb k c m 0 0 [])).bg,bR (Go.br.b3 L) e:=by
 intro e he;obtain rfl:e=bb k c m 0 0 []:=by simpa [aa.an]using he
 exact(b0.of rfl).dj _
end Go.Proofs.zz
namespace Go.Proofs.zz
open Go.br Go.Keys
def Wn(a:Int)(b:aU)(c:(0<=a->(a<=1114111->(a<55296->b .aK (af 16 []))/\(¬a<55296->(57343<a->b .aK (af 16 []))/\(¬57343<a->b .aJ (af 16 []))))/\(¬a<=1114111->b .aJ (af 16 [])))/\(¬0<=a->b .aJ (af 16 []))) :
 bl 35 [.av a] bG b :=
 bm bL (.al 1001 (.al 1004 (.al 1008 .nil (.al 1011 .nil .nil)) .nil) .nil) c
def Wo(a:Int)(b:aU)(c:bk 35 [.av a] (af 4 []) .aK (af 4 [])/\(bd (a))/\(a<128->(0<=a/\a<=255)/\b ((w1 a)) (af 14 [(11,aa.an [.ac a] 1 true)]))/\(¬a<128->(a<2048->((da 64)/\dP .i64 (a.tdiv 64))/\(bd (192+a.tdiv 64))/\(0<=192+a.tdiv 64/\192+a.tdiv 64<=255)/\(da 64)/\(bd (128+a.tmod 64))/\(0<=128+a.tmod 64/\128+a.tmod 64<=255)/\b (.str [UInt8.ofNat ((192+a.tdiv 64).toNat),UInt8.ofNat ((128+a.tmod 64).toNat)]) (af 22 [(19,aa.an [.ac (192+a.tdiv 64),.ac (128+a.tmod 64)] 1 true)]))/\(¬a<2048->(a<65536->((da 4096)/\dP .i64 (a.tdiv 4096))/\(bd (224+a.tdiv 4096))/\(0<=224+a.tdiv 4096/\224+a.tdiv 4096<=255)/\((da 64)/\dP .i64 (a.tdiv 64))/\(da 64)/\(bd (128+(a.tdiv 64).tmod 64))/\(0<=128+(a.tdiv 64).tmod 64/\128+(a.tdiv 64).tmod 64<=255)/\(da 64)/\(bd (128+a.tmod 64))/\(0<=128+a.tmod 64/\128+a.tmod 64<=255)/\b (.str [UInt8.ofNat ((224+a.tdiv 4096).toNat),UInt8.ofNat ((128+(a.tdiv 64).tmod 64).toNat),UInt8.ofNat ((128+a.tmod 64).toNat)]) (af 29 [(26,aa.an [.ac (224+a.tdiv 4096),.ac (128+(a.tdiv 64).tmod 64),.ac (128+a.tmod 64)] 1 true)]))/\(¬a<65536->((da 262144)/\dP .i64 (a.tdiv 262144))/\(bd (240+a.tdiv 262144))/\(0<=240+a.tdiv 262144/\240+a.tdiv 262144<=255)/\((da 4096)/\dP .i64 (a.tdiv 4096))/\(da 64)/\(bd (128+(a.tdiv 4096).tmod 64))/\(0<=128+(a.tdiv 4096).tmod 64/\128+(a.tdiv 4096).tmod 64<=255)/\((da 64)/\dP .i64 (a.tdiv 64))/\(da 64)/\(bd (128+(a.tdiv 64).tmod 64))/\(0<=128+(a.tdiv 64).tmod 64/\128+(a.tdiv 64).tmod 64<=255)/\(da 64)/\(bd (128+a.tmod 64))/\(0<=128+a.tmod 64/\128+a.tmod 64<=255)/\b (.str [UInt8.ofNat ((240+a.tdiv 262144).toNat),UInt8.ofNat ((128+(a.tdiv 4096).tmod 64).toNat),UInt8.ofNat ((128+(a.tdiv 64).tmod 64).toNat),UInt8.ofNat ((128+a.tmod 64).toNat)]) (af 34 [(31,aa.an [.ac (240+a.tdiv 262144),.ac (128+(a.tdiv 4096).tmod 64),.ac (128+(a.tdiv 64).tmod 64),.ac (128+a.tmod 64)] 1 true)]))))) :
 bl 48 [.av a] bG b :=
 bm bL (ap 1001 .aK<|ab 3001<|.al 4001 (ab 5001 .nil)<|.al 6001 (ab 7001<|ab 7002<|ab 7003<|ab 7005<|ab 7006<|ab 7007 .nil)<|.al 8001 (ab 9001<|ab 9002<|ab 9003<|ab 9005<|ab 9006<|ab 9007<|ab 9008<|ab 9010<|ab 9011<|ab 9012 .nil)<|ab 10001<|ab 10002<|ab 10003<|ab 10005<|ab 10006<|ab 10007<|ab 10008<|ab 10010<|ab 10011<|ab 10012<|ab 10013<|ab 10015<|ab 10016<|ab 10017 .nil) c
def JE(a:Int)(b:Bytes)(c:b8->bc->T->Prop)(f:(da 10)/\(bd (48+a.tmod 10))/\(0<=48+a.tmod 10/\48+a.tmod 10<=255)/\bY (List.length [UInt8.ofNat ((48+a.tmod 10).toNat)]+b.length)/\((da 10)/\dP .i64 (a.tdiv 10))/\(a.tdiv 10=0->c .ret [(0,.V (a.tdiv 10)),(2,.str (UInt8.ofNat ((48+a.tmod 10).toNat)::b)),(3,.str (UInt8.ofNat ((48+a.tmod 10).toNat)::b))] (af 18 [(6,aa.an [.ac (48+a.tmod 10)] 1 true)]))/\(¬(a.tdiv 10)=0->c .normal [(0,.V (a.tdiv 10)),(3,.str (UInt8.ofNat ((48+a.tmod 10).toNat)::b))] (af 16 [(6,aa.an [.ac (48+a.tmod 10)] 1 true)]))) :
 ∃e d Y,bN 0 17 (bu 47 0) [(0,.V a),(3,.str b)] (af 2 []) e d Y/\c e d Y :=
 dD c6 mixed bL (hs:=ab 2001 (ab 2002 (ab 2003 (ab 2007 (ab 3001 (.al 4001 .nil .nil)))))) (keep:=[0,2,3]) ao f
def Wp(b:T)(d:Int)(e:J)(a:Bytes)(c:aU)(f:bN 0 17 (Code.loop (bu 47 0)) [(0,.V d),(3,.str [])] (af 2 []) .ret [(0,e),(2,.str a),(3,.str a)] b/\c (.str a) b) :
 bl 47 [.V d] bG c :=
 bm bL (.aG (.keep [0,3])<|.aG (.loop [(0,e),(2,.str a),(3,.str a)] b .ret) .nil) f
abbrev JF(a c:Int)(b:Bytes):bc:=[(7,.str ((27:UInt8)::91::b)),(6,.str b),(5,.V a),(4,.str []),(0,.V a),(1,.ac c)]
abbrev JG(b a:Int)(c d e:Bytes):bc:=[(13,.str (e++d)),(12,.str d),(11,.V (a+1)),(10,.V a),(9,.ac a),(8,.str e),(7,.str ((27:UInt8)::91::c)),(6,.str c),(5,.V b),(4,.str []),(0,.V b),(1,.ac a)]
def Wq(c a:Int)(b d e f:Bytes)(g:aU)(i:bk 47 [.V c] (af 12 []) (.str b) (af 13 [])/\bY ((Array.toList (ByteArray.data {data:= #[27,91]})).length+b.length)/\hn env.D (bi.eS env) (gA (Operand.tmp 7) || gA (Operand.const (Value.string {data:= #[59]}))) BinOp.add 9 (ba (JF c a b) (Operand.tmp 7)) (ba (JF c a b) (Operand.const (Value.string {data:= #[59]})))=some (J.str e)/\(bd (a))/\(bd (a+1))/\bk 47 [.V (a+1)] (af 13 []) (.str d) (af 14 [])/\bY (e.length+d.length)/\hn env.D (bi.eS env) (gA (Operand.tmp 13) || gA (Operand.const (Value.string {data:= #[117]}))) BinOp.add 9 (ba (JG c a b d e) (Operand.tmp 13)) (ba (JG c a b d e) (Operand.const (Value.string {data:= #[117]})))=some (J.str f)/\lJ [.V c] [.V (a+1)] (af 12 []) (af 13 []) (.str b) (.str d) (af 13 []) (af 14 [])/\g (.str f) (af 14 [])) :
 bl 63 [.V c,.ac a] bG g :=
 bm bL (.aG (.act 1001 (.str b) λh=>(bf h 1))<|ab 1002<|ap 1003 (.str e)<|ab 1005<|ab 1006<|.aG (.act 1007 (.str d) λh=>(bf h 1))<|ab 1008<|ap 1009 (.str f) .nil) i
abbrev JH(c a b:Int):J:=J.agg [.bA c,.av a,.ac b,.V 0,.V 0,.str []]
abbrev l9(a b:Int):aa:=(aL (eN a b))
abbrev uN(c a b:Int):aa:=(aL (JH c a b))
def JI(a:Nat)(b c f d i:Int)(h:Bytes)(g:b8->bc->T->Prop)(k:((a:Int)<32->(0<=(a:Int)/\(a:Int)<=255)/\bk 62 [.ac a] (af 38 [(0,(l9 b c))]) ((JH f d i)) (af 38 [(0,(l9 b c))])/\((a:Int)=27->(bd ((a:Int)+1))/\g .normal [(1,J.aT 0),(3,.str h),(4,.V ((a:Int)+1))] (af 55 [(0,(l9 b c)),(36,(uN f d i))]))/\(¬(a:Int)=27->(f=1->(d=b->(0<=(a:Int)/\(a:Int)<=255)/\(c=4->g .ret [(1,J.aT 0),(2,.str [UInt8.ofNat a]),(3,.str h),(4,.V a)] (af 62 [(0,(l9 b c)),(36,(uN f d i)),(54,aa.an [.ac a] 1 true)]))/\(¬c=4->g .ret [(1,J.aT 0),(2,.str [27,UInt8.ofNat a]),(3,.str h),(4,.V a)] (af 63 [(0,(l9 b c)),(36,(uN f d i)),(54,aa.an [.ac a] 1 true)])))/\(¬d=b->(bd ((a:Int)+1))/\g .normal [(1,J.aT 0),(3,.str h),(4,.V ((a:Int)+1))] (af 55 [(0,(l9 b c)),(36,(uN f d i))])))/\(¬f=1->(bd ((a:Int)+1))/\g .normal [(1,J.aT 0),(3,.str h),(4,.V ((a:Int)+1))] (af 55 [(0,(l9 b c)),(36,(uN f d i))]))))/\(¬(a:Int)<32->g (.exit 0) [(1,J.aT 0),(3,.str h),(4,.V a)] (af 33 [(0,(l9 b c))]))) :
 ∃e j Y,bN 0 74 (bu 36 0) [(1,J.aT 0),(3,.str h),(4,.V (a:Nat))] (af 31 [(0,dl (bb 1 b c 0 0 []))]) e j Y/\g e j Y :=
 dD c6 mixed bL (hs:= .al 8001 (ab 10001 (ap 10002 (bb f d i 0 0 []) (.al 11001 (ab 9001 .nil) (.al 11005 (.al 11012 (ab 12001 (.al 13002 .nil .nil)) (ab 9001 .nil)) (ab 9001 .nil))))) .nil) (keep:=[1,2,3,4]) ao k
abbrev Dk(a:Int):J:=J.agg [.bA 1,.av a,.ac 0,.V 0,.V 0,.str []]
def Wr(a:Int)(b:Bytes)(c:aU)(d:bk 48 [.av a] (af 6 [(0,aL (Dk a))]) (.str b) (af 6 [(0,aL (Dk a))])/\c (.str b) (af 11 [(0,aL (Dk a))])) :
 bl 36 [bb 1 a 0 0 0 []] bG c :=
 bm bL (ap 1002 (.str b) .nil) d
abbrev x'(a:Int):J:=J.agg [.bA 1,.av a,.ac 2,.V 0,.V 0,.str []]
abbrev JJ(b:Int)(c:Bytes)(a:T):b7:=(ap 16001 (.av b)<|ab 16002<|ap 16004 (.ac 2)<|.aG (.act 16005 (.str c) λx=>a) .nil)
abbrev rW(a:Int):T:=(af 37 [(0,aL (x' a))])
def Ws(a:Int)(e c:Bytes)(b:T)(d:aU)(f:bk 48 [.av a] (af 6 [(0,aL (x' a))]) (.str e) (af 6 [(0,aL (x' a))])/\(a=91->a6 env.D 21 ⟨0,0,0,1,6⟩ (rW a)=some (.av a)/\(bd (a))/\a6 env.D 5 ⟨0,0,0,2,6⟩ (rW a)=some (.ac 2)/\bk 63 [.V a,.ac 2] (rW a) (.str c) b/\d (.str c) b)/\(¬a=91->(a=79->a6 env.D 21 ⟨0,0,0,1,6⟩ (rW a)=some (.av a)/\(bd (a))/\a6 env.D 5 ⟨0,0,0,2,6⟩ (rW a)=some (.ac 2)/\bk 63 [.V a,.ac 2] (rW a) (.str c) b/\d (.str c) b)/\(¬a=79->bY ((Array.toList (ByteArray.data {data:= #[27]})).length+e.length)/\d (.str ((27:UInt8)::e)) (af 25 [(0,aL (x' a))])))) :
 bl 36 [bb 1 a 2 0 0 []] bG d :=
 bm bL (ap 1002 (.str e)<|.al 4006 (JJ a c b)<|.al 4011 (JJ a c b)<|ab 5001 .nil) f
abbrev rX(a:Int):J:=J.agg [.bA 1,.av a,.ac 4,.V 0,.V 0,.str []]
def Wt(a:Int)(c e:Bytes)(b d:T)(g:J)(f:aU)(h:bk 48 [.av a] (af 6 [(0,aL (rX a))]) (.str c) (af 6 [(0,aL (rX a))])/\bN 0 74 (Code.loop (bu 36 0)) [(1,J.aT 0),(3,.str c),(4,.V 0)] (af 31 [(0,aL (rX a))]) (.exit 0) [(1,J.aT 0),(3,.str c),(4,g)] b/\a6 env.D 21 ⟨0,0,0,1,6⟩ (bf b 7)=some (.av a)/\(bd (a))/\a6 env.D 5 ⟨0,0,0,2,6⟩ (bf b 7)=some (.ac 4)/\bk 63 [.V a,.ac 4] (bf b 7) (.str e) d/\f (.str e) d) :
 bl 36 [bb 1 a 4 0 0 []] bG f :=
 bm bL (ap 1002 (.str c)<|.aG (.keep [1,3,4])<|.aG (.loop [(1,J.aT 0),(3,.str c),(4,g)] b (.exit 0))<|ap 16001 (.av a)<|ab 16002<|ap 16004 (.ac 4)<|.aG (.act 16005 (.str e) λx=>d) .nil) h
def Wu(b:Int)(a d:Bytes)(c:T)(f:J)(e:aU)(g:bk 48 [.av b] (af 6 [(0,aL (rX b))]) (.str a) (af 6 [(0,aL (rX b))])/\bN 0 74 (Code.loop (bu 36 0)) [(1,J.aT 0),(3,.str a),(4,.V 0)] (af 31 [(0,aL (rX b))]) .ret [(1,J.aT 0),(2,.str d),(3,.str a),(4,f)] c/\e (.str d) c) :
 bl 36 [bb 1 b 4 0 0 []] bG e :=
 bm bL (ap 1002 (.str a)<|.aG (.keep [1,3,4])<|.aG (.loop [(1,J.aT 0),(2,.str d),(3,.str a),(4,f)] c .ret) .nil) g
abbrev rY(a:Int):J:=J.agg [.bA 1,.av a,.ac 6,.V 0,.V 0,.str []]
def Wv(a:Int)(c e:Bytes)(b d:T)(g:J)(f:aU)(h:bk 48 [.av a] (af 6 [(0,aL (rY a))]) (.str c) (af 6 [(0,aL (rY a))])/\bN 0 74 (Code.loop (bu 36 0)) [(1,J.aT 0),(3,.str c),(4,.V 0)] (af 31 [(0,aL (rY a))]) (.exit 0) [(1,J.aT 0),(3,.str c),(4,g)] b/\a6 env.D 21 ⟨0,0,0,1,6⟩ (bf b 7)=some (.av a)/\(bd (a))/\a6 env.D 5 ⟨0,0,0,2,6⟩ (bf b 7)=some (.ac 6)/\bk 63 [.V a,.ac 6] (bf b 7) (.str e) d/\f (.str e) d) :
 bl 36 [bb 1 a 6 0 0 []] bG f :=
 bm bL (ap 1002 (.str c)<|.aG (.keep [1,3,4])<|.aG (.loop [(1,J.aT 0),(3,.str c),(4,g)] b (.exit 0))<|ap 16001 (.av a)<|ab 16002<|ap 16004 (.ac 6)<|.aG (.act 16005 (.str e) λx=>d) .nil) h
def Ww(b:Int)(a d:Bytes)(c:T)(f:J)(e:aU)(g:bk 48 [.av b] (af 6 [(0,aL (rY b))]) (.str a) (af 6 [(0,aL (rY b))])/\bN 0 74 (Code.loop (bu 36 0)) [(1,J.aT 0),(3,.str a),(4,.V 0)] (af 31 [(0,aL (rY b))]) .ret [(1,J.aT 0),(2,.str d),(3,.str a),(4,f)] c/\e (.str d) c) :
 bl 36 [bb 1 b 6 0 0 []] bG e :=
 bm bL (ap 1002 (.str a)<|.aG (.keep [1,3,4])<|.aG (.loop [(1,J.aT 0),(2,.str d),(3,.str a),(4,f)] c .ret) .nil) g
abbrev Dl(a b:Int):T:=(af 37 [(0,aL (eN a b))])
def Wx(b a:Int)(f d:Bytes)(c:T)(e:aU)(g:bk 48 [.av b] (af 6 [(0,aL (eN b a))]) (.str f) (af 6 [(0,aL (eN b a))])/\(bz (a == 0))/\(bz (a == 2))/\(bz (a == 4))/\(bz (a == 6))/\a6 env.D 21 ⟨0,0,0,1,6⟩ (Dl b a)=some (.av b)/\(bd (b))/\a6 env.D 5 ⟨0,0,0,2,6⟩ (Dl b a)=some (.ac a)/\bk 63 [.V b,.ac a] (Dl b a) (.str d) c/\e (.str d) c) :
 bl 36 [bb 1 b a 0 0 []] bG e :=
 bm bL (ap 1002 (.str f)<|ap 2002 .aJ<|ap 4002 .aJ<|ap 6002 .aJ<|ap 6006 .aJ<|ap 16001 (.av b)<|ab 16002<|ap 16004 (.ac a)<|.aG (.act 16005 (.str d) λx=>c) .nil) g
open Go.Lib
def lp(c:Int):Bool:=decide (0<=c)&&decide (c<=1114111)&&(decide (c<55296) || decide (57343<c))
def Dm(c:Int)(H:T):be 35 [.av c] H (.bool (lp c)) H:=by refine bj.bU (Wn c (λv _=>v=.bool (lp c)) ⟨λY=>⟨λag=>⟨λa=> ?_,λa=>⟨λb=> ?_,λb=> ?_⟩⟩,λag=> ?_⟩,λY=> ?_⟩) rfl rfl H;all_goals simp [lp, *]
def ti(r:Nat):(put r).length<=4:=by
 unfold put;dsimp only;by_cases aM:55296<=r/\r<=57343\/1114111<r
 .rw [az aM];decide
 .rw [ai aM]
  repeat' split
  all_goals simp
def JK{c:Nat}(hs:Scalar c)(H:T):be 48 [.av (c:Nat)] H (.str (put c)) H:=by
 have aj:lp (c:Nat)=true:=by unfold Scalar at hs;simp [lp];omega
 have f:c<=1114111:=by unfold Scalar at hs;omega
 have q:=Dm (c:Nat);rw [aj]at q;have c0:(0:Int)<=(c:Nat):= A;have u:∀{z:Int}(n:Nat),Int.toNat z=n->UInt8.ofNat (Int.toNat z)=u8 n:=by intro z n h;rw [h];rfl
 have a:=put_eq hs;have fit:∀{z:Int},0<=z->z<=1114111->dP .i64 z:=λY ag=>by unfold dP;simp [IntKind.min,IntKind.max,IntKind.signed,IntKind.bits];omega
 have b:∀k:Int,Int.tdiv (c:Nat) k=(c:Nat)/k:=λk=>yQ c0
 have d:∀(z k:Int),0<=z->Int.tmod z k=z%k:=λz k h=>Int.tmod_eq_emod_of_nonneg h
 refine bj.bU (Wo (c:Nat) (λv _=>v=.str (put c)) ?_) rfl rfl H
 delta w1
 rw [b,b,b,d _ _ c0,d _ _ A,d _ _ A]
 refine⟨⟨q _⟩,⟨A,A⟩,λY=>⟨⟨A,A⟩,?_⟩,λY=>⟨λag=>⟨⟨A,fit A A⟩,⟨A,A⟩,⟨A,A⟩,A,⟨A,A⟩,⟨A,A⟩,?_⟩,
  λag=>⟨λe=>⟨⟨A,fit A A⟩,⟨A,A⟩,⟨A,A⟩,⟨A,fit A A⟩,A,⟨A,A⟩,⟨A,A⟩,A,⟨A,A⟩,⟨A,A⟩,?_⟩,
   λe=>⟨⟨A,fit A A⟩,⟨A,A⟩,⟨A,A⟩,⟨A,fit A A⟩,A,⟨A,A⟩,⟨A,A⟩,⟨A,fit A A⟩,A,⟨A,A⟩,⟨A,A⟩,A,⟨A,A⟩,⟨A,A⟩,?_⟩⟩⟩⟩
 .rw [a,az A,u c A]
 .rw [a,ai A,az A,u (192+c/64) A,u (128+c%64) A]
 .rw [a,ai A,ai A,az A,u (224+c/4096) A,u (128+c/64%64) A,u (128+c%64) A]
 .rw [a,ai A,ai A,ai A,u (240+c/262144) A,u (128+c/4096%64) A,u (128+c/64%64) A,u (128+c%64) A]
def Wy:∀(t n:Nat)(s:Bytes),n<10^t->t<=20->n<2^60->s.length+t<2^40-> ∃x H',dd 0 17 (bu 47 0) [(0,.V (n:Nat)),(3,.str s)] (T.bO 2 []) .ret [(0,x),(2,.str (decDigits n++s)),(3,.str (decDigits n++s))] H':=by
 have dg:∀n:Nat,(Int.tdiv (n:Nat) 10=((n/10:Nat):Int))/\(Int.tmod (n:Nat) 10=((n%10:Nat):Int))/\(UInt8.ofNat (Int.toNat (48+((n%10:Nat):Int)))=UInt8.ofNat (48+n%10)):=λn=>⟨rfl,rfl,by congr 1⟩
 have base:∀(n:Nat)(s:Bytes),n/10=0->s.length<2^40-> ∃x H',dd 0 17 (bu 47 0) [(0,.V (n:Nat)),(3,.str s)] (T.bO 2 []) .ret [(0,x),(2,.str (decDigits n++s)),(3,.str (decDigits n++s))] H':=by
  intro n s aM hs;obtain⟨d,g,u⟩:=dg n;have b:decDigits n=[UInt8.ofNat (48+n%10)]:=by rw [decDigits,dif_pos A];congr 2;omega
  have f:dP .i64 ((n/10:Nat):Int):=by show-9223372036854775808<=((n/10:Nat):Int)/\((n/10:Nat):Int)<=9223372036854775807;omega
  obtain⟨e,a,Y,c,rfl,rfl,_⟩:=JE (n:Nat) s (λe a Y=>e=.ret/\a=[(0,.V (n/10:Nat)),(2,.str (decDigits n++s)),(3,.str (decDigits n++s))]/\True)
   (by rw [d,g,u,b];exact⟨A,⟨A,A⟩,⟨A,A⟩,by show 1+s.length+1<=2^62;omega,⟨A,f⟩,λ_=>⟨rfl,rfl,trivial⟩,λh=>absurd A h⟩)
  exact⟨_,_,b2.last au c⟩
 intro t;induction t with
 |zero=>intro n s h _ _ hs;exact base n s (by simp at h;omega) A
 |succ t ih =>
  intro n s h j aw hs;by_cases aM:n/10=0
  .exact base n s aM A
  .obtain⟨d,g,u⟩:=dg n;have f:dP .i64 ((n/10:Nat):Int):=by show-9223372036854775808<=((n/10:Nat):Int)/\((n/10:Nat):Int)<=9223372036854775807;omega
   have b:decDigits n=decDigits (n/10)++[UInt8.ofNat (48+n%10)]:=by rw [decDigits,dif_neg A]
   obtain⟨e,a,Y,c,rfl,rfl,rfl⟩:=JE (n:Nat) s (λe a Y=>e=.normal/\a=[(0,.V (n/10:Nat)),(3,.str (UInt8.ofNat (48+n%10)::s))]/\Y=T.bO 16 [(6,aa.an [.ac (48+((n%10:Nat):Int))] 1 true)])
    (by rw [d,g,u];exact⟨A,⟨A,A⟩,⟨A,A⟩,by show 1+s.length+1<=2^62;omega,⟨A,f⟩,λh=>absurd h A,λ_=>⟨rfl,rfl,rfl⟩⟩)
   obtain⟨x,H',i⟩:=ih (n/10) (UInt8.ofNat (48+n%10)::s) (by rw [Nat.pow_succ]at h;omega) A A (by simp only [bK];omega);rw [b,jb];exact⟨x,H',b2.round c (bW.drop (K:=2) (l:=[]) rfl aC aC (by rfl) (aX.cons trivial (aX.cons trivial aX.nil)) aX.nil) i⟩
variable {i k m n q:Nat}
def l'(aw:n<2^60)(H:T):be 47 [.V (n:Nat)] H (.str (decDigits n)) H:=by obtain⟨x,H',a⟩:=Wy 20 n [] A A aw au;rw [gy]at a;exact bj.bU (Wp H' (n:Nat) x (decDigits n) (λv _=>v=.str (decDigits n)) ⟨cO.dn a,rfl⟩) rfl rfl H
def Dn{c:Nat}(aj:c<2^32)(hm:m<=7)(H:T):∃s,be 63 [.V (c:Nat),.ac (m:Nat)] H (.str s) H:=by
 have d1:=l' (n:=c) A;have d2:=l' (n:=m+1) A;have f:=j5 (n:=c) (k:=9) (by simp;omega);have l2:=j5 (n:=m+1) (k:=9) (by simp;omega)
 have a:∀{F:bc}{k:Nat}{x y:Bytes}{b:Bool},ba F (.tmp k)=.str x->x.length+y.length<2^40->hn (bi.D env) (bi.eS env) b BinOp.add 9 (ba F (.tmp k)) (.str y)=some (.str (x++y)):=by intro F k x y b d e;rw [d];show(if x.length+y.length<2^62 then some (J.str (x++y))else none)=_;rw [az A]
 refine⟨27::91::decDigits c++[59]++decDigits (m+1)++[117],bj.bU (Wq (c:Nat) (m:Nat) (decDigits c) (decDigits (m+1)) (27::91::decDigits c++[59]) (27::91::decDigits c++[59]++decDigits (m+1)++[117]) (λv _=>v=.str (27::91::decDigits c++[59]++decDigits (m+1)++[117]))
  ⟨⟨CV (d1 _)⟩,?_,a rfl ?_,⟨A,A⟩,⟨A,A⟩,⟨CV (d2 _)⟩,?_,a rfl ?_,?_,rfl⟩) rfl rfl H⟩
 .show 2+(decDigits c).length+1<=2^62;omega
 .simp only [bK,cq];omega
 .show _+1<=2^62;simp only [bK,dt,cq];omega
 .simp only [bK,dt,cq];omega
 .exact⟨λ_ q=>absurd (dm T.M q) aC⟩
def rZ(i:Nat):aP:=if i=13 then⟨2,1,0,0,0,[]⟩else if i=9 then⟨2,2,0,0,0,[]⟩else if i=0 then⟨1,32,4,0,0,[]⟩else if i<=26 then⟨1,96+i,4,0,0,[]⟩else⟨1,64+i,4,0,0,[]⟩
noncomputable def JL(i:Nat):Bool:=match hY Tryz.prog env 100 62 [.int .u8 (i:Nat)] ⟨0,.nil⟩with
 |some (v,_)=>J.jd [v] [bp (rZ i)]
 |none=>false
def Wz:∀i:Fin 32,JL i.val=true:=by decide+kernel
def JM(ah:i<32)(H:T):be 62 [.ac (i:Nat)] H (bp (rZ i)) H:=by
 have h:=Wz ⟨i,ah⟩;unfold JL at h;simp only at h;split at h
 .rename_i v Z b;have:=J.mC h;simp only [fJ,hE]at this;subst this;rw [mF]at b;exact(bj.lG c6 mixed b).bare (by intro a c;rw [cF.1 c];exact b0.int _ _) (b0.of rfl) H
 .cases h
abbrev qa(b:Bytes)(v:J):bc:=[(1,.ptr (some ⟨0,0,0,0,6⟩)),(3,.str b),(4,v)]
def JN(c m:Nat)(b:Bytes)(i:Int)(h:T)(ab:h.get 0=some (dl (bb 1 c m 0 0 []))):bW 0 74 (qa b (.V i)) h (qa b (.V i)) (T.bO 31 [(0,dl (bb 1 c m 0 0 []))]):=by have aQ:T.rows 31 [(0,dl (bb 1 c m 0 0 []))]=T.bO 31 [(0,dl (bb 1 c m 0 0 []))]:= ao;rw [<-aQ];exact bW.drop (K:=31) (l:=[(0,dl (bb 1 c m 0 0 []))]) (by simp only [ei,hS,ab]) (by rfl) (by rfl) (by rfl) (aX.cons (by simp [bR,Go.br.b3]) (aX.cons trivial (aX.cons trivial aX.nil))) (aX.cons (uM _ _ _ _) aX.nil)
def JO(c m:Nat)(b:Bytes)(i:Int):Prop:= ∃v H',(dd 0 74 (bu 36 0) (qa b (.int .i64 i)) (T.bO 31 [(0,dl (bb 1 c m 0 0 []))]) (.exit 0) (qa b v) H'/\H'.get 0=some (dl (bb 1 c m 0 0 []))) \/
    ∃s,dd 0 74 (bu 36 0) (qa b (.int .i64 i)) (T.bO 31 [(0,dl (bb 1 c m 0 0 []))]) .ret [(1,.ptr (some ⟨0,0,0,0,6⟩)),(2,.str s),(3,.str b),(4,v)] H'
def WA(c m:Nat)(b:Bytes)(hm:m=4\/m=6):∀(t i:Nat),32-i<=t->i<=32->JO c m b (i:Nat):=by
 have fin:∀i,i=32->JO c m b (i:Nat):=by intro i ah;obtain⟨e,a,Y,f,rfl,rfl,ab⟩:=JI i (c:Nat) (m:Nat) 0 0 0 b (λe a Y=>e=.exit 0/\a=qa b (.V (i:Nat))/\Y.get 0=some (dl (bb 1 c m 0 0 []))) ⟨λh=>absurd h A,λ_=>⟨rfl,rfl,rfl⟩⟩;exact⟨_,_,.inl ⟨b2.last au f,ab⟩⟩
 intro t;induction t with
 |zero=>exact λi r ah=>fin i A
 |succ t ih =>
  intro i r ah;by_cases aj:i<32
  .have q:=JM aj;generalize w:rZ i=x at q
   have n:x.x=0/\x.y=0/\x.text=[]:=by
    rw [<-w];unfold rZ
    repeat' split
    all_goals exact⟨rfl,rfl,rfl⟩
   obtain⟨k,d,g,y,z,u⟩:=x;simp only at n;obtain⟨rfl,rfl,rfl⟩:=n;have B:((i:Int)+1)=((i+1:Nat):Int):= A
   obtain⟨e,a,Y,f,o⟩:=JI i (c:Nat) (m:Nat) k d g b (λe a Y=>(e=.normal/\a=qa b (.V ((i:Int)+1))/\Y.get 0=some (dl (bb 1 c m 0 0 [])))\/ ∃s,e=.ret/\a=[(1,.ptr (some ⟨0,0,0,0,6⟩)),(2,.str s),(3,.str b),(4,.V (i:Nat))])
    ⟨λ_=>⟨⟨A,A⟩,⟨q _⟩,λ_=>⟨⟨A,A⟩,.inl ⟨rfl,rfl,rfl⟩⟩,λ_=>⟨λ_=>⟨λ_=>⟨⟨A,A⟩,λ_=> .inr ⟨_,rfl,rfl⟩,λ_=> .inr ⟨_,rfl,rfl⟩⟩,λ_=>⟨⟨A,A⟩,.inl ⟨rfl,rfl,rfl⟩⟩⟩,λ_=>⟨⟨A,A⟩,.inl ⟨rfl,rfl,rfl⟩⟩⟩⟩,λh=>absurd A h⟩
   rcases o with ⟨rfl,rfl,ab⟩|⟨s,rfl,rfl⟩
   .obtain⟨v,H',l⟩:=ih (i+1) A A;rw [<-B]at l;rcases l with ⟨j,p⟩|⟨s,j⟩
    .exact⟨v,H',.inl ⟨b2.round f (JN c m b _ _ ab) j,p⟩⟩
    .exact⟨v,H',.inr ⟨s,b2.round f (JN c m b _ _ ab) j⟩⟩
   .exact⟨_,_,.inr ⟨s,b2.last au f⟩⟩
  .exact fin i A
def WB{c:Nat}(hs:Scalar c)(hm:m<=7)(H:T):∃s,be 36 [bp ⟨1,c,m,0,0,[]⟩] H (.str s) H:=by
 have a:=JK hs;have j:=ti c;have aj:c<2^32:=by unfold Scalar at hs;omega
 obtain⟨s,b⟩:=Dn (m:=m) aj hm ⟨0,.nil⟩;have b:∀K,be 63 [.V (c:Nat),.ac (m:Nat)] K (.str s) K:=λK=>bj.bU ⟨_,_,b,rfl⟩ rfl rfl K
 have d:∀n,a6 (bi.D env) 21 ⟨0,0,0,1,6⟩ (T.bO n [(0,dl (bb 1 c m 0 0 []))])=some (.av (c:Nat))/\a6 (bi.D env) 5 ⟨0,0,0,2,6⟩ (T.bO n [(0,dl (bb 1 c m 0 0 []))])=some (.ac (m:Nat)):=λn=>⟨fH rfl,l8 rfl⟩
 have fin:(∃v Y,be 36 [bb 1 c m 0 0 []] ⟨0,.nil⟩ v Y/\∃t,v=.str t)-> ∃s,be 36 [bp ⟨1,c,m,0,0,[]⟩] H (.str s) H:=fun⟨v,Y,h,t,e⟩=>⟨t,bj.bU ⟨v,Y,h,e⟩ rfl rfl H⟩
 refine fin ?_;by_cases aM:m=0
 .subst aM;exact Wr (c:Nat) (put c) (λv _=> ∃t,v=.str t) ⟨⟨a _⟩,_,rfl⟩
 by_cases ag:m=2
 .subst ag;exact Ws (c:Nat) (put c) s _ (λv _=> ∃t,v=.str t) ⟨⟨a _⟩,λ_=>⟨(d 37).1,⟨A,A⟩,(d 37).2,⟨b _⟩,_,rfl⟩,λ_=>⟨λ_=>⟨(d 37).1,⟨A,A⟩,(d 37).2,⟨b _⟩,_,rfl⟩,λ_=>⟨by show 1+(put c).length+1<=2^62;omega,_,rfl⟩⟩⟩
 by_cases g:m=4\/m=6
 .obtain⟨v,H',⟨f,ab⟩|⟨i,f⟩⟩:=WA c m (put c) g 32 0 A A
  .have g7:(⟨H'.M+7,H'.aF⟩:T).get 0=some (dl (bb 1 c m 0 0 [])):=ab;rcases g with rfl|rfl
   .exact Wt (c:Nat) (put c) s H' _ v (λv _=> ∃t,v=.str t) ⟨⟨a _⟩,cO.dn f,fH g7,⟨A,A⟩,l8 g7,⟨b _⟩,_,rfl⟩
   .exact Wv (c:Nat) (put c) s H' _ v (λv _=> ∃t,v=.str t) ⟨⟨a _⟩,cO.dn f,fH g7,⟨A,A⟩,l8 g7,⟨b _⟩,_,rfl⟩
  .rcases g with rfl|rfl
   .exact Wu (c:Nat) (put c) i H' v (λv _=> ∃t,v=.str t) ⟨⟨a _⟩,cO.dn f,_,rfl⟩
   .exact Ww (c:Nat) (put c) i H' v (λv _=> ∃t,v=.str t) ⟨⟨a _⟩,cO.dn f,_,rfl⟩
 .exact Wx (c:Nat) (m:Nat) (put c) s _ (λv _=> ∃t,v=.str t) ⟨⟨a _⟩,by simp;omega,by simp;omega,by simp;omega,by simp;omega,(d 37).1,⟨A,A⟩,(d 37).2,⟨b _⟩,_,rfl⟩
def jv(n:Nat):Nat:=[0,9,11,12,10,13,14,9,10,0,0,21,22,23,24,25,0,26,27,28,29,30,0,31,32,0,0,0,0,0].getD n 0
def JP(n:Nat):Nat:=if n=65 then 5 else if n=66 then 6 else if n=67 then 7 else if n=68 then 8 else if n=72 then 9 else if n=70 then 10 else 0
noncomputable def ya(r:Option (J×T))(n:Nat):Bool:=match r with
 |some (v,_)=>J.jd [v] [.int .i32 (n:Nat)]
 |none=>false
def JQ{f:FuncId}{args:List J}(h:ya (hY Tryz.prog env k f args ⟨0,.nil⟩) n=true)(c:∀a∈args,b0 a)(H:T):be f args H (.av (n:Nat)) H:=by
 unfold ya at h;split at h
 .rename_i v Z b;have:=J.mC h;simp only [fJ,hE]at this;subst this;rw [mF]at b;exact(bj.lG c6 mixed b).bare c (b0.int _ _) H
 .cases h
def WC:∀n:Fin 30,ya (hY Tryz.prog env 100 65 [.V (n.val:Nat)] ⟨0,.nil⟩) (jv n.val)=true:=by decide+kernel
def WD:∀n:Fin 8,ya (hY Tryz.prog env 100 64 [.ac ((n.val+65:Nat):Nat)] ⟨0,.nil⟩) (JP (n.val+65))=true:=by decide+kernel
abbrev kJ:J:=J.str [65,66,67,68,72,70]
abbrev ef(a b:Int):J:=J.agg [.bA 2,.av a,.ac b,.V 0,.V 0,.str []]
abbrev gg(a b:Int):aa:=(aL (ef a b))
def yb(a:Nat)(b c i j:Int)(d f k:Bytes)(g:b8->bc->T->Prop)(m:((a:Int)<6->c' env.D 9 (kJ) (.V a)=some (.ac j)/\bk 64 [.ac j] (af 49 [(0,(gg b c))]) (.av i) (af 49 [(0,(gg b c))])/\hW 49 (af 49 [(0,(gg b c))]) (af 49 [(0,(gg b c))])=true/\(i=b->(c=0->(bd ((a:Int)+1))/\dW env.D 9 (kJ) (some (.V a)) (some (.V ((a:Int)+1))) none=some (J.str f)/\bY ((Array.toList (ByteArray.data {data:= #[27,91]})).length+f.length)/\g .ret [(1,J.aT 0),(2,.str ((27:UInt8)::91::f)),(3,.aK),(4,.str d),(8,kJ),(9,.V a)] (af 60 [(0,(gg b c))]))/\(¬c=0->bY ((Array.toList (ByteArray.data {data:= #[27,91,49,59]})).length+d.length)/\(bd ((a:Int)+1))/\dW env.D 9 (kJ) (some (.V a)) (some (.V ((a:Int)+1))) none=some (J.str f)/\Decidable.rec (λh=>(λx=>none) h) (λh=>(λx=>some (J.str ((27:UInt8)::91::49::59::d++f))) h) (Nat.decLt (((27:UInt8)::91::49::59::d).length+f.length) (2^62))=some (J.str k)/\g .ret [(1,J.aT 0),(2,.str k),(3,.aK),(4,.str d),(8,kJ),(9,.V a)] (af 62 [(0,(gg b c))])))/\(¬i=b->(bd ((a:Int)+1))/\g .normal [(1,J.aT 0),(4,.str d),(8,kJ),(9,.V ((a:Int)+1))] (af 52 [(0,(gg b c))])))/\(¬(a:Int)<6->g (.exit 0) [(1,J.aT 0),(4,.str d),(8,kJ),(9,.V a)] (af 42 [(0,(gg b c))]))) :
 ∃e l Y,bN 0 150 (bu 37 0) [(1,J.aT 0),(4,.str d),(8,.str [65,66,67,68,72,70]),(9,.V (a:Nat))] (af 40 [(0,dl (bb 2 b c 0 0 []))]) e l Y/\g e l Y :=
 dD c6 mixed bL (hs:= .al 15001 (ap 17002 (.ac j) (ap 17003 (.av i) (.al 17006 (.al 18002 (ab 19003 (ap 19004 (.str f) (ab 19005 .nil))) (ab 20001 (ab 20005 (ap 20006 (.str f) (ap 20007 (.str k) .nil))))) (ab 16001 .nil)))) .nil) (keep:=[1,2,3,4,8,9]) ao m
def yc(a:Nat)(b c j:Int)(d f l k i:Bytes)(g:b8->bc->T->Prop)(n:((a:Int)<30->((a:Int)=4->(bd ((a:Int)+1))/\g .normal [(1,J.aT 0),(4,.str d),(10,.V ((a:Int)+1))] (af 117 [(0,(gg b c))]))/\(¬(a:Int)=4->((a:Int)=7->(bd ((a:Int)+1))/\g .normal [(1,J.aT 0),(4,.str d),(10,.V ((a:Int)+1))] (af 117 [(0,(gg b c))]))/\(¬(a:Int)=7->((a:Int)=8->(bd ((a:Int)+1))/\g .normal [(1,J.aT 0),(4,.str d),(10,.V ((a:Int)+1))] (af 117 [(0,(gg b c))]))/\(¬(a:Int)=8->bk 65 [.V a] (af 114 [(0,(gg b c))]) (.av j) (af 114 [(0,(gg b c))])/\hW 114 (af 114 [(0,(gg b c))]) (af 114 [(0,(gg b c))])=true/\(j=b->(0<b->(c=0->bk 47 [.V a] (af 123 [(0,(gg b c))]) (.str f) (af 123 [(0,(gg b c))])/\bY ((Array.toList (ByteArray.data {data:= #[27,91]})).length+f.length)/\Decidable.rec (λh=>(λx=>none) h) (λh=>(λx=>some (J.str ((27:UInt8)::91::f++Array.toList (ByteArray.data {data:= #[126]})))) h) (Nat.decLt (((27:UInt8)::91::f).length+(Array.toList (ByteArray.data {data:= #[126]})).length) (2^62))=some (J.str k)/\g .ret [(1,J.aT 0),(2,.str k),(3,.aK),(4,.str d),(10,.V a)] (af 123 [(0,(gg b c))]))/\(¬c=0->bk 47 [.V a] (af 126 [(0,(gg b c))]) (.str f) (af 126 [(0,(gg b c))])/\bY ((Array.toList (ByteArray.data {data:= #[27,91]})).length+f.length)/\Decidable.rec (λh=>(λx=>none) h) (λh=>(λx=>some (J.str ((27:UInt8)::91::f++Array.toList (ByteArray.data {data:= #[59]})))) h) (Nat.decLt (((27:UInt8)::91::f).length+(Array.toList (ByteArray.data {data:= #[59]})).length) (2^62))=some (J.str i)/\bY (i.length+d.length)/\Decidable.rec (λh=>(λx=>none) h) (λh=>(λx=>some (J.str (i++d++Array.toList (ByteArray.data {data:= #[126]})))) h) (Nat.decLt ((i++d).length+(Array.toList (ByteArray.data {data:= #[126]})).length) (2^62))=some (J.str l)/\g .ret [(1,J.aT 0),(2,.str l),(3,.aK),(4,.str d),(10,.V a)] (af 126 [(0,(gg b c))])))/\(¬0<b->(bd ((a:Int)+1))/\g .normal [(1,J.aT 0),(4,.str d),(10,.V ((a:Int)+1))] (af 117 [(0,(gg b c))])))/\(¬j=b->(bd ((a:Int)+1))/\g .normal [(1,J.aT 0),(4,.str d),(10,.V ((a:Int)+1))] (af 117 [(0,(gg b c))]))))))/\(¬(a:Int)<30->g (.exit 2) [(1,J.aT 0),(4,.str d),(10,.V a)] (af 92 [(0,(gg b c))]))) :
 ∃e m Y,bN 0 150 (bu 37 1) [(1,J.aT 0),(4,.str d),(10,.V (a:Nat))] (af 90 [(0,dl (bb 2 b c 0 0 []))]) e m Y/\g e m Y :=
 dD c6 mixed bL (hs:= .al 24001 (.al 26001 (ab 25001 .nil) (.al 26004 (ab 25001 .nil) (.al 26008 (ab 25001 .nil) (ap 26012 (.av j) (.al 26015 (.al 26020 (.al 27002 (ap 28001 (.str f) (ab 28002 (ap 28003 (.str k) .nil))) (ap 29001 (.str f) (ab 29002 (ap 29003 (.str i) (ab 29005 (ap 29006 (.str l) .nil)))))) (ab 25001 .nil)) (ab 25001 .nil)))))) .nil) (keep:=[1,2,3,4,10]) ao n
abbrev JR(a b c:Int):T:=(af 51 [(0,aL (ef a b)),(9,aa.an [.V 0,.V 13,.V 9,.V 127,.V 27] 1 true),(27,aa.an [.ac c] 1 true)])
abbrev r0(a b c:Int):T:=(af 55 [(0,aL (ef a b)),(9,aa.an [.V 0,.V 13,.V 9,.V 127,.V 27] 1 true),(27,aa.an [.ac c] 1 true)])
abbrev JS(a b c:Int)(d:Bytes)(e:aU):Prop:=(¬a=2->bk 63 [.V c,.ac b] (r0 a b c) (.str d) (r0 a b c)/\e (.tuple [.str d,.aK]) (r0 a b c))
abbrev JT(c a b:Int)(d:Bytes)(e:aU):Prop:=(¬a=1->bk 63 [.V b,.ac a] (r0 c a b) (.str d) (r0 c a b)/\e (.tuple [.str d,.aK]) (r0 c a b))
def JU(a b c:Int)(f e:Bytes)(d:aU)(g:(bd (b))/\(bd (b+1))/\bk 47 [.V (b+1)] (af 9 [(0,aL (ef a b))]) (.str f) (af 9 [(0,aL (ef a b))])/\(cX (decide (a≥1)))/\(cX (decide (a<=4)))/\(0<=a/\a<5)/\a6 env.D 3 ⟨9,0,0+a.toNat,0,1⟩ (af 25 [(0,aL (ef a b)),(9,aa.an [.V 0,.V 13,.V 9,.V 127,.V 27] 1 true)])=some (.V c)/\(0<=c/\c<=255)/\(b=0->d (.tuple [.str [UInt8.ofNat (c.toNat)],.aK]) (af 36 [(0,aL (ef a b)),(9,aa.an [.V 0,.V 13,.V 9,.V 127,.V 27] 1 true),(27,aa.an [.ac c] 1 true)]))/\(¬b=0->(b=2->(a=4->(b=1->(a=2->d (.tuple [.str [27,91,90],.aK]) (JR a b c))/\(JS a b c e d))/\(JT a b c e d))/\(¬a=4->d (.tuple [.str [27,UInt8.ofNat (c.toNat)],.aK]) (af 45 [(0,aL (ef a b)),(9,aa.an [.V 0,.V 13,.V 9,.V 127,.V 27] 1 true),(27,aa.an [.ac c] 1 true)])))/\(¬b=2->(b=1->(a=2->d (.tuple [.str [27,91,90],.aK]) (JR a b c))/\(JS a b c e d))/\(JT a b c e d)))) :
 bl 37 [bb 2 a b 0 0 []] bG d :=
 bm bL (ab 1002<|ab 1003<|ap 1004 (.str f)<|ap 3002 .aK<|ap 3006 .aK<|ab 4003<|ap 4004 (.V c)<|ab 5001<|.al 6002 .nil<|.al 8002 (.al 8006 (.al 10002 (.al 10006 .nil (ap 12003 (.str e) .nil)) (ap 12003 (.str e) .nil)) .nil)<|.al 10002 (.al 10006 .nil<|ap 12003 (.str e) .nil)<|ap 12003 (.str e) .nil) g
def JV(b a:Int)(c e:Bytes)(d:T)(g:J)(f:aU)(h:(bd (a))/\(bd (a+1))/\bk 47 [.V (a+1)] (af 9 [(0,aL (ef b a))]) (.str c) (af 9 [(0,aL (ef b a))])/\(cX (decide (b≥1)))/\(bz (decide (b<=4)))/\bN 0 150 (Code.loop (bu 37 0)) [(1,J.aT 0),(4,.str c),(8,kJ),(9,.V 0)] (af 21 [(0,aL (ef b a)),(9,aa.an [.V 0,.V 13,.V 9,.V 127,.V 27] 1 true)]) .ret [(1,J.aT 0),(2,.str e),(3,.aK),(4,.str c),(8,.str [65,66,67,68,72,70]),(9,g)] d/\f (.tuple [.str e,.aK]) d) :
 bl 37 [bb 2 b a 0 0 []] bG f :=
 bm bL (ab 1002<|ab 1003<|ap 1004 (.str c)<|ap 3002 .aK<|ap 3006 .aJ<|.aG (.keep [1,4,8,9])<|.aG (.loop [(1,J.aT 0),(2,.str e),(3,.aK),(4,.str c),(8,.str [65,66,67,68,72,70]),(9,g)] d .ret) .nil) h
def JW(a b:Int)(d e:Bytes)(c:T)(g:J)(f:aU)(h:(bd (b))/\(bd (b+1))/\bk 47 [.V (b+1)] (af 9 [(0,aL (ef a b))]) (.str d) (af 9 [(0,aL (ef a b))])/\(cX (decide (a≥1)))/\(bz (decide (a<=4)))/\bN 0 150 (Code.loop (bu 37 0)) [(1,J.aT 0),(4,.str d),(8,kJ),(9,.V 0)] (af 21 [(0,aL (ef a b)),(9,aa.an [.V 0,.V 13,.V 9,.V 127,.V 27] 1 true)]) (.exit 0) [(1,J.aT 0),(4,.str d),(8,.str [65,66,67,68,72,70]),(9,g)] c/\a6 env.D 21 ⟨0,0,0,1,6⟩ (bf c 13)=some (.av a)/\(cX (decide (a≥21)))/\a6 env.D 21 ⟨0,0,0,1,6⟩ (bf c 13)=some (.av a)/\(cX (decide (a<25)))/\a6 env.D 5 ⟨0,0,0,2,6⟩ (bf c 13)=some (.ac b)/\(cX (b == 0))/\a6 env.D 21 ⟨0,0,0,1,6⟩ (bf c 24)=some (.av a)/\(cf (a-21))/\a6 env.D 21 ⟨0,0,0,1,6⟩ (bf c 24)=some (.av a)/\(cf (a-21))/\(cf (a-21+1))/\dW env.D 9 (.str [80,81,82,83]) (some (.av (a-21))) (some (.av (a-21+1))) none=some (J.str e)/\bY ((Array.toList (ByteArray.data {data:= #[27,79]})).length+e.length)/\f (.tuple [.str ((27:UInt8)::79::e),.aK]) (T.mk (c.M+13+11) (T.aF (bf c 13)))) :
 bl 37 [bb 2 a b 0 0 []] bG f :=
 bm bL (ab 1002<|ab 1003<|ap 1004 (.str d)<|ap 3002 .aK<|ap 3006 .aJ<|.aG (.keep [1,4,8,9])<|.aG (.loop [(1,J.aT 0),(4,.str d),(8,.str [65,66,67,68,72,70]),(9,g)] c (.exit 0))<|ap 21001 (.av a)<|ap 21002 .aK<|ap 21005 (.av a)<|ap 21006 .aK<|ap 21010 (.ac b)<|ap 21011 .aK<|ap 22001 (.av a)<|ab 22002<|ap 22004 (.av a)<|ab 22005<|ab 22006<|ap 22007 (.str e)<|ab 22008 .nil) h
abbrev fw(a:T):T:=(T.mk (a.M+13) (a.2))
abbrev WE(a:T):T:=(T.mk (a.M+13) (T.aF a))
abbrev WG(b c:Bytes)(a:T)(d:J):b7:=(.aG (.loop [(1,J.aT 0),(2,.str c),(3,.aK),(4,.str b),(10,d)] a .ret) .nil)
abbrev nd(a:T):T:=(T.mk (a.M+13+1) (T.aF (WE a)))
abbrev yd(b c:Bytes)(a:T)(d:J):b7:=(ap 21012 .aJ<|.aG (.keep [1,4,10]) (WG b c a d))
def JX(c f:Int)(b e:Bytes)(a d:T)(i g:J)(h:aU)(j:(bd (f))/\(bd (f+1))/\bk 47 [.V (f+1)] (af 9 [(0,aL (ef c f))]) (.str b) (af 9 [(0,aL (ef c f))])/\(cX (decide (c≥1)))/\(bz (decide (c<=4)))/\bN 0 150 (Code.loop (bu 37 0)) [(1,J.aT 0),(4,.str b),(8,kJ),(9,.V 0)] (af 21 [(0,aL (ef c f)),(9,aa.an [.V 0,.V 13,.V 9,.V 127,.V 27] 1 true)]) (.exit 0) [(1,J.aT 0),(4,.str b),(8,.str [65,66,67,68,72,70]),(9,i)] a/\a6 env.D 21 ⟨0,0,0,1,6⟩ (fw a)=some (.av c)/\(21<=c->a6 env.D 21 ⟨0,0,0,1,6⟩ (fw a)=some (.av c)/\(c<25->a6 env.D 5 ⟨0,0,0,2,6⟩ (fw a)=some (.ac f)/\(f=0->bt env cr (a.M+12) (ba [(99,.aK),(96,.aK)]) (fw a) (Op.pick (Operand.tmp 96) (Operand.tmp 99) (Operand.const (Value.bool false)))=some (J.bool false,(fw a))/\bN 0 150 (Code.loop (bu 37 1)) [(1,J.aT 0),(4,.str b),(10,.V 2)] (nd a) .ret [(1,J.aT 0),(2,.str e),(3,.aK),(4,.str b),(10,g)] d/\h (.tuple [.str e,.aK]) d)/\(¬f=0->bt env cr (a.M+12) (ba [(99,.aJ),(96,.aK)]) (fw a) (Op.pick (Operand.tmp 96) (Operand.tmp 99) (Operand.const (Value.bool false)))=some (J.bool false,(fw a))/\bN 0 150 (Code.loop (bu 37 1)) [(1,J.aT 0),(4,.str b),(10,.V 2)] (nd a) .ret [(1,J.aT 0),(2,.str e),(3,.aK),(4,.str b),(10,g)] d/\h (.tuple [.str e,.aK]) d))/\(¬c<25->bt env cr (a.M+12) (ba [(99,.tuple []),(96,.aJ)]) (fw a) (Op.pick (Operand.tmp 96) (Operand.tmp 99) (Operand.const (Value.bool false)))=some (J.bool false,(fw a))/\bN 0 150 (Code.loop (bu 37 1)) [(1,J.aT 0),(4,.str b),(10,.V 2)] (nd a) .ret [(1,J.aT 0),(2,.str e),(3,.aK),(4,.str b),(10,g)] d/\h (.tuple [.str e,.aK]) d))/\(¬21<=c->bt env cr (a.M+12) (ba [(99,.tuple []),(96,.aJ)]) (fw a) (Op.pick (Operand.tmp 96) (Operand.tmp 99) (Operand.const (Value.bool false)))=some (J.bool false,(fw a))/\bN 0 150 (Code.loop (bu 37 1)) [(1,J.aT 0),(4,.str b),(10,.V 2)] (nd a) .ret [(1,J.aT 0),(2,.str e),(3,.aK),(4,.str b),(10,g)] d/\h (.tuple [.str e,.aK]) d)) :
 bl 37 [bb 2 c f 0 0 []] bG h :=
 bm bL (ab 1002<|ab 1003<|ap 1004 (.str b)<|ap 3002 .aK<|ap 3006 .aJ<|.aG (.keep [1,4,8,9])<|.aG (.loop [(1,J.aT 0),(4,.str b),(8,.str [65,66,67,68,72,70]),(9,i)] a (.exit 0))<|ap 21001 (.av c)<|.al 21002 (ap 21005 (.av c)<|.al 21006 (ap 21010 (.ac f)<|.al 21011 (yd b e d g) (yd b e d g)) (yd b e d g)) (yd b e d g)) j
abbrev e2:J:=J.tuple [.str [],.aJ]
abbrev qb(a:T):T:=(T.mk (a.M+2) (T.aF a))
abbrev JY(b:Bytes)(a:T)(c:J):b7:=(.aG (.loop [(1,J.aT 0),(4,.str b),(10,c)] a (.exit 2)) .nil)
abbrev ye(b:Bytes)(a:T)(c:J):b7:=(ap 21012 .aJ<|.aG (.keep [1,4,10]) (JY b a c))
def JZ(c e:Int)(b j:Bytes)(a d:T)(h f:J)(g:aU)(i:(bd (e))/\(bd (e+1))/\bk 47 [.V (e+1)] (af 9 [(0,aL (ef c e))]) (.str b) (af 9 [(0,aL (ef c e))])/\(cX (decide (c≥1)))/\(bz (decide (c<=4)))/\bN 0 150 (Code.loop (bu 37 0)) [(1,J.aT 0),(4,.str b),(8,kJ),(9,.V 0)] (af 21 [(0,aL (ef c e)),(9,aa.an [.V 0,.V 13,.V 9,.V 127,.V 27] 1 true)]) (.exit 0) [(1,J.aT 0),(4,.str b),(8,.str [65,66,67,68,72,70]),(9,h)] a/\a6 env.D 21 ⟨0,0,0,1,6⟩ (fw a)=some (.av c)/\(21<=c->a6 env.D 21 ⟨0,0,0,1,6⟩ (fw a)=some (.av c)/\(c<25->a6 env.D 5 ⟨0,0,0,2,6⟩ (fw a)=some (.ac e)/\(e=0->bt env cr (a.M+12) (ba [(99,.aK),(96,.aK)]) (fw a) (Op.pick (Operand.tmp 96) (Operand.tmp 99) (Operand.const (Value.bool false)))=some (J.bool false,(fw a))/\bN 0 150 (Code.loop (bu 37 1)) [(1,J.aT 0),(4,.str b),(10,.V 2)] (nd a) (.exit 2) [(1,J.aT 0),(4,.str b),(10,f)] d/\g (e2) (qb d))/\(¬e=0->bt env cr (a.M+12) (ba [(99,.aJ),(96,.aK)]) (fw a) (Op.pick (Operand.tmp 96) (Operand.tmp 99) (Operand.const (Value.bool false)))=some (J.bool false,(fw a))/\bN 0 150 (Code.loop (bu 37 1)) [(1,J.aT 0),(4,.str b),(10,.V 2)] (nd a) (.exit 2) [(1,J.aT 0),(4,.str b),(10,f)] d/\g (e2) (qb d)))/\(¬c<25->bt env cr (a.M+12) (ba [(99,.tuple []),(96,.aJ)]) (fw a) (Op.pick (Operand.tmp 96) (Operand.tmp 99) (Operand.const (Value.bool false)))=some (J.bool false,(fw a))/\bN 0 150 (Code.loop (bu 37 1)) [(1,J.aT 0),(4,.str b),(10,.V 2)] (nd a) (.exit 2) [(1,J.aT 0),(4,.str b),(10,f)] d/\g (e2) (qb d)))/\(¬21<=c->bt env cr (a.M+12) (ba [(99,.tuple []),(96,.aJ)]) (fw a) (Op.pick (Operand.tmp 96) (Operand.tmp 99) (Operand.const (Value.bool false)))=some (J.bool false,(fw a))/\bN 0 150 (Code.loop (bu 37 1)) [(1,J.aT 0),(4,.str b),(10,.V 2)] (nd a) (.exit 2) [(1,J.aT 0),(4,.str b),(10,f)] d/\g (e2) (qb d))) :
 bl 37 [bb 2 c e 0 0 []] bG g :=
 bm bL (ab 1002<|ab 1003<|ap 1004 (.str b)<|ap 3002 .aK<|ap 3006 .aJ<|.aG (.keep [1,4,8,9])<|.aG (.loop [(1,J.aT 0),(4,.str b),(8,.str [65,66,67,68,72,70]),(9,h)] a (.exit 0))<|ap 21001 (.av c)<|.al 21002 (ap 21005 (.av c)<|.al 21006 (ap 21010 (.ac e)<|.al 21011 (ye b d f) (ye b d f)) (ye b d f)) (ye b d f)) i
abbrev eW(k m:Nat):aa:=dl (bb 2 k m 0 0 [])
abbrev uO:Bytes:=[65,66,67,68,72,70]
abbrev iY(d:Bytes)(v:J):bc:=[(1,.ptr (some ⟨0,0,0,0,6⟩)),(4,.str d),(8,.str uO),(9,v)]
abbrev hQ(d:Bytes)(v:J):bc:=[(1,.ptr (some ⟨0,0,0,0,6⟩)),(4,.str d),(10,v)]
def r1(k m:Nat)(d:Bytes)(i:Int)(h:T)(ab:h.get 0=some (eW k m)):bW 0 150 (iY d (.V i)) h (iY d (.V i)) (T.bO 40 [(0,eW k m)]):=by have aQ:T.rows 40 [(0,eW k m)]=T.bO 40 [(0,eW k m)]:= ao;rw [<-aQ];exact bW.drop (K:=40) (l:=[(0,eW k m)]) (by simp only [ei,hS,ab]) (by rfl) (by rfl) (by rfl) (aX.cons (by simp [bR,Go.br.b3]) (aX.cons trivial (aX.cons trivial (aX.cons trivial aX.nil)))) (aX.cons (uM _ _ _ _) aX.nil)
def r2(k m:Nat)(d:Bytes)(i:Int)(h:T)(ab:h.get 0=some (eW k m)):bW 0 150 (hQ d (.V i)) h (hQ d (.V i)) (T.bO 90 [(0,eW k m)]):=by have aQ:T.rows 90 [(0,eW k m)]=T.bO 90 [(0,eW k m)]:= ao;rw [<-aQ];exact bW.drop (K:=90) (l:=[(0,eW k m)]) (by simp only [ei,hS,ab]) (by rfl) (by rfl) (by rfl) (aX.cons (by simp [bR,Go.br.b3]) (aX.cons trivial (aX.cons trivial aX.nil))) (aX.cons (uM _ _ _ _) aX.nil)
def J0(ah:i<6):∃u a:Nat,∃s:Bytes,c' (bi.D env) 9 (.str uO) (.V (i:Nat))=some (.ac (u:Nat))/\dW (bi.D env) 9 (.str uO) (some (.V (i:Nat))) (some (.V ((i:Nat)+1))) none=some (.str s)/\s.length=1/\a=5+i/\∀H,be 64 [.ac (u:Nat)] H (.av (a:Nat)) H:=by
 have q:∀n,n<8-> ∀H,be 64 [.ac ((n+65:Nat):Nat)] H (.av (JP (n+65):Nat)) H:=λn aw H=>JQ (WD ⟨n,aw⟩) (by intro a b;rw [cF.1 b];exact b0.int _ _) H
 have aj:i=0\/i=1\/i=2\/i=3\/i=4\/i=5:= A;rcases aj with rfl|rfl|rfl|rfl|rfl|rfl
 .exact⟨65,5,[65],ao,ao,rfl,rfl,q 0 A⟩
 .exact⟨66,6,[66],ao,ao,rfl,rfl,q 1 A⟩
 .exact⟨67,7,[67],ao,ao,rfl,rfl,q 2 A⟩
 .exact⟨68,8,[68],ao,ao,rfl,rfl,q 3 A⟩
 .exact⟨72,9,[72],ao,ao,rfl,rfl,q 7 A⟩
 .exact⟨70,10,[70],ao,ao,rfl,rfl,q 5 A⟩
def J1(k m:Nat)(d:Bytes)(i:Nat):Prop:= ∃v H',
 (dd 0 150 (bu 37 0) (iY d (.int .i64 (i:Nat))) (T.bO 40 [(0,eW k m)]) (.exit 0) (iY d v) H'/\H'.get 0=some (eW k m)/\¬(5+i<=k/\k<=10)) \/
 ∃s,dd 0 150 (bu 37 0) (iY d (.int .i64 (i:Nat))) (T.bO 40 [(0,eW k m)]) .ret [(1,.ptr (some ⟨0,0,0,0,6⟩)),(2,.str s),(3,.bool true),(4,.str d),(8,.str uO),(9,v)] H'/\5<=k/\k<=10
def J2(k m:Nat)(d:Bytes)(z:d.length<100):∀(t i:Nat),6-i<=t->i<=6->J1 k m d i:=by
 have fin:∀i,i=6->J1 k m d i:=by intro i ah;obtain⟨e,b,Y,c,rfl,rfl,ab⟩:=yb i (k:Nat) (m:Nat) 0 0 d [] [] (λe b Y=>e=.exit 0/\b=iY d (.V (i:Nat))/\Y.get 0=some (eW k m)) ⟨λh=>absurd h A,λ_=>⟨rfl,rfl,rfl⟩⟩;exact⟨_,_,.inl ⟨b2.last au c,ab,A⟩⟩
 intro t;induction t with
 |zero=>exact λi q ah=>fin i A
 |succ t ih =>
  intro i q ah;by_cases aj:i<6
  .obtain⟨u,a,s,Y,ag,x,y,l⟩:=J0 aj;have r:((i:Int)+1)=((i+1:Nat):Int):= A;have hw:(if(27::91::49::59::d:Bytes).length+s.length<2^62 then some (J.str (27::91::49::59::d++s))else none)=some (J.str (27::91::49::59::d++s)):=az (by simp only [bK];omega)
   obtain⟨e,b,w,c,o⟩:=yb i (k:Nat) (m:Nat) (a:Nat) (u:Nat) d s (27::91::49::59::d++s) (λe b Y=>(e=.normal/\b=iY d (.V ((i:Int)+1))/\Y.get 0=some (eW k m)/\a≠k)\/ ∃s,e=.ret/\b=[(1,.ptr (some ⟨0,0,0,0,6⟩)),(2,.str s),(3,.bool true),(4,.str d),(8,.str uO),(9,.V (i:Nat))]/\a=k)
    ⟨λ_=>⟨Y,⟨l _⟩,n4 _ _,λe=>⟨λ_=>⟨⟨A,A⟩,ag,by show 2+s.length+1<=2^62;omega,.inr ⟨_,rfl,rfl,A⟩⟩,λ_=>⟨by show 4+d.length+1<=2^62;omega,⟨A,A⟩,ag,hw,.inr ⟨_,rfl,rfl,A⟩⟩⟩,λe=>⟨⟨A,A⟩,.inl ⟨rfl,rfl,rfl,A⟩⟩⟩,λh=>absurd A h⟩
   rcases o with ⟨rfl,rfl,ab,B⟩|⟨g,rfl,rfl,he⟩
   .obtain⟨v,H',n⟩:=ih (i+1) A A;rw [r]at c;rcases n with ⟨f,p,j⟩|⟨g,f,j⟩
    .exact⟨v,H',.inl ⟨b2.round c (r1 k m d _ _ ab) f,p,A⟩⟩
    .exact⟨v,H',.inr ⟨g,b2.round c (r1 k m d _ _ ab) f,j⟩⟩
   .exact⟨_,_,.inr ⟨g,b2.last au c,A,A⟩⟩
  .exact fin i A
def r3(k:Nat):Prop:=(11<=k/\k<=14)\/(21<=k/\k<=32)
def WH:∀n:Fin 30,2<=n.val->n.val≠4->n.val≠7->n.val≠8->(jv n.val=0\/(11<=jv n.val/\jv n.val<=14)\/(21<=jv n.val/\jv n.val<=32)):= aC
def J3:∀k:Fin 33,((11<=k.val/\k.val<=14)\/(21<=k.val/\k.val<=32))-> ∃n:Fin 30,2<=n.val/\n.val≠4/\n.val≠7/\n.val≠8/\jv n.val=k.val:= aC
def J4(aw:n<30)(H:T):be 65 [.V (n:Nat)] H (.av (jv n:Nat)) H:=JQ (WC ⟨n,aw⟩) (by intro a b;rw [cF.1 b];exact b0.int _ _) H
def J5(k m:Nat)(d:Bytes)(i:Nat):Prop:= ∃v H',
 (dd 0 150 (bu 37 1) (hQ d (.int .i64 (i:Nat))) (T.bO 90 [(0,eW k m)]) (.exit 2) (hQ d v) H'/\∀n,i<=n->n<30->n≠4->n≠7->n≠8->jv n≠k) \/
 ∃s,dd 0 150 (bu 37 1) (hQ d (.int .i64 (i:Nat))) (T.bO 90 [(0,eW k m)]) .ret [(1,.ptr (some ⟨0,0,0,0,6⟩)),(2,.str s),(3,.bool true),(4,.str d),(10,v)] H'/\r3 k
def J6(k m:Nat)(d:Bytes)(K:d.length<100)(L:0<k):∀(t i:Nat),30-i<=t->2<=i->i<=30->J5 k m d i:=by
 have fin:∀i,i=30->J5 k m d i:=by intro i ah;obtain⟨e,f,Y,g,rfl,rfl,_⟩:=yc i (k:Nat) (m:Nat) 0 d [] [] [] [] (λe f Y=>e=.exit 2/\f=hQ d (.V (i:Nat))/\True) ⟨λh=>absurd h A,λ_=>⟨rfl,rfl,trivial⟩⟩;exact⟨_,_,.inl ⟨b2.last au g,λn Y ag=> A⟩⟩
 intro t;induction t with
 |zero=>exact λi D ag ah=>fin i A
 |succ t ih =>
  intro i D ag ah;by_cases aj:i<30
  .have E :((i:Int)+1)=((i+1:Nat):Int):= A;have hs:=j5 (n:=i) (k:=1) (by simp;omega);have u:=J4 aj;have o:=l' (n:=i) A;have r:=WH ⟨i,aj⟩ ag;generalize decDigits i=s at hs o;simp only at r;have j:∀{x y:Bytes},x.length+y.length<2^40->(if x.length+y.length<2^62 then some (J.str (x++y))else none)=some (J.str (x++y)):=λh=>az A
   have C:∃e f Y,bN 0 150 (bu 37 1) (hQ d (.V (i:Nat))) (T.bO 90 [(0,eW k m)]) e f Y/\((e=.normal/\f=hQ d (.V ((i:Int)+1))/\Y.get 0=some (eW k m)/\(i≠4->i≠7->i≠8->jv i≠k))\/ ∃s,e=.ret/\f=[(1,.ptr (some ⟨0,0,0,0,6⟩)),(2,.str s),(3,.bool true),(4,.str d),(10,.V (i:Nat))]/\r3 k):=by
    have no:∀{e:b8}{f:bc}{Y:T},e=.normal->f=hQ d (.V ((i:Int)+1))->Y.get 0=some (eW k m)->(i≠4->i≠7->i≠8->jv i≠k)->(e=.normal/\f=hQ d (.V ((i:Int)+1))/\Y.get 0=some (eW k m)/\(i≠4->i≠7->i≠8->jv i≠k))\/ ∃s,e=.ret/\f=[(1,.ptr (some ⟨0,0,0,0,6⟩)),(2,.str s),(3,.bool true),(4,.str d),(10,.V (i:Nat))]/\r3 k:=λa b c d=> .inl ⟨a,b,c,d⟩
    refine yc i (k:Nat) (m:Nat) (jv i:Nat) d s (27::91::s++[59]++d++[126]) (27::91::s++[126]) (27::91::s++[59]) _
     ⟨λ_=>⟨λF=>⟨⟨A,A⟩,no rfl rfl rfl (λh=>absurd A h)⟩,λN=>⟨λG=>⟨⟨A,A⟩,no rfl rfl rfl (λ_ h=>absurd A h)⟩,λO=>⟨λH=>⟨⟨A,A⟩,no rfl rfl rfl (λ_ _ h=>absurd A h)⟩,
      λP=>⟨⟨u _⟩,n4 _ _,λe=>⟨λ_=>⟨λ_=>⟨⟨o _⟩,by show 2+s.length+1<=2^62;omega,j (by simp only [bK,cq];omega),.inr ⟨_,rfl,rfl,?_⟩⟩,
       λ_=>⟨⟨o _⟩,by show 2+s.length+1<=2^62;omega,j (by simp only [bK,cq];omega),by show _+1<=2^62;simp only [dt,bK,cq];omega,j (by simp only [dt,bK,cq];omega),.inr ⟨_,rfl,rfl,?_⟩⟩⟩,λh=>absurd A h⟩,
       λe=>⟨⟨A,A⟩,no rfl rfl rfl (λ_ _ _ h=>e A)⟩⟩⟩⟩⟩,λh=>absurd A h⟩
    all_goals
     have:=r A A A;unfold r3;omega
   obtain⟨e,f,I,g,z⟩:=C;rcases z with ⟨rfl,rfl,ab,B⟩|⟨q,rfl,rfl,he⟩
   .obtain⟨v,H',w⟩:=ih (i+1) A A A;rw [E]at g;rcases w with ⟨l,p⟩|⟨q,l,p⟩
    .refine⟨v,H',.inl ⟨b2.round g (r2 k m d _ _ ab) l,λn cw cy et il jQ=> ?_⟩⟩;by_cases e:n=i
     .subst e;exact B et il jQ
     .exact p n A cy et il jQ
    .exact⟨v,H',.inr ⟨q,b2.round g (r2 k m d _ _ ab) l,p⟩⟩
   .exact⟨_,_,.inr ⟨q,b2.last au g,he⟩⟩
  .exact fin i A
def eX(k:Nat):Bool:=Nat.ble 1 k&&Nat.ble k 14 || Nat.ble 21 k&&Nat.ble k 32
def J7(Y:1<=k)(a:k<=4):∃n:Nat,n<128/\(aa.an [J.int .i64 0,J.int .i64 13,J.int .i64 9,J.int .i64 127,J.int .i64 27] 1 true).elem? 0 (0+k)=some (.V (n:Nat)):=by
 have aj:k=1\/k=2\/k=3\/k=4:= A;rcases aj with rfl|rfl|rfl|rfl
 .exact⟨13,aC,rfl⟩
 .exact⟨9,aC,rfl⟩
 .exact⟨127,aC,rfl⟩
 .exact⟨27,aC,rfl⟩
def WI(Y:1<=k)(N:k<=32)(hm:m<=7)(H:T):∃s,be 37 [bp ⟨2,k,m,0,0,[]⟩] H (.tuple [.str s,.bool (eX k)]) H:=by
 have g:=l' (n:=m+1) A;have hs:=j5 (n:=m+1) (k:=9) (by simp;omega);generalize decDigits (m+1)=d at hs g;have B:d.length<100:= A;have fin:(∃v Y,be 37 [bb 2 k m 0 0 []] ⟨0,.nil⟩ v Y/\∃t,v=.tuple [.str t,.bool (eX k)])-> ∃s,be 37 [bp ⟨2,k,m,0,0,[]⟩] H (.tuple [.str s,.bool (eX k)]) H:=fun⟨v,Y,h,t,e⟩=>⟨t,bj.bU ⟨v,Y,h,e⟩ rfl rfl H⟩
 have p:(1<=k/\k<=14)\/(21<=k/\k<=32)->eX k=true:=by intro h;simp only [eX,eC,cC,Nat.ble_eq];exact h
 have not:¬((1<=k/\k<=14)\/(21<=k/\k<=32))->eX k=false:=by intro h;rw [gL];intro q;simp only [eX,eC,cC,Nat.ble_eq]at q;exact h q
 refine fin ?_;by_cases L:k<=4
 .rw [p A];obtain⟨n,aw,E⟩:=J7 Y L;obtain⟨s,f⟩:=Dn (c:=n) (m:=m) A hm ⟨0,.nil⟩;have f:∀K,be 63 [.V (n:Nat),.ac (m:Nat)] K (.str s) K:=λK=>bj.bU ⟨_,_,f,rfl⟩ rfl rfl K
  have G:a6 (bi.D env) 3 ⟨9,0,0+Int.toNat (k:Nat),0,1⟩ (T.bO 25 [(0,eW k m),(9,aa.an [.V 0,.V 13,.V 9,.V 127,.V 27] 1 true)])=some (.V (n:Nat)):=by have C:(bi.D env 3).map (λd=>d.kind.isAgg)=some false:= ao;obtain⟨x,Y,ag⟩:=cb.1 C;have ab:(T.bO 25 [(0,eW k m),(9,aa.an [.V 0,.V 13,.V 9,.V 127,.V 27] 1 true)]).get 9=some (aa.an [.V 0,.V 13,.V 9,.V 127,.V 27] 1 true):=rfl;rw [fS];unfold a6;rw [Y,ab];simp only [E,eK,ag];simp
  exact JU (k:Nat) (m:Nat) (n:Nat) d s (λv _=> ∃t,v=.tuple [.str t,.bool true]) ⟨⟨A,A⟩,⟨A,A⟩,⟨g _⟩,by simp;omega,by simp;omega,⟨A,A⟩,G,⟨A,A⟩,
   λ_=>⟨_,rfl⟩,λ_=>⟨λ_=>⟨λ_=>⟨λ_=>⟨λ_=>⟨_,rfl⟩,λ_=>⟨⟨f _⟩,_,rfl⟩⟩,λ_=>⟨⟨f _⟩,_,rfl⟩⟩,λ_=>⟨_,rfl⟩⟩,λ_=>⟨λ_=>⟨λ_=>⟨_,rfl⟩,λ_=>⟨⟨f _⟩,_,rfl⟩⟩,λ_=>⟨⟨f _⟩,_,rfl⟩⟩⟩⟩
 obtain⟨x,H1,⟨u,ab,F⟩|⟨s,u,F⟩⟩:=J2 k m d B 6 0 A A
 .have i:=(cO.dn u).pre (show bW 0 150 _ (T.bO 21 [(0,eW k m),(9,aa.an [.V 0,.V 13,.V 9,.V 127,.V 27] 1 true)]) _ _ from r1 k m d 0 _ rfl);have a:∀j,(⟨H1.M+j,H1.aF⟩:T).get 0=some (eW k m):=λj=>ab
  by_cases r:21<=k/\k<25/\m=0
  .rw [p A];obtain⟨l,o,rfl⟩:=r
   obtain⟨s,I,O⟩:∃s,dW (bi.D env) 9 (.str [80,81,82,83]) (some (.av ((k:Nat)-21))) (some (.av ((k:Nat)-21+1))) none=some (.str s)/\s.length<=1:=by
    have aj:k=21\/k=22\/k=23\/k=24:= A;rcases aj with rfl|rfl|rfl|rfl
    .exact⟨[80],ao,aC⟩
    .exact⟨[81],ao,aC⟩
    .exact⟨[82],ao,aC⟩
    .exact⟨[83],ao,aC⟩
   exact JW (k:Nat) (0:Nat) d s H1 x (λv _=> ∃t,v=.tuple [.str t,.bool true]) ⟨⟨A,A⟩,⟨A,A⟩,⟨g _⟩,by simp;omega,by simp;omega,i,fH (a 13),by simp;omega,fH (a 13),by simp;omega,l8 (a 13),rfl,
    fH (a 24),⟨A,A⟩,fH (a 24),⟨A,A⟩,⟨A,A⟩,I,by show 2+s.length+1<=2^62;omega,_,rfl⟩
  .obtain⟨y,H2,⟨w,z⟩|⟨s,w,z⟩⟩:=J6 k m d B Y 28 2 A A A
   .have b:=(cO.dn w).pre (show bW 0 150 _ (⟨H1.M+13+1,H1.aF⟩:T) _ _ from r2 k m d 2 _ ab);rw [not (λh=> ?_)]
    .exact JZ (k:Nat) (m:Nat) d [] H1 H2 x y (λv _=> ∃t,v=.tuple [.str t,.bool false]) ⟨⟨A,A⟩,⟨A,A⟩,⟨g _⟩,by simp;omega,by simp;omega,i,fH (a 13),
     λl=>⟨fH (a 13),λo=>⟨l8 (a 13),λaM=>absurd (⟨A,A,A⟩:21<=k/\k<25/\m=0) r,λaM=>⟨ao,b,_,rfl⟩⟩,λo=>⟨ao,b,_,rfl⟩⟩,λl=>⟨ao,b,_,rfl⟩⟩
    .have:=J3 ⟨k,A⟩ (by show(11<=k/\k<=14)\/(21<=k/\k<=32);omega);obtain⟨n,cw,cy,et,il,jQ⟩:=this;exact z n.val cw n.isLt cy et il jQ
   .have b:=(cO.dn w).pre (show bW 0 150 _ (⟨H1.M+13+1,H1.aF⟩:T) _ _ from r2 k m d 2 _ ab);rw [p (by unfold r3 at z;omega)]
    exact JX (k:Nat) (m:Nat) d s H1 H2 x y (λv _=> ∃t,v=.tuple [.str t,.bool true]) ⟨⟨A,A⟩,⟨A,A⟩,⟨g _⟩,by simp;omega,by simp;omega,i,fH (a 13),
     λl=>⟨fH (a 13),λo=>⟨l8 (a 13),λaM=>absurd (⟨A,A,A⟩:21<=k/\k<25/\m=0) r,λaM=>⟨ao,b,_,rfl⟩⟩,λo=>⟨ao,b,_,rfl⟩⟩,λl=>⟨ao,b,_,rfl⟩⟩
 .have i:=(cO.dn u).pre (show bW 0 150 _ (T.bO 21 [(0,eW k m),(9,aa.an [.V 0,.V 13,.V 9,.V 127,.V 27] 1 true)]) _ _ from r1 k m d 0 _ rfl);rw [p A];exact JV (k:Nat) (m:Nat) d s H1 x (λv _=> ∃t,v=.tuple [.str t,.bool true]) ⟨⟨A,A⟩,⟨A,A⟩,⟨g _⟩,by simp;omega,by simp;omega,i,_,rfl⟩
abbrev yf(a b:Int):T:=(af 39 [(0,aL (ef a b)),(17,aL (ef a b))])
def Dp(b a:Int)(d:Bytes)(c:Bool)(e:aU)(f:(bz (decide (a>7)))/\bk 37 [(ef b a)] (yf b a) (.tuple [.str d,.bool c]) (yf b a)/\(c=true->e (.tuple [.str d,.aK]) (yf b a))/\(c=false->e (.tuple [.str d,.aJ]) (yf b a))) :
 bl 20 [bb 2 b a 0 0 []] bG e :=
 bm bL (he 7001<|ap 7006 .aJ<|ap 9001 (.tuple [.str d,.bool c])<|.al 9003 .nil .nil) f
abbrev yg(a b:Int):T:=(af 47 [(0,aL (eN a b)),(31,aL (eN a b))])
abbrev uP(a b:Int):T:=(af 49 [(0,aL (eN a b)),(31,aL (eN a b))])
abbrev Dq(a b:Int):T:=(af 51 [(0,aL (eN a b)),(31,aL (eN a b))])
def WJ(a b:Int)(d:Bytes)(c:aU)(e:(bz (decide (b>7)))/\(a<32->c (e2) (uP a b))/\(¬a<32->(a=127->c (e2) (uP a b))/\(¬a=127->bk 35 [.av a] (yg a b) .aK (yg a b)/\bk 36 [(eN a b)] (Dq a b) (.str d) (Dq a b)/\c (.tuple [.str d,.aK]) (Dq a b)))) :
 bl 20 [bb 1 a b 0 0 []] bG c :=
 bm bL (he 3001<|ap 3006 .aJ<|.al 3011 .nil<|.al 3016 .nil<|ap 3021 .aK<|ap 5001 (.str d) .nil) e
def J8(a b:Int)(e:Bytes)(c:aU)(d:(bz (decide (b>7)))/\(a<32->c (e2) (uP a b))/\(¬a<32->(a=127->c (e2) (uP a b))/\(¬a=127->bk 35 [.av a] (yg a b) .aJ (yg a b)/\c (e2) (uP a b)))) :
 bl 20 [bb 1 a b 0 0 []] bG c :=
 bm bL (he 3001<|ap 3006 .aJ<|.al 3011 .nil<|.al 3016 .nil<|ap 3021 .aJ .nil) d
abbrev nf(b a c:Int):J:=J.agg [.bA b,.av a,.ac c,.V 0,.V 0,.str []]
def J9(b a c:Int)(e:Bytes)(d:aU)(f:bk 20 [(nf b a c)] (af 10 [(0,aL (nf b a c))]) (.tuple [.str e,.aJ]) (af 10 [(0,aL (nf b a c))])/\d (e2) (af 24 [(0,aL (nf b a c))])) :
 bl 22 [bb b a c 0 0 []] bG d :=
 bm bL (ap 1001 (.tuple [.str e,.aJ]) .nil) f
abbrev ng:J:=J.str [117,112]
abbrev nh:J:=J.str [116,97,98]
abbrev ni:J:=J.str [101,110,100]
abbrev nj:J:=J.str [100,111,119,110]
abbrev nk:J:=J.str [104,111,109,101]
abbrev nl:J:=J.str [108,101,102,116]
abbrev WK(a:Bytes):b7:=(ab 14005<|ap 14006 (.str a)<|ab 14007 .nil)
abbrev WL(a:Bytes):b7:=(ab 15006<|ap 15007 (.str a)<|ab 15008 .nil)
abbrev nn:J:=J.str [101,110,116,101,114]
abbrev np:J:=J.str [114,105,103,104,116]
abbrev nq:J:=J.str [101,115,99,97,112,101]
abbrev nr:J:=J.str [112,97,103,101,117,112]
abbrev ns:J:=J.str [100,101,108,101,116,101]
abbrev nt:J:=J.str [105,110,115,101,114,116]
abbrev nu:J:=J.str [112,97,103,101,100,111,119,110]
abbrev nv:J:=J.str [98,97,99,107,115,112,97,99,101]
abbrev J'(b a:Bytes):b7:=(.al 13005 (ab 14004 (WK b))<|ab 15004<|ab 15005 (WL a))
abbrev Dr(a b:Int):T:=(af 61 [(0,aL (ef a b)),(43,aa.an [nn,nh,nv,nq,ng,nj,np,nl,nk,ni,nt,ns,nr,nu] 1 true)])
abbrev yh(a b:Int):T:=(af 62 [(0,aL (ef a b)),(43,aa.an [nn,nh,nv,nq,ng,nj,np,nl,nk,ni,nt,ns,nr,nu] 1 true)])
abbrev qc(a b:Int):T:=(af 64 [(0,aL (ef a b)),(46,aa.an [nn,nh,nv,nq,ng,nj,np,nl,nk,ni,nt,ns,nr,nu] 1 true)])
abbrev ma(a b:Int):T:=(af 65 [(0,aL (ef a b)),(46,aa.an [nn,nh,nv,nq,ng,nj,np,nl,nk,ni,nt,ns,nr,nu] 1 true)])
abbrev qd(a b:Int):T:=(af 67 [(0,aL (ef a b)),(49,aa.an [nn,nh,nv,nq,ng,nj,np,nl,nk,ni,nt,ns,nr,nu] 1 true)])
abbrev mb(a b:Int):T:=(af 68 [(0,aL (ef a b)),(49,aa.an [nn,nh,nv,nq,ng,nj,np,nl,nk,ni,nt,ns,nr,nu] 1 true)])
abbrev Ds(a b:Int):T:=(af 70 [(0,aL (ef a b)),(52,aa.an [nn,nh,nv,nq,ng,nj,np,nl,nk,ni,nt,ns,nr,nu] 1 true)])
abbrev yi(a b:Int):T:=(af 71 [(0,aL (ef a b)),(52,aa.an [nn,nh,nv,nq,ng,nj,np,nl,nk,ni,nt,ns,nr,nu] 1 true)])
abbrev yj(b a:Bytes):b7:=(.al 9003 (he 12000<|ab 13002 (J' b a))<|he 12000<|ab 13002 (J' b a))
def WM(a b:Int)(f d c:Bytes)(e:aU)(g:bk 20 [(ef a b)] (af 10 [(0,aL (ef a b))]) (.tuple [.str f,.aK]) (af 10 [(0,aL (ef a b))])/\((da 4)/\dP .u8 (b.tdiv 4))/\(da 2)/\((b.tdiv 4).tmod 2=1->((da 2)/\dP .u8 (b.tdiv 2))/\(da 2)/\((b.tdiv 2).tmod 2=1->(da 2)/\(b.tmod 2=1->(bd (a))/\(a<=14->(cf (a-1))/\(0<=a-1/\a-1<14)/\a6 env.D 9 ⟨52,0,0+Int.toNat (a-1),0,1⟩ (Ds a b)=some (J.str d)/\bY (List.length [(99:UInt8),116,114,108,43,97,108,116,43,115,104,105,102,116,43]+d.length)/\e (.tuple [.str ((99:UInt8)::116::114::108::43::97::108::116::43::115::104::105::102::116::43::d),.aK]) (Ds a b))/\(¬a<=14->(bd (a))/\(bd (a-21))/\(bd (a-21+1))/\bk 47 [.V (a-21+1)] (yi a b) (.str c) (yi a b)/\bY (List.length [(99:UInt8),116,114,108,43,97,108,116,43,115,104,105,102,116,43,102]+c.length)/\e (.tuple [.str ((99:UInt8)::116::114::108::43::97::108::116::43::115::104::105::102::116::43::102::c),.aK]) (yi a b)))/\(¬(b.tmod 2)=1->(bd (a))/\(a<=14->(cf (a-1))/\(0<=a-1/\a-1<14)/\a6 env.D 9 ⟨49,0,0+Int.toNat (a-1),0,1⟩ (qd a b)=some (J.str d)/\bY (List.length [(99:UInt8),116,114,108,43,97,108,116,43]+d.length)/\e (.tuple [.str ((99:UInt8)::116::114::108::43::97::108::116::43::d),.aK]) (qd a b))/\(¬a<=14->(bd (a))/\(bd (a-21))/\(bd (a-21+1))/\bk 47 [.V (a-21+1)] (mb a b) (.str c) (mb a b)/\bY (List.length [(99:UInt8),116,114,108,43,97,108,116,43,102]+c.length)/\e (.tuple [.str ((99:UInt8)::116::114::108::43::97::108::116::43::102::c),.aK]) (mb a b))))/\(¬((b.tdiv 2).tmod 2)=1->(da 2)/\(b.tmod 2=1->(bd (a))/\(a<=14->(cf (a-1))/\(0<=a-1/\a-1<14)/\a6 env.D 9 ⟨49,0,0+Int.toNat (a-1),0,1⟩ (qd a b)=some (J.str d)/\bY (List.length [(99:UInt8),116,114,108,43,115,104,105,102,116,43]+d.length)/\e (.tuple [.str ((99:UInt8)::116::114::108::43::115::104::105::102::116::43::d),.aK]) (qd a b))/\(¬a<=14->(bd (a))/\(bd (a-21))/\(bd (a-21+1))/\bk 47 [.V (a-21+1)] (mb a b) (.str c) (mb a b)/\bY (List.length [(99:UInt8),116,114,108,43,115,104,105,102,116,43,102]+c.length)/\e (.tuple [.str ((99:UInt8)::116::114::108::43::115::104::105::102::116::43::102::c),.aK]) (mb a b)))/\(¬(b.tmod 2)=1->(bd (a))/\(a<=14->(cf (a-1))/\(0<=a-1/\a-1<14)/\a6 env.D 9 ⟨46,0,0+Int.toNat (a-1),0,1⟩ (qc a b)=some (J.str d)/\bY (List.length [(99:UInt8),116,114,108,43]+d.length)/\e (.tuple [.str ((99:UInt8)::116::114::108::43::d),.aK]) (qc a b))/\(¬a<=14->(bd (a))/\(bd (a-21))/\(bd (a-21+1))/\bk 47 [.V (a-21+1)] (ma a b) (.str c) (ma a b)/\bY (List.length [(99:UInt8),116,114,108,43,102]+c.length)/\e (.tuple [.str ((99:UInt8)::116::114::108::43::102::c),.aK]) (ma a b)))))/\(¬((b.tdiv 4).tmod 2)=1->((da 2)/\dP .u8 (b.tdiv 2))/\(da 2)/\((b.tdiv 2).tmod 2=1->(da 2)/\(b.tmod 2=1->(bd (a))/\(a<=14->(cf (a-1))/\(0<=a-1/\a-1<14)/\a6 env.D 9 ⟨49,0,0+Int.toNat (a-1),0,1⟩ (qd a b)=some (J.str d)/\bY (List.length [(97:UInt8),108,116,43,115,104,105,102,116,43]+d.length)/\e (.tuple [.str ((97:UInt8)::108::116::43::115::104::105::102::116::43::d),.aK]) (qd a b))/\(¬a<=14->(bd (a))/\(bd (a-21))/\(bd (a-21+1))/\bk 47 [.V (a-21+1)] (mb a b) (.str c) (mb a b)/\bY (List.length [(97:UInt8),108,116,43,115,104,105,102,116,43,102]+c.length)/\e (.tuple [.str ((97:UInt8)::108::116::43::115::104::105::102::116::43::102::c),.aK]) (mb a b)))/\(¬(b.tmod 2)=1->(bd (a))/\(a<=14->(cf (a-1))/\(0<=a-1/\a-1<14)/\a6 env.D 9 ⟨46,0,0+Int.toNat (a-1),0,1⟩ (qc a b)=some (J.str d)/\bY (List.length [(97:UInt8),108,116,43]+d.length)/\e (.tuple [.str ((97:UInt8)::108::116::43::d),.aK]) (qc a b))/\(¬a<=14->(bd (a))/\(bd (a-21))/\(bd (a-21+1))/\bk 47 [.V (a-21+1)] (ma a b) (.str c) (ma a b)/\bY (List.length [(97:UInt8),108,116,43,102]+c.length)/\e (.tuple [.str ((97:UInt8)::108::116::43::102::c),.aK]) (ma a b))))/\(¬((b.tdiv 2).tmod 2)=1->(da 2)/\(b.tmod 2=1->(bd (a))/\(a<=14->(cf (a-1))/\(0<=a-1/\a-1<14)/\a6 env.D 9 ⟨46,0,0+Int.toNat (a-1),0,1⟩ (qc a b)=some (J.str d)/\bY (List.length [(115:UInt8),104,105,102,116,43]+d.length)/\e (.tuple [.str ((115:UInt8)::104::105::102::116::43::d),.aK]) (qc a b))/\(¬a<=14->(bd (a))/\(bd (a-21))/\(bd (a-21+1))/\bk 47 [.V (a-21+1)] (ma a b) (.str c) (ma a b)/\bY (List.length [(115:UInt8),104,105,102,116,43,102]+c.length)/\e (.tuple [.str ((115:UInt8)::104::105::102::116::43::102::c),.aK]) (ma a b)))/\(¬(b.tmod 2)=1->(bd (a))/\(a<=14->(cf (a-1))/\(0<=a-1/\a-1<14)/\a6 env.D 9 ⟨43,0,0+Int.toNat (a-1),0,1⟩ (Dr a b)=some (J.str d)/\bY (([]:List UInt8).length+d.length)/\e (.tuple [.str d,.aK]) (Dr a b))/\(¬a<=14->(bd (a))/\(bd (a-21))/\(bd (a-21+1))/\bk 47 [.V (a-21+1)] (yh a b) (.str c) (yh a b)/\bY (List.length [(102:UInt8)]+c.length)/\e (.tuple [.str ((102:UInt8)::c),.aK]) (yh a b)))))) :
 bl 22 [bb 2 a b 0 0 []] bG e :=
 bm bL (ap 1001 (.tuple [.str f,.aK])<|ab 5002<|ab 5003<|.al 5004 (ab 7002<|ab 7003<|.al 7004 (ab 9002 (yj d c))<|ab 9002 (yj d c))<|ab 7002<|ab 7003<|.al 7004 (ab 9002 (yj d c))<|ab 9002 (yj d c)) g
abbrev Ka(a:Bytes):b7:=(.al 19000 .nil<|ap 21003 (.str a)<|ab 21004 .nil)
abbrev Kb(a:Bytes):b7:=(.al 9003 (.al 17000 .nil (Ka a))<|.al 17000 .nil (Ka a))
abbrev yk(a b:Int):T:=(af 51 [(0,aL (eN a b))])
abbrev qe(a b:Int):T:=(af 53 [(0,aL (eN a b))])
abbrev yl(a b:Int):T:=(af 54 [(0,aL (eN a b))])
abbrev j8(a b:Int):T:=(af 56 [(0,aL (eN a b))])
abbrev lq(a b:Int):T:=(af 59 [(0,aL (eN a b))])
abbrev ym(a b:Int):T:=(af 62 [(0,aL (eN a b))])
abbrev Kc(a:Bytes):b7:=(ab 7002<|ab 7003<|.al 7004 (ab 9002 (Kb a))<|ab 9002 (Kb a))
def WN(a b:Int)(e c:Bytes)(d:aU)(f:bk 20 [(eN a b)] (af 10 [(0,aL (eN a b))]) (.tuple [.str e,.aK]) (af 10 [(0,aL (eN a b))])/\((da 4)/\dP .u8 (b.tdiv 4))/\(da 2)/\((b.tdiv 4).tmod 2=1->((da 2)/\dP .u8 (b.tdiv 2))/\(da 2)/\((b.tdiv 2).tmod 2=1->(da 2)/\(b.tmod 2=1->(a=32->d (.tuple [.str [99,116,114,108,43,97,108,116,43,115,104,105,102,116,43,115,112,97,99,101],.aK]) (af 57 [(0,aL (eN a b))]))/\(¬a=32->(a=43->d (.tuple [.str [99,116,114,108,43,97,108,116,43,115,104,105,102,116,43,112,108,117,115],.aK]) (lq a b))/\(¬a=43->bk 48 [.av a] (ym a b) (.str c) (ym a b)/\bY (List.length [(99:UInt8),116,114,108,43,97,108,116,43,115,104,105,102,116,43]+c.length)/\d (.tuple [.str ((99:UInt8)::116::114::108::43::97::108::116::43::115::104::105::102::116::43::c),.aK]) (ym a b))))/\(¬(b.tmod 2)=1->(a=32->d (.tuple [.str [99,116,114,108,43,97,108,116,43,115,112,97,99,101],.aK]) (yl a b))/\(¬a=32->(a=43->d (.tuple [.str [99,116,114,108,43,97,108,116,43,112,108,117,115],.aK]) (j8 a b))/\(¬a=43->bk 48 [.av a] (lq a b) (.str c) (lq a b)/\bY (List.length [(99:UInt8),116,114,108,43,97,108,116,43]+c.length)/\d (.tuple [.str ((99:UInt8)::116::114::108::43::97::108::116::43::c),.aK]) (lq a b)))))/\(¬((b.tdiv 2).tmod 2)=1->(da 2)/\(b.tmod 2=1->(a=32->d (.tuple [.str [99,116,114,108,43,115,104,105,102,116,43,115,112,97,99,101],.aK]) (yl a b))/\(¬a=32->(a=43->d (.tuple [.str [99,116,114,108,43,115,104,105,102,116,43,112,108,117,115],.aK]) (j8 a b))/\(¬a=43->bk 48 [.av a] (lq a b) (.str c) (lq a b)/\bY (List.length [(99:UInt8),116,114,108,43,115,104,105,102,116,43]+c.length)/\d (.tuple [.str ((99:UInt8)::116::114::108::43::115::104::105::102::116::43::c),.aK]) (lq a b))))/\(¬(b.tmod 2)=1->(a=32->d (.tuple [.str [99,116,114,108,43,115,112,97,99,101],.aK]) (yk a b))/\(¬a=32->(a=43->d (.tuple [.str [99,116,114,108,43,112,108,117,115],.aK]) (qe a b))/\(¬a=43->bk 48 [.av a] (j8 a b) (.str c) (j8 a b)/\bY (List.length [(99:UInt8),116,114,108,43]+c.length)/\d (.tuple [.str ((99:UInt8)::116::114::108::43::c),.aK]) (j8 a b))))))/\(¬((b.tdiv 4).tmod 2)=1->((da 2)/\dP .u8 (b.tdiv 2))/\(da 2)/\((b.tdiv 2).tmod 2=1->(da 2)/\(b.tmod 2=1->(a=32->d (.tuple [.str [97,108,116,43,115,104,105,102,116,43,115,112,97,99,101],.aK]) (yl a b))/\(¬a=32->(a=43->d (.tuple [.str [97,108,116,43,115,104,105,102,116,43,112,108,117,115],.aK]) (j8 a b))/\(¬a=43->bk 48 [.av a] (lq a b) (.str c) (lq a b)/\bY (List.length [(97:UInt8),108,116,43,115,104,105,102,116,43]+c.length)/\d (.tuple [.str ((97:UInt8)::108::116::43::115::104::105::102::116::43::c),.aK]) (lq a b))))/\(¬(b.tmod 2)=1->(a=32->d (.tuple [.str [97,108,116,43,115,112,97,99,101],.aK]) (yk a b))/\(¬a=32->(a=43->d (.tuple [.str [97,108,116,43,112,108,117,115],.aK]) (qe a b))/\(¬a=43->bk 48 [.av a] (j8 a b) (.str c) (j8 a b)/\bY (List.length [(97:UInt8),108,116,43]+c.length)/\d (.tuple [.str ((97:UInt8)::108::116::43::c),.aK]) (j8 a b)))))/\(¬((b.tdiv 2).tmod 2)=1->(da 2)/\(b.tmod 2=1->(a=32->d (.tuple [.str [115,104,105,102,116,43,115,112,97,99,101],.aK]) (yk a b))/\(¬a=32->(a=43->d (.tuple [.str [115,104,105,102,116,43,112,108,117,115],.aK]) (qe a b))/\(¬a=43->bk 48 [.av a] (j8 a b) (.str c) (j8 a b)/\bY (List.length [(115:UInt8),104,105,102,116,43]+c.length)/\d (.tuple [.str ((115:UInt8)::104::105::102::116::43::c),.aK]) (j8 a b))))/\(¬(b.tmod 2)=1->(a=32->d (.tuple [.str [115,112,97,99,101],.aK]) (af 48 [(0,aL (eN a b))]))/\(¬a=32->(a=43->d (.tuple [.str [112,108,117,115],.aK]) (af 50 [(0,aL (eN a b))]))/\(¬a=43->bk 48 [.av a] (qe a b) (.str c) (qe a b)/\bY (([]:List UInt8).length+c.length)/\d (.tuple [.str c,.aK]) (qe a b))))))) :
 bl 22 [bb 1 a b 0 0 []] bG d :=
 bm bL (ap 1001 (.tuple [.str e,.aK])<|ab 5002<|ab 5003<|.al 5004 (Kc c) (Kc c)) f
def oK(e:aP):J:=match hz e with|some s=> .tuple [.str s,.bool true]|none=> .tuple [.str [],.bool false]
def WO{c:Nat}(hs:shown (c:Nat)=true)(hm:m<=7):(enc ⟨1,c,m,0,0,[]⟩).isSome=true:=by unfold enc;rw [ai (by show ¬(1:Int)=3;decide),ai (by show ¬(7:Int)<(m:Nat);omega),az ⟨rfl,rfl,hs⟩];rfl
def Kd(Y:1<=k)(b:k<=32)(hm:m<=7)(H:T):∃s,be 20 [bp ⟨2,k,m,0,0,[]⟩] H (.tuple [.str s,.bool (eX k)]) H:=by
 obtain⟨s,a⟩:=WI Y b hm ⟨0,.nil⟩;have a:∀K,be 37 [bp ⟨2,k,m,0,0,[]⟩] K (.tuple [.str s,.bool (eX k)]) K:=λK=>bj.bU ⟨_,_,a,rfl⟩ rfl rfl K
 refine⟨s,bj.bU (Dp (k:Nat) (m:Nat) s (eX k) (λv _=>v=.tuple [.str s,.bool (eX k)]) ⟨by simp;omega,⟨a _⟩,λh=>by rw [h],λh=>by rw [h]⟩) rfl rfl H⟩
def Ke{c:Nat}(hm:m<=7)(H:T):∃s,be 20 [bp ⟨1,c,m,0,0,[]⟩] H (.tuple [.str s,.bool (shown (c:Nat))]) H:=by
 have fin:(∃v Y,be 20 [bb 1 c m 0 0 []] ⟨0,.nil⟩ v Y/\∃t,v=.tuple [.str t,.bool (shown (c:Nat))])-> ∃s,be 20 [bp ⟨1,c,m,0,0,[]⟩] H (.tuple [.str s,.bool (shown (c:Nat))]) H:=fun⟨v,Y,h,t,e⟩=>⟨t,bj.bU ⟨v,Y,h,e⟩ rfl rfl H⟩
 refine fin ?_;have b:=Dm (c:Nat);cases a:lp (c:Nat)with
 |true =>
  rw [a]at b;have f:Scalar c:=by simp [lp]at a;unfold Scalar;omega
  obtain⟨s,d⟩:=WB f hm ⟨0,.nil⟩;have d:∀K,be 36 [bp ⟨1,c,m,0,0,[]⟩] K (.str s) K:=λK=>bj.bU ⟨_,_,d,rfl⟩ rfl rfl K
  refine WJ (c:Nat) (m:Nat) s (λv _=> ∃t,v=.tuple [.str t,.bool (shown (c:Nat))]) ⟨by simp;omega,λh=>⟨[],?_⟩,λh=>⟨λe=>⟨[],?_⟩,λn=>⟨⟨b _⟩,⟨d _⟩,s,?_⟩⟩⟩
  .rw [show shown (c:Nat)=false by rw [gL];intro q;simp [shown]at q;omega]
  .rw [show shown (c:Nat)=false by rw [gL];intro q;simp [shown]at q;omega]
  .rw [show shown (c:Nat)=true by simp [lp]at a;simp [shown];omega]
 |false =>
  rw [a]at b
  have aw:shown (c:Nat)=false:=by rw [gL]at a⊢;intro q;apply a;simp [shown]at q;simp [lp];omega
  rw [aw];exact J8 (c:Nat) (m:Nat) [] (λv _=> ∃t,v=.tuple [.str t,.bool false]) ⟨by simp;omega,λh=>⟨[],rfl⟩,λh=>⟨λe=>⟨[],rfl⟩,λn=>⟨⟨b _⟩,[],rfl⟩⟩⟩
def ec(a bx aN:Bool)(c:if a then Int.tmod (Int.tdiv (m:Nat) 4) 2=1 else ¬Int.tmod (Int.tdiv (m:Nat) 4) 2=1)(ag:if bx then Int.tmod (Int.tdiv (m:Nat) 2) 2=1 else ¬Int.tmod (Int.tdiv (m:Nat) 2) 2=1)(Y:if aN then Int.tmod (m:Nat) 2=1 else ¬Int.tmod (m:Nat) 2=1) :
 eO m=(if a then l7 else [])++((if bx then nb else [])++if aN then oI else []):=by
 have d:Int.tmod (Int.tdiv (m:Nat) 4) 2=((m/4%2:Nat):Int):=rfl;have aZ:Int.tmod (Int.tdiv (m:Nat) 2) 2=((m/2%2:Nat):Int):=rfl;have aQ:Int.tmod (m:Nat) 2=((m%2:Nat):Int):=rfl;rw [d]at c;rw [aZ]at ag;rw [aQ]at Y;unfold eO
 have q:∀{b:Bool}{n:Nat}{x:Bytes},(if b then(n:Int)=1 else ¬(n:Int)=1)->(if n=1 then x else [])=if b then x else []:=by
  intro b n x h;cases b with
  |true=>rw [az (by simp at h;omega)];rfl
  |false=>rw [ai (by simp at h;omega)];rfl
 rw [q c,q ag,q Y]
def oL{h:T}{z:Int}(ab:h.get q=some p')(ah:i<14)(c:Int.toNat z=i):a6 (bi.D env) 9 ⟨q,0,0+Int.toNat z,0,1⟩ h=some (.str (iX.getD i [])):=by
 have a:(bi.D env 9).map (λd=>d.kind.isAgg)=some false:= ao;obtain⟨x,Y,ag⟩:=cb.1 a
 have b:p'.elem? 0 (0+i)=some (.str (iX.getD i [])):=by rw [gw];exact JD ah
 unfold a6;rw [c,Y,ab];simp only [b,eK,ag];simp
def WQ{c:Nat}(hs:shown (c:Nat)=true)(hm:m<=7)(H:T):be 22 [bp ⟨1,c,m,0,0,[]⟩] H (.tuple [.str (eO m++lo c),.bool true]) H:=by
 have n:=(rN hs).1;rw [fS]at n;obtain⟨s,he⟩:=Ke hm ⟨0,.nil⟩;rw [hs]at he;have he:∀K,be 20 [bp ⟨1,c,m,0,0,[]⟩] K (.tuple [.str s,.bool true]) K:=λK=>bj.bU ⟨_,_,he,rfl⟩ rfl rfl K
 have g:=JK n;have r:=ti c
 have j:∀{k:Int},0<k->dP .u8 (Int.tdiv (m:Nat) k):=by intro k q;rw [yQ A];have Y:(0:Int)<=(m:Nat)/k:=Int.ediv_nonneg A A;have ag:(m:Int)/k<=(m:Nat):=Int.ediv_le_self _ A;show 0<=(m:Int)/k/\(m:Int)/k<=255;omega
 have t:0<(2:Int):= aC
 have f:∀{p:Bytes}(k:Nat),eO m=p->((c:Nat):Int)=(k:Nat)->k=32\/k=43->(J.tuple [.str (p++lo k),.bool true])=.tuple [.str (eO m++lo c),.bool true]:=by intro p k e h _;obtain rfl:c=k:= A;rw [e]
 have i:∀{p:Bytes},eO m=p-> ¬((c:Nat):Int)=32-> ¬((c:Nat):Int)=43->(J.tuple [.str (p++put c),.bool true])=.tuple [.str (eO m++lo c),.bool true]:=by intro p e Y ag;rw [e];unfold lo;rw [ai A,ai A]
 refine bj.bU (WN (c:Nat) (m:Nat) s (put c) (λv _=>v=.tuple [.str (eO m++lo c),.bool true]) ?_) rfl rfl H
 delta qe eN j8 yk lq yl ym
 have o:=j (by decide:(0:Int)<4);have l:=j (by decide:(0:Int)<2);exact⟨⟨he _⟩,⟨A,o⟩,A,λd=>⟨⟨A,l⟩,A,λag=>⟨A,λY=>⟨λa=>f 32 (ec true true true d ag Y) a (.inl rfl),λa=>⟨λb=>f 43 (ec true true true d ag Y) b (.inr rfl),λb=>⟨⟨g _⟩,by show _+1<=2^62;simp only [bK,cq];omega,i (ec true true true d ag Y) a b⟩⟩⟩,λY=>⟨λa=>f 32 (ec true true false d ag Y) a (.inl rfl),λa=>⟨λb=>f 43 (ec true true false d ag Y) b (.inr rfl),λb=>⟨⟨g _⟩,by show _+1<=2^62;simp only [bK,cq];omega,i (ec true true false d ag Y) a b⟩⟩⟩⟩,λag=>⟨A,λY=>⟨λa=>f 32 (ec true false true d ag Y) a (.inl rfl),λa=>⟨λb=>f 43 (ec true false true d ag Y) b (.inr rfl),λb=>⟨⟨g _⟩,by show _+1<=2^62;simp only [bK,cq];omega,i (ec true false true d ag Y) a b⟩⟩⟩,λY=>⟨λa=>f 32 (ec true false false d ag Y) a (.inl rfl),λa=>⟨λb=>f 43 (ec true false false d ag Y) b (.inr rfl),λb=>⟨⟨g _⟩,by show _+1<=2^62;simp only [bK,cq];omega,i (ec true false false d ag Y) a b⟩⟩⟩⟩⟩,λd=>⟨⟨A,l⟩,A,λag=>⟨A,λY=>⟨λa=>f 32 (ec false true true d ag Y) a (.inl rfl),λa=>⟨λb=>f 43 (ec false true true d ag Y) b (.inr rfl),λb=>⟨⟨g _⟩,by show _+1<=2^62;simp only [bK,cq];omega,i (ec false true true d ag Y) a b⟩⟩⟩,λY=>⟨λa=>f 32 (ec false true false d ag Y) a (.inl rfl),λa=>⟨λb=>f 43 (ec false true false d ag Y) b (.inr rfl),λb=>⟨⟨g _⟩,by show _+1<=2^62;simp only [bK,cq];omega,i (ec false true false d ag Y) a b⟩⟩⟩⟩,λag=>⟨A,λY=>⟨λa=>f 32 (ec false false true d ag Y) a (.inl rfl),λa=>⟨λb=>f 43 (ec false false true d ag Y) b (.inr rfl),λb=>⟨⟨g _⟩,by show _+1<=2^62;simp only [bK,cq];omega,i (ec false false true d ag Y) a b⟩⟩⟩,λY=>⟨λa=>f 32 (ec false false false d ag Y) a (.inl rfl),λa=>⟨λb=>f 43 (ec false false false d ag Y) b (.inr rfl),λb=>⟨⟨g _⟩,by show _+1<=2^62;simp only [bK,cq];omega,i (ec false false false d ag Y) a b⟩⟩⟩⟩⟩⟩
def WR(q:(1<=k/\k<=14)\/(21<=k/\k<=32))(hm:m<=7)(H:T):be 22 [bp ⟨2,k,m,0,0,[]⟩] H (.tuple [.str (eO m++ju k),.bool true]) H:=by
 obtain⟨s,he⟩:=Kd (k:=k) (m:=m) A A hm ⟨0,.nil⟩;rw [show eX k=true by simp only [eX,eC,cC,Nat.ble_eq];exact q]at he;have he:∀K,be 20 [bp ⟨2,k,m,0,0,[]⟩] K (.tuple [.str s,.bool true]) K:=λK=>bj.bU ⟨_,_,he,rfl⟩ rfl rfl K
 have g:∀{j:Int},0<j->dP .u8 (Int.tdiv (m:Nat) j):=by intro j t;rw [yQ A];have Y:(0:Int)<=(m:Nat)/j:=Int.ediv_nonneg A A;have ag:(m:Int)/j<=(m:Nat):=Int.ediv_le_self _ A;show 0<=(m:Int)/j/\(m:Int)/j<=255;omega
 have o:=g (by decide:(0:Int)<4);have l:=g (by decide:(0:Int)<2)
 have u:(iX.getD (k-1) []).length<=9:=by have:∀i:Fin 40,(iX.getD i.val []).length<=9:= aC;exact this ⟨k-1,A⟩
 have c:¬((k:Nat):Int)<=14-> ∀K,be 47 [.V ((k:Nat)-21+1)] K (.str (decDigits (k-20))) K:=by
  intro h K;have:=l' (n:=k-20) A K
  rwa [show((k-20:Nat):Int)=(k:Nat)-21+1 by omega]at this
 have r:=j5 (n:=k-20) (k:=9) (by simp;omega)
 have f:∀{p:Bytes},eO m=p->((k:Nat):Int)<=14->(J.tuple [.str (p++iX.getD (k-1) []),.bool true])=.tuple [.str (eO m++ju k),.bool true]:=by intro p e h;rw [e];unfold ju;rw [ai A]
 have d:∀{p:Bytes},eO m=p-> ¬((k:Nat):Int)<=14->(J.tuple [.str (p++[102]++decDigits (k-20)),.bool true])=.tuple [.str (eO m++ju k),.bool true]:=by intro p e h;rw [e];unfold ju;rw [az A,jb];rfl
 refine bj.bU (WM (k:Nat) (m:Nat) s (iX.getD (k-1) []) (decDigits (k-20)) (λv _=>v=.tuple [.str (eO m++ju k),.bool true]) ?_) rfl rfl H
 delta yh nu nr ns nt ni nk nl np nj ng nq nv nh nn ef Dr ma qc mb qd yi Ds
 exact⟨⟨he _⟩,⟨A,o⟩,A,λb=>⟨⟨A,l⟩,A,λag=>⟨A,λY=>⟨⟨A,A⟩,λa=>⟨⟨A,A⟩,⟨A,A⟩,oL rfl A A,by show _+1<=2^62;simp only [bK,cq];omega,f (ec true true true b ag Y) a⟩,λa=>⟨⟨A,A⟩,⟨A,A⟩,⟨A,A⟩,⟨c a _⟩,by show _+1<=2^62;simp only [bK,cq];omega,d (ec true true true b ag Y) a⟩⟩,λY=>⟨⟨A,A⟩,λa=>⟨⟨A,A⟩,⟨A,A⟩,oL rfl A A,by show _+1<=2^62;simp only [bK,cq];omega,f (ec true true false b ag Y) a⟩,λa=>⟨⟨A,A⟩,⟨A,A⟩,⟨A,A⟩,⟨c a _⟩,by show _+1<=2^62;simp only [bK,cq];omega,d (ec true true false b ag Y) a⟩⟩⟩,λag=>⟨A,λY=>⟨⟨A,A⟩,λa=>⟨⟨A,A⟩,⟨A,A⟩,oL rfl A A,by show _+1<=2^62;simp only [bK,cq];omega,f (ec true false true b ag Y) a⟩,λa=>⟨⟨A,A⟩,⟨A,A⟩,⟨A,A⟩,⟨c a _⟩,by show _+1<=2^62;simp only [bK,cq];omega,d (ec true false true b ag Y) a⟩⟩,λY=>⟨⟨A,A⟩,λa=>⟨⟨A,A⟩,⟨A,A⟩,oL rfl A A,by show _+1<=2^62;simp only [bK,cq];omega,f (ec true false false b ag Y) a⟩,λa=>⟨⟨A,A⟩,⟨A,A⟩,⟨A,A⟩,⟨c a _⟩,by show _+1<=2^62;simp only [bK,cq];omega,d (ec true false false b ag Y) a⟩⟩⟩⟩,λb=>⟨⟨A,l⟩,A,λag=>⟨A,λY=>⟨⟨A,A⟩,λa=>⟨⟨A,A⟩,⟨A,A⟩,oL rfl A A,by show _+1<=2^62;simp only [bK,cq];omega,f (ec false true true b ag Y) a⟩,λa=>⟨⟨A,A⟩,⟨A,A⟩,⟨A,A⟩,⟨c a _⟩,by show _+1<=2^62;simp only [bK,cq];omega,d (ec false true true b ag Y) a⟩⟩,λY=>⟨⟨A,A⟩,λa=>⟨⟨A,A⟩,⟨A,A⟩,oL rfl A A,by show _+1<=2^62;simp only [bK,cq];omega,f (ec false true false b ag Y) a⟩,λa=>⟨⟨A,A⟩,⟨A,A⟩,⟨A,A⟩,⟨c a _⟩,by show _+1<=2^62;simp only [bK,cq];omega,d (ec false true false b ag Y) a⟩⟩⟩,λag=>⟨A,λY=>⟨⟨A,A⟩,λa=>⟨⟨A,A⟩,⟨A,A⟩,oL rfl A A,by show _+1<=2^62;simp only [bK,cq];omega,f (ec false false true b ag Y) a⟩,λa=>⟨⟨A,A⟩,⟨A,A⟩,⟨A,A⟩,⟨c a _⟩,by show _+1<=2^62;simp only [bK,cq];omega,d (ec false false true b ag Y) a⟩⟩,λY=>⟨⟨A,A⟩,λa=>⟨⟨A,A⟩,⟨A,A⟩,oL rfl A A,by show _+1<=2^62;simp only [bK,cq];omega,f (ec false false false b ag Y) a⟩,λa=>⟨⟨A,A⟩,⟨A,A⟩,⟨A,A⟩,⟨c a _⟩,by show _+1<=2^62;simp only [bK,cq];omega,d (ec false false false b ag Y) a⟩⟩⟩⟩⟩
def Kf(m:Nat)(e:aP):Prop:=(∃k:Nat,1<=k/\k<=32/\e=⟨2,k,m,0,0,[]⟩)\/ ∃c:Int,e=⟨1,c,m,0,0,[]⟩
def Dt(hm:m<=7)(a:k<=32):(h6 k m).isSome=eX k:=by have:∀k:Fin 33,∀m:Fin 8,(h6 k.val m.val).isSome=eX k.val:= aC;exact this ⟨k,A⟩ ⟨m,A⟩
def yn(hm:m<=7):enc ⟨2,k,m,0,0,[]⟩=h6 k m:=by unfold enc;rw [ai (by show ¬(2:Int)=3;decide),ai (by show ¬(7:Int)<(m:Nat);omega),ai (by intro q;exact absurd q.1 (by show ¬(2:Int)=1;decide)),az ⟨rfl,rfl⟩,az (by show(0:Int)<=(k:Nat);omega)];rfl
def Kg{c:Int}(hm:m<=7)(H:T):∃s,be 20 [bp ⟨1,c,m,0,0,[]⟩] H (.tuple [.str s,.bool (shown c)]) H:=by
 by_cases h:0<=c
 .obtain⟨n,rfl⟩:=kS h;exact Ke hm H
 .have b:lp c=false:=by rw [gL];intro q;simp [lp]at q;omega
  have aw:shown c=false:=by rw [gL];intro q;simp [shown]at q;omega
  have a:=Dm c;rw [b]at a;rw [aw];exact⟨[],bj.bU (J8 c (m:Nat) [] (λv _=>v=.tuple [.str [],.bool false]) ⟨by simp;omega,λh=>rfl,λh=>⟨λe=>rfl,λn=>⟨⟨a _⟩,rfl⟩⟩⟩) rfl rfl H⟩
def Kh{c:Int}(hs:shown c=true)(hm:m<=7):(enc ⟨1,c,m,0,0,[]⟩).isSome=true:=by have:=(rN hs).2.2.2;rw [<-this]at hs⊢;exact WO hs hm
def WS{e:aP}(aw:hz e=none)(aj:Kf m e)(hm:m<=7)(H:T):be 22 [bp e] H (.tuple [.str [],.bool false]) H:=by
 rcases aj with ⟨k,Y,b,rfl⟩|⟨c,rfl⟩
 .obtain⟨s,he⟩:=Kd (k:=k) (m:=m) Y b hm ⟨0,.nil⟩
  have a:eX k=false:=by rw [gL];intro q;rw [<-Dt hm b,<-yn hm]at q;unfold hz at aw;rw [az ⟨q,.inr rfl⟩]at aw;cases aw
  rw [a]at he;have he:∀K,be 20 [bp ⟨2,k,m,0,0,[]⟩] K (.tuple [.str s,.bool false]) K:=λK=>bj.bU ⟨_,_,he,rfl⟩ rfl rfl K
  exact bj.bU (J9 2 (k:Nat) (m:Nat) s (λv _=>v=.tuple [.str [],.bool false]) ⟨⟨he _⟩,rfl⟩) rfl rfl H
 .obtain⟨s,he⟩:=Kg (c:=c) (m:=m) hm ⟨0,.nil⟩
  have a:shown c=false:=by rw [gL];intro q;unfold hz at aw;rw [az ⟨Kh q hm,.inl rfl⟩]at aw;cases aw
  rw [a]at he;have he:∀K,be 20 [bp ⟨1,c,m,0,0,[]⟩] K (.tuple [.str s,.bool false]) K:=λK=>bj.bU ⟨_,_,he,rfl⟩ rfl rfl K
  exact bj.bU (J9 1 c (m:Nat) s (λv _=>v=.tuple [.str [],.bool false]) ⟨⟨he _⟩,rfl⟩) rfl rfl H
def WT{e:aP}(aj:Kf m e)(hm:m<=7)(H:T):be 22 [bp e] H (oK e) H:=by
 unfold oK;cases aw:hz e with
 |none=>exact WS aw aj hm H
 |some s =>
  rcases aj with ⟨k,Y,f,rfl⟩|⟨c,rfl⟩
  .have hn':=aw;unfold hz at hn';split at hn'
   .rename_i q;have d:eX k=true:=by rw [<-Dt hm f,<-yn hm];exact q.1
    simp only [eX,eC,cC,Nat.ble_eq]at d;obtain⟨b,a⟩:=nF.1 q.1;rw [Di a]at aw;simp only [a8]at aw;subst aw;exact WR d hm H
   .cases hn'
  .have hn':=aw;unfold hz at hn';split at hn'
   .rename_i q;obtain⟨b,a⟩:=nF.1 q.1;obtain⟨g,h,aQ,_,hs⟩:=Jz (e:=⟨1,c,m,0,0,[]⟩) (by show(0:Int)<=(m:Nat);omega) a rfl;simp only [aP.mk.injEq]at aQ;obtain⟨_,rfl,_⟩:=aQ;rw [x8 a]at aw;simp only [a8]at aw;subst aw;exact WQ hs hm H
   .cases hn'
abbrev qf(aD ah n df cS off:Int):J:= .agg [.int .i64 aD,.int .i64 ah,.int .i64 n,.int .i64 df,.int .i64 cS,.int .i64 off]
abbrev j9(c a e d b f:Int):J:=J.agg [.V c,.V a,.V e,.V d,.V b,.V f]
def Ki(a:Nat)(b:Bytes)(j i g f d k c:Int)(h:b8->bc->T->Prop)(m:((a:Int)<g->((a:Int)<(↑(b.length):Int)->c' env.D 9 (.str b) (.V a)=some (.ac c)/\(bd (c))/\((a:Int)=1->(c<f->h .ret [(0,.str b),(3,J.aT 0),(4,.V a),(5,.V a)] (af 65 [(0,aa.an [(j9 j i g f d k)] 6 true (some (120,6)))]))/\(¬c<f->(d<c->h .ret [(0,.str b),(3,J.aT 0),(4,.V a),(5,.V a)] (af 65 [(0,aa.an [(j9 j i g f d k)] 6 true (some (120,6)))]))/\(¬d<c->(bd ((a:Int)+1))/\h .normal [(0,.str b),(3,J.aT 0),(5,.V ((a:Int)+1))] (af 66 [(0,aa.an [(j9 j i g f d k)] 6 true (some (120,6)))]))))/\(¬(a:Int)=1->(c<128->h .ret [(0,.str b),(3,J.aT 0),(4,.V a),(5,.V a)] (af 59 [(0,aa.an [(j9 j i g f d k)] 6 true (some (120,6)))]))/\(¬c<128->(191<c->h .ret [(0,.str b),(3,J.aT 0),(4,.V a),(5,.V a)] (af 59 [(0,aa.an [(j9 j i g f d k)] 6 true (some (120,6)))]))/\(¬191<c->(bd ((a:Int)+1))/\h .normal [(0,.str b),(3,J.aT 0),(5,.V ((a:Int)+1))] (af 60 [(0,aa.an [(j9 j i g f d k)] 6 true (some (120,6)))])))))/\(¬(a:Int)<(↑(b.length):Int)->h (.exit 0) [(0,.str b),(3,J.aT 0),(5,.V a)] (af 40 [(0,aa.an [(j9 j i g f d k)] 6 true (some (120,6)))])))/\(¬(a:Int)<g->h (.exit 0) [(0,.str b),(3,J.aT 0),(5,.V a)] (af 40 [(0,aa.an [(j9 j i g f d k)] 6 true (some (120,6)))]))) :
 ∃e l Y,bN 0 60 (bu 80 0) [(0,.str b),(3,J.aT 0),(5,.V (a:Nat))] (af 30 [(0,aa.an [qf j i g f d k] 6 true (some (120,6)))]) e l Y/\h e l Y :=
 dD c6 mixed bL (hs:= .al 4003 (.al 4008 (ap 5002 (.ac c) (ab 5003 (.al 7001 (.al 9002 .nil (.al 9006 .nil (ab 11001 .nil))) (.al 9002 .nil (.al 9006 .nil (ab 11001 .nil)))))) .nil) .nil) (keep:=[0,3,4,5]) ao m
abbrev oM(c a e d b f:Int):T:=(af 22 [(0,aa.an [(j9 c a e d b f)] 6 true (some (120,6)))])
def WU(b:Bytes)(d c h g f i a:Int)(j:T)(k:J)(e:aU)(l:((↑(b.length):Int)=0->e (.V 0) (oM d c h g f i))/\(¬(↑(b.length):Int)=0->c' env.D 9 (.str b) (.V 0)=some (.ac a)/\(bd (a))/\(a<d->e (.V 0) (oM d c h g f i))/\(¬a<d->c' env.D 9 (.str b) (.V 0)=some (.ac a)/\(bd (a))/\(c<a->e (.V 0) (oM d c h g f i))/\(¬c<a->bN 0 60 (Code.loop (bu 80 0)) [(0,.str b),(3,J.aT 0),(5,.V 1)] (oM d c h g f i) (.exit 0) [(0,.str b),(3,J.aT 0),(5,k)] j/\e k (bf j 2))))) :
 bl 80 [.str b,qf d c h g f i] bG e :=
 bm bL (.al 1002 .nil<|ap 1005 (.ac a)<|ab 1006<|.al 1009 .nil<|ap 1013 (.ac a)<|ab 1014<|.al 1017 .nil<|.aG (.keep [0,3,5])<|.aG (.loop [(0,.str b),(3,J.aT 0),(5,k)] j (.exit 0)) .nil) l
def WV(b:Bytes)(d c h g f i a:Int)(j:T)(l k:J)(e:aU)(m:((↑(b.length):Int)=0->e (.V 0) (oM d c h g f i))/\(¬(↑(b.length):Int)=0->c' env.D 9 (.str b) (.V 0)=some (.ac a)/\(bd (a))/\(a<d->e (.V 0) (oM d c h g f i))/\(¬a<d->c' env.D 9 (.str b) (.V 0)=some (.ac a)/\(bd (a))/\(c<a->e (.V 0) (oM d c h g f i))/\(¬c<a->bN 0 60 (Code.loop (bu 80 0)) [(0,.str b),(3,J.aT 0),(5,.V 1)] (oM d c h g f i) .ret [(0,.str b),(3,J.aT 0),(4,k),(5,l)] j/\e k j)))) :
 bl 80 [.str b,qf d c h g f i] bG e :=
 bm bL (.al 1002 .nil<|ap 1005 (.ac a)<|ab 1006<|.al 1009 .nil<|ap 1013 (.ac a)<|ab 1014<|.al 1017 .nil<|.aG (.keep [0,3,5])<|.aG (.loop [(0,.str b),(3,J.aT 0),(4,k),(5,l)] j .ret) .nil) m
def Kj(a d:Nat)(f:Bytes)(c b:Int)(g:b8->bc->T->Prop)(i:((a:Int)<(d:Int)->(bd (c*64))/\c' env.D 9 (.str f) (.V a)=some (.ac b)/\(bd (b))/\(bd (c*64+b))/\(bd (c*64+b-128))/\(bd ((a:Int)+1))/\g .normal [(0,.str f),(6,.V d),(7,.V (c*64+b-128)),(8,.V ((a:Int)+1))] (af 75 []))/\(¬(a:Int)<(d:Int)->g (.exit 2) [(0,.str f),(6,.V d),(7,.V c),(8,.V a)] (af 63 []))) :
 ∃e h Y,bN 0 60 (bu 52 1) [(0,.str f),(6,.V (d:Nat)),(7,.V c),(8,.V (a:Nat))] (af 60 []) e h Y/\g e h Y :=
 dD c6 mixed bL (hs:= .al 13002 (ab 15001 (ap 15004 (.ac b) (ab 15005 (ab 15006 (ab 15007 (ab 14001 .nil)))))) .nil) (keep:=[0,6,7,8]) ao i
end Go.Proofs.zz
