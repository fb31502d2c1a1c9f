/-
  Parts of the proof of KeysScripts.
-/
import Derived.Test.YtddnafghiejcoaaGreatDoorKKeysScriptsF
set_option linter.unusedVariables false
set_option linter.unusedSimpArgs false
namespace Go.Proofs.YtddnafghiejcoaaGreatDoor
open Go.bh Go.Keys Go.Lib
set_option maxRecDepth 1000000
def gR(s:Bytes)(r:en):Bool:=Nat.blt 0 (db s r)&&Nat.beq (db s r) s.length&&Nat.blt (db s r) r.n
def ju(s:Bytes):List en->Bool
 |[]=>false
 |r::l=>_root_.cond (gR s r) true (ju s l)
abbrev nW(s:Bytes)(v:J):a8:=[(0,.str s),(3,.slice (some ⟨13,0,0,0,6⟩) 9 9),(4,v)]
theorem GO{h:T}{q i:Nat}(ag:h.get q=some dZ)(ah:i<9):a1 (a'.D env) 120 ⟨q,0,0+Int.toNat (i:Nat),0,6⟩ h=some ((da[i]'ah).v)/\a1 (a'.D env) 3 ⟨q,0,0+Int.toNat (i:Nat),2,6⟩ h=some (.int .i64 ((da[i]'ah).n:Nat)):=by
 have c:(a'.D env 120).map (λd=>(d.kind.isAgg,d.size))=some (true,6):= ar;obtain⟨x,aa,h2⟩:=b4.1 c;simp only [bo]at h2;have e:(a'.D env 3).map (λd=>d.kind.isAgg)=some false:= ar;obtain⟨bt,a,b⟩:=b4.1 e;constructor
 .unfold a1;rw [aa,ag,fU];simp only [wI ah,ft,h2.1,h2.2];simp [en.v]
 .unfold a1;rw [a,ag,fU];simp only [wI ah,ft,b];simp [en.v]
theorem wM(s:Bytes)(i:Int)(h:T)(ag:h.get 13=some dZ):b5 0 36 (nW s (.int .i64 i)) h (nW s (.int .i64 i)) (T.af 60 [(13,dZ)]):=by
 have aI:T.rows 60 [(13,dZ)]=T.af 60 [(13,dZ)]:= ar;rw [<-aI]
 exact b5.drop (K:=60) (l:=[(13,dZ)]) (by simp only [eF,jE,ag]) (by rfl) (by rfl) (by rfl) (a7.cons trivial (a7.cons (by simp [bQ,Go.bh.bO]) (a7.cons trivial a7.nil))) (a7.cons (by
  intro e he;obtain⟨r,_,rfl⟩:=dz.1 (show e∈da.map en.v from he)
  exact(ci.of rfl).dh _) a7.nil)
def GP(s:Bytes)(i:Nat):Prop:= ∃H',
 (∃v,dl 0 36 (br 92 0) (nW s (.int .i64 (i:Nat))) (T.af 60 [(13,dZ)]) (.exit 0) (nW s v) H'/\ju s (da.drop i)=false) \/
 ∃a,dl 0 36 (br 92 0) (nW s (.int .i64 (i:Nat))) (T.af 60 [(13,dZ)]) .ret a H'/\a8.le [(0,.str s),(2,.bool true)] a/\ju s (da.drop i)=true
theorem Q5(s:Bytes):∀(t i:Nat),9-i<=t->i<=9->GP s i:=by
 have fin:∀i,i=9->GP s i:=by intro i ah;obtain⟨e,d,aa,f,rfl,rfl⟩:=GL i 0 s dZ 0 0 0 0 0 0 (λe d aa=>e=.exit 0/\d=nW s (.int .i64 (i:Nat))) ⟨λaa=>absurd aa V,λ_=>⟨rfl,rfl⟩⟩;exact⟨_,.inl ⟨_,bX.last an f,by subst ah;rfl⟩⟩
 intro t;induction t with
 |zero=>exact λi aa h2=>fin i V
 |succ t ih =>
  intro i aa h2;by_cases al:i<9
  .obtain⟨w,m,x⟩:=GG ⟨i,al⟩;simp only at w m x;have o:da.drop i=da[i]'al::da.drop (i+1):=iS al;have p:=(GO (q:=13) (h:=T.af 71 [(13,dZ)]) rfl al).1;have u:=(GO (q:=13) (h:=T.af 88 [(13,dZ)]) rfl al).2;generalize da[i]'al=r at w m x o p u;have A:=GA r s m;have C:((i:Int)+1)=((i+1:Nat):Int):= V;have l:ju s (da.drop i)=_root_.cond (gR s r) true (ju s (da.drop (i+1))):=by rw [o];rfl
   have D:0<db s r->db s r=s.length->db s r<r.n->gR s r=true:=by intro a b c;simp only [gR,cS,eH,iT];exact⟨⟨a,b⟩,c⟩
   have g:¬(0<db s r/\db s r=s.length/\db s r<r.n)->gR s r=false:=by intro h;rw [kZ];intro q;simp only [gR,cS,eH,iT]at q;exact h ⟨q.1.1,q.1.2,q.2⟩
   have B:∃e d aa,bR 0 36 (br 92 0) (nW s (.int .i64 (i:Nat))) (T.af 60 [(13,dZ)]) e d aa/\((gR s r=false/\e=.normal/\d=nW s (.int .i64 ((i:Int)+1))/\aa.get 13=some dZ)\/(gR s r=true/\e=.ret/\a8.le [(0,.str s),(2,.bool true)] d)):=by
    refine GL i (db s r) s dZ r.aD r.ah r.n r.c' r.cL r.off _
     ⟨λ_=>⟨⟨V,V⟩,p,⟨A _⟩,λa=>⟨λb=>⟨⟨V,V⟩,u,λc=> .inr ⟨D V V V,rfl,?_⟩,λc=>⟨⟨V,V⟩,.inl ⟨g V,rfl,rfl,rfl⟩⟩⟩,
      λb=>⟨⟨V,V⟩,.inl ⟨g V,rfl,rfl,rfl⟩⟩⟩,λa=>⟨⟨V,V⟩,.inl ⟨g V,rfl,rfl,rfl⟩⟩⟩,λh=>absurd V h⟩
    exact a8.nj [(0,.str s),(2,.bool true),(3,.slice (some ⟨13,0,0,0,6⟩) 9 9),(4,.int .i64 (i:Nat))] [0,2]
   obtain⟨e,d,E,f,⟨z,rfl,rfl,ag⟩|⟨z,rfl,hle⟩⟩:=B
   .rw [C]at f;obtain⟨H',⟨v,j,k⟩|⟨y,j,k,he⟩⟩:=ih (i+1) V V
    .exact⟨H',.inl ⟨v,bX.round f (wM s _ _ ag) j,by rw [l,z];exact k⟩⟩
    .exact⟨H',.inr ⟨y,bX.round f (wM s _ _ ag) j,k,by rw [l,z];exact he⟩⟩
   .exact⟨_,.inr ⟨_,bX.last an f,hle,by rw [l,z];rfl⟩⟩
  .exact fin i V
theorem GQ(s:Bytes)(H:T):bu 92 [.str s] H (.bool (ju s da)) H:=by
 obtain⟨H',⟨v,c,a⟩|⟨d,c,a,he⟩⟩:=Q5 s 9 0 V V
 .have a:ju s da=false:=a;have b:=((cZ.dJ c).pre (show b5 0 36 _ (T.af 16 [(13,dZ)]) _ _ from wM s 0 _ rfl)).post (b5.facts (a8.nj _ [0]));rw [a];exact bl.cm (QY s H' (λv _=>v=.bool false) ⟨b,rfl⟩) rfl rfl H
 .have he:ju s da=true:=he;have b:=((cZ.dJ c).pre (show b5 0 36 _ (T.af 16 [(13,dZ)]) _ _ from wM s 0 _ rfl)).post (b5.facts a);rw [he];exact bl.cm (QZ s H' (λv _=>v=.bool true) ⟨b,rfl⟩) rfl rfl H
theorem AR(c:Nat)(H:T):bu 64 [.int .u8 (c:Nat)] H (.int .i32 (Keys.dC c)) H:=by
 refine bl.cm (Q3 (c:Nat) (λv _=>v=.int .i32 (Keys.dC c)) ⟨λh=> ?_,λaa=>⟨λh=> ?_,λh2=>⟨λh=> ?_,λa=>⟨λh=> ?_,λb=>⟨λh=> ?_,λd=>⟨λh=> ?_,λe=> ?_⟩⟩⟩⟩⟩⟩) rfl rfl H
 .obtain rfl:c=65:= V;rfl
 .obtain rfl:c=66:= V;rfl
 .obtain rfl:c=67:= V;rfl
 .obtain rfl:c=68:= V;rfl
 .obtain rfl:c=72:= V;rfl
 .obtain rfl:c=70:= V;rfl
 .unfold Keys.dC;rw [ap V,ap V,ap V]
theorem Q6(n:Nat)(H:T):bu 65 [.int .i64 (n:Nat)] H (.int .i32 (Keys.hc n)) H:=by
 have t:∀k:Nat,n=k-> ∀z:Int,Keys.hc k=z->(J.int .i32 z:J)=.int .i32 (Keys.hc n):=λk e z h=>by rw [e,h]
 refine bl.cm (Q4 (n:Nat) (λv _=>v=.int .i32 (Keys.hc n)) ⟨λh=>t 1 V _ rfl,λaa=>⟨λh=>t 7 V _ rfl,λh2=>⟨λh=>t 2 V _ rfl,λp=>⟨λh=>t 3 V _ rfl,λq=>⟨λh=>t 4 V _ rfl,λr=>⟨λh=>t 8 V _ rfl,λs=>⟨λh=>t 5 V _ rfl,λu=>⟨λh=>t 6 V _ rfl,
  λw=>⟨λh=>t 11 V _ rfl,λx=>⟨λh=>t 12 V _ rfl,λa=>⟨λh=>t 13 V _ rfl,λb=>⟨λh=>t 14 V _ rfl,λc=>⟨λh=>t 15 V _ rfl,λd=>⟨λh=>t 17 V _ rfl,λf=>⟨λh=>t 18 V _ rfl,λg=>⟨λh=>t 19 V _ rfl,λi=>⟨λh=>t 20 V _ rfl,λj=>⟨λh=>t 21 V _ rfl,λl=>⟨λh=>t 23 V _ rfl,λm=>⟨λh=>t 24 V _ rfl,λo=> ?_⟩⟩⟩⟩⟩⟩⟩⟩⟩⟩⟩⟩⟩⟩⟩⟩⟩⟩⟩⟩) rfl rfl H
 unfold Keys.hc;rw [ap V,ap V,ap V,ap V,ap V,ap V,ap V]
def lu(c:Nat)(m:Int):aP:=(Keys.cT c m).getD (cQ [])
theorem Q7(c m:Nat)(H:T):bu 113 [.int .i64 (c:Nat),.int .u8 (m:Nat)] H (bi (lu c m)) H:=by
 have bad:c≠13->c≠9->c≠127->c≠27->shown (c:Nat)=false->lu c m=cQ []:=by intro aa h2 b d a;unfold lu Keys.cT;rw [ap aa,ap h2,ap b,ap d,aE (.inr a)];rfl
 have i:c≠13->c≠9->c≠127->c≠27->shown (c:Nat)=true->lu c m=dq c m:=by
  intro aa h2 b d a
  have p:¬(2097152<c\/shown (c:Nat)=false):=by
   rintro (h|h)
   .simp [shown]at a;omega
   .rw [h]at a;cases a
  unfold lu Keys.cT;rw [ap aa,ap h2,ap b,ap d,ap p];rfl
 have g:¬(32<=c/\c≠127/\c<=1114111/\(c<55296\/57343<c))->shown (c:Nat)=false:=by intro h;rw [kZ];intro q;apply h;simp [shown]at q;omega
 have e7:32<=c->c≠127->c<=1114111->(c<55296\/57343<c)->shown (c:Nat)=true:=by intro aa h2 b d;simp [shown];omega
 have f:∀k:Nat,k=13\/k=9\/k=127\/k=27->c=k-> ∀z:Int,Keys.cT k m=some (cY z m)->(cV 2 z (m:Nat) 0 0 [])=bi (lu c m):=λk _ e z h=>by rw [e];unfold lu;rw [h];rfl
 refine bl.cm (Q2 (c:Nat) (m:Nat) (λv _=>v=bi (lu c m)) ⟨λh=>f 13 (.inl rfl) V _ rfl,λaa=>⟨λh=>f 9 (.inr (.inl rfl)) V _ rfl,λh2=>⟨λh=>f 127 (.inr (.inr (.inl rfl))) V _ rfl,λb=>⟨λh=>f 27 (.inr (.inr (.inr rfl))) V _ rfl,
  λd=>⟨λh=>by rw [bad V V V V (g V)];rfl,λa=>⟨λh=>by rw [bad V V V V (g V)];rfl,λr=>⟨⟨V,V⟩,λj=>⟨λl=>⟨λo=>⟨⟨V,V⟩,by rw [i V V V V (e7 V V V V)];rfl⟩,
   λo=>⟨λn=>⟨⟨V,V⟩,by rw [i V V V V (e7 V V V V)];rfl⟩,λn=>by rw [bad V V V V (g V)];rfl⟩⟩,λl=>absurd V l⟩,λj=>absurd V j⟩⟩⟩⟩⟩⟩⟩) rfl rfl H
def lv(c:Nat):aP:=if c=127 then⟨2,3,0,0,0,[]⟩else wG c
theorem Q8:(match nd Tryz.prog env 100 62 [.int .u8 127] ⟨0,.nil⟩with|some (v,_)=>J.iW [v] [cV 2 3 0 0 0 []]|none=>false)=true:=by decide+kernel
theorem Q9{c:Nat}(al:c<32\/c=127)(H:T):bu 62 [.int .u8 (c:Nat)] H (bi (lv c)) H:=by
 unfold lv;rcases al with h|rfl
 .rw [ap V];exact QO h H
 .rw [aE rfl];have h:=Q8;split at h
  .rename_i v ad b;have:=J.mX h;simp only [fT,h0]at this;subst this;rw [rI]at b;exact(bl.pP cP mixed b).bare (by intro a d;rw [cC.1 d];exact ci.int _ _) (ci.of rfl) H
  .cases h
theorem Q'{c:Nat}(al:c<32\/c=127)(a:c≠27):lv c=Keys.control c:=by have:∀i:Fin 128,(i.val<32\/i.val=127)->i.val≠27->lv i.val=Keys.control i.val:= aA;exact this ⟨c,V⟩ al a
def wN(s:Bytes):aP×Int×Int :=
 if bP s 0<32\/bP s 0=127 then(lv (bP s 0),1,0)
 else if ju s da=true then(⟨0,0,0,0,0,[]⟩,0,2)
 else if(ga s da).1=65533/\s.take (ga s da).2.toNat≠[239,191,189]then(cQ (s.take (ga s da).2.toNat),(ga s da).2,0)
 else(dq (ga s da).1,(ga s da).2,0)
theorem GR{s:Bytes}(hs:0<s.length):∀l:List en,(∀r∈l,1<=r.n)-> ∃n:Nat,(ga s l).2=n/\1<=n/\n<=s.length
 |[],_=>⟨1,rfl,V,hs⟩
 |r ::l,h=>by
  unfold ga;have:=GF s r (h r an);split
  .exact GR hs l λx a=>h x (by simp [a])
  .split
   .exact⟨db s r,rfl,V,this.2⟩
   .exact⟨db s r,rfl,V,this.2⟩
theorem Ra:∀r∈da,1<=r.n:= aA
abbrev hR(x:aP×Int×Int):J:= .tuple [bi x.1,.int .i64 x.2.1,.int .i64 x.2.2]
theorem GS{s:Bytes}(hs:s≠[])(H:T):bu 66 [.str s] H (hR (wN s)) H:=by
 have hlen:0<s.length:=fS.2 hs;have j:=nR s 0;have a0:c8 (a'.D env) 9 (.str s) (.int .i64 0)=some (.int .u8 (bP s 0:Nat)):=jt (k:=0) hlen;unfold wN;by_cases aa:bP s 0<32\/bP s 0=127
 .rw [aE aa];have f:=Q9 aa
  have g:(lv (bP s 0)).x=0/\(lv (bP s 0)).y=0/\(lv (bP s 0)).text=[]:=by
   unfold lv wG
   repeat' split
   all_goals exact⟨rfl,rfl,rfl⟩
  generalize lv (bP s 0)=e at f g;obtain⟨k,c,m,x,y,t⟩:=e;simp only at g;obtain⟨rfl,rfl,rfl⟩:=g;exact bl.cm (Q0 s (bP s 0:Nat) k c m (λv _=>v=hR (⟨k,c,m,0,0,[]⟩,1,0)) ⟨a0,λh=>⟨ar,a0,⟨f _⟩,rfl⟩,λh=>⟨a0,λe=>⟨ar,a0,⟨f _⟩,rfl⟩,λe=>absurd aa V⟩⟩) rfl rfl H
 .rw [ap aa];by_cases h2:ju s da=true
  .rw [aE h2];have a:=GQ s;rw [h2]at a;exact bl.cm (Q1 s (bP s 0:Nat) (λv _=>v=hR (⟨0,0,0,0,0,[]⟩,0,2)) ⟨a0,by simp;omega,a0,by simp;omega,⟨a _⟩,rfl⟩) rfl rfl H
  .rw [ap h2];have a:=GQ s;rw [kZ.2 h2]at a;obtain⟨n,az,l,n2⟩:=GR hlen da Ra;have d:=QW hs;have i:=(ls n2).1;rw [az,fU];rw [az]at d;generalize (ga s da).1=r at d;by_cases b:r=65533/\s.take n≠[239,191,189]
   .rw [aE b];exact bl.cm (GN s (s.take n) (bP s 0:Nat) r (n:Nat) (λv _=>v=hR (cQ (s.take n),(n:Nat),0)) ⟨a0,by simp;omega,a0,by simp;omega,⟨a _⟩,⟨d _⟩,λe=>⟨i,λq=>absurd q b.2,λ_=>⟨i,rfl⟩⟩,λq=>absurd b.1 q⟩) rfl rfl H
   .rw [ap b];exact bl.cm (GN s (s.take n) (bP s 0:Nat) r (n:Nat) (λv _=>v=hR (dq r,(n:Nat),0)) ⟨a0,by simp;omega,a0,by simp;omega,⟨a _⟩,⟨d _⟩,λe=>⟨i,λq=>rfl,λq=>absurd ⟨e,q⟩ b⟩,λq=>rfl⟩) rfl rfl H
abbrev jv(l:List J)(v w f:Nat):ac:= {aQ:=l,es:=1,exact:=false,ro:=false,ab:=v,eb:=w,eS:=f,ty:=some (3,0)}
abbrev qE:J:=J.slice (cX 50) 1 1
abbrev AS(a:Int):ac:=(ac.aj ([.int .i64 a]) 1 true)
abbrev Rb:ch:=(ag 12014 (ag 12015 (ag 12016 (ag 13001 (ag 7001 .nil)))))
abbrev wO(a:Int):T:=(T.af 88 [(50,(AS a))])
abbrev Rc(a:Int):ch:=(.aq 11008 (.aq 11012 (ag 12010 (.ak (.val 12013 (.int .u8 a)) Rb)) .nil) .nil)
abbrev Rd(e:Bytes)(c d:Nat)(a b:Int)(f:bW->a8->T->Prop):Prop:=((d:Int)<9->(-9223372036854775808<=10*b/\10*b<=9223372036854775807)/\c8 env.D 9 (.str e) (.int .i64 (c:Int))=some (.int .u8 a)/\(0<=a-48/\a-48<=255)/\(-9223372036854775808<=a-48/\a-48<=9223372036854775807)/\(-9223372036854775808<=10*b+(a-48)/\10*b+(a-48)<=9223372036854775807)/\(-9223372036854775808<=(d:Int)+1/\(d:Int)+1<=9223372036854775807)/\(-9223372036854775808<=(c:Int)+1/\(c:Int)+1<=9223372036854775807)/\f .normal [(0,.str e),(4,qE),(5,.int .i64 ((d:Int)+1)),(6,.int .i64 ((c:Int)+1))] (T.af 111 [(50,(ac.aj ([.int .i64 (10*b+(a-48))]) 1 true))]))
abbrev GU(a:Int):ch:=(.ak (.val 11002 (.int .u8 a)) (.aq 11003 (.ak (.val 11007 (.int .u8 a)) (Rc a)) .nil))
abbrev Re(d:Bytes)(c a:Nat)(e:Int)(b:bW->a8->T->Prop):Prop:=(¬(a:Int)<9->b .ret [(0,.str d),(2,.slice none 0 0),(3,.bool false),(4,qE),(5,.int .i64 (a:Int)),(6,.int .i64 (c:Int))] (wO e))
abbrev GV(c:Bytes)(b e:Nat)(a f:Int)(d:bW->a8->T->Prop):Prop:=(48<=a->c8 env.D 9 (.str c) (.int .i64 (b:Int))=some (.int .u8 a)/\(a<=57->(Rd c b e a f d)/\(Re c b e f d))/\(¬a<=57->d .ret [(0,.str c),(2,.slice none 0 0),(3,.bool false),(4,qE),(5,.int .i64 (e:Int)),(6,.int .i64 (b:Int))] (wO f)))
theorem GW(c:Bytes)(a d:Nat)(b f:Int)(g:bW->a8->T->Prop)(i:((a:Int)<(↑c.length:Int)->c8 env.D 9 (.str c) (.int .i64 (a:Int))=some (.int .u8 b)/\(b=59->(0<(d:Int)->(-9223372036854775808<=(a:Int)+1/\(a:Int)+1<=9223372036854775807)/\g .normal [(0,.str c),(4,.slice (cX 74) 2 2),(5,.int .i64 0),(6,.int .i64 ((a:Int)+1))] (T.af 80 [(50,(AS f)),(73,ac.aj [.int .i64 0] 1 true),(74,ac.aj [.int .i64 f,.int .i64 0] 1 false (some (3,0)))]))/\(¬0<(d:Int)->c8 env.D 9 (.str c) (.int .i64 (a:Int))=some (.int .u8 b)/\(GV c a d b f g)/\(¬48<=b->g .ret [(0,.str c),(2,.slice none 0 0),(3,.bool false),(4,qE),(5,.int .i64 (d:Int)),(6,.int .i64 (a:Int))] (wO f))))/\(¬b=59->c8 env.D 9 (.str c) (.int .i64 (a:Int))=some (.int .u8 b)/\(GV c a d b f g)/\(¬48<=b->g .ret [(0,.str c),(2,.slice none 0 0),(3,.bool false),(4,qE),(5,.int .i64 (d:Int)),(6,.int .i64 (a:Int))] (wO f))))/\(¬(a:Int)<(↑c.length:Int)->g (.exit 0) [(0,.str c),(4,qE),(5,.int .i64 (d:Int)),(6,.int .i64 (a:Int))] (T.af 64 [(50,(AS f))]))) :
 ∃e h aa,bR 0 64 (br 111 0) [(0,.str c),(4,.slice (cX 50) 1 1),(5,.int .i64 (d:Nat)),(6,.int .i64 (a:Nat))] (T.rows 60 [(50,ac.aj [.int .i64 f] 1 true)]) e h aa/\g e h aa :=
 di cP mixed bT (hs:= .aq 6003 (.ak (.val 8002 (.int .u8 b)) (.aq 8003 (.aq 8006 (ag 7001 .nil) (GU b)) (GU b))) .nil) (keep:=[0,2,3,4,5,6]) ar i
abbrev qF(b a:Nat):J:=J.slice (some ⟨50,b,0,0,1⟩) a a
abbrev o4(b:List J)(c d a:Nat):ac:=⟨b,1,false,false,c,d,a,some (3,0)⟩
abbrev GX(c:List J)(a b:Nat):ac:=⟨c,1,false,false,a,a,b,some (3,0)⟩
noncomputable abbrev Rf(l2:List J)(v f:Nat):ch:=(ag 12016 (ag 12017 (.ak (.act 12018 (.tuple []) λh=>T.set h 50 (jv l2 v v f)) (ag 13001 (ag 7001 .nil)))))
noncomputable abbrev Rg(b x:Int)(l2:List J)(v f:Nat):ch:=(ag 12008 (.ak (.val 12009 (.int .i64 x)) (ag 12010 (.ak (.val 12013 (.int .u8 b)) (ag 12014 (ag 12015 (Rf l2 v f)))))))
abbrev Rh(j:Bytes)(f g:Nat)(b d:Int)(h i:List J)(c k e a:Nat)(l:bW->a8->T->Prop):Prop:=((g:Int)<9->(-9223372036854775808<=(a:Int)-1/\(a:Int)-1<=9223372036854775807)/\(-9223372036854775808<=(a:Int)-1/\(a:Int)-1<=9223372036854775807)/\(0<=(a:Int)-1/\(a:Int)-1<(a:Int))/\a1 env.D 3 ⟨50,c,0+Int.toNat ((a:Int)-1),0,1⟩ (T.af 105 [(50,(o4 h c k e))])=some (.int .i64 d)/\(-9223372036854775808<=10*d/\10*d<=9223372036854775807)/\c8 env.D 9 (.str j) (.int .i64 (f:Int))=some (.int .u8 b)/\(0<=b-48/\b-48<=255)/\(-9223372036854775808<=b-48/\b-48<=9223372036854775807)/\(-9223372036854775808<=10*d+(b-48)/\10*d+(b-48)<=9223372036854775807)/\(0<=(a:Int)-1/\(a:Int)-1<(a:Int))/\bd env cr 104 (bf [(58,.ptr (some ⟨50,c,0+Int.toNat ((a:Int)-1),0,1⟩)),(57,.int .i64 (10*d+(b-48)))]) (T.af 105 [(50,(o4 h c k e))]) (Op.store 3 (Operand.tmp 58) (Operand.tmp 57))=some (J.tuple [],(T.af 105 [(50,(GX i c e))]))/\(-9223372036854775808<=(g:Int)+1/\(g:Int)+1<=9223372036854775807)/\(-9223372036854775808<=(f:Int)+1/\(f:Int)+1<=9223372036854775807)/\l .normal [(0,.str j),(4,(qF c a)),(5,.int .i64 ((g:Int)+1)),(6,.int .i64 ((f:Int)+1))] (T.af 111 [(50,(GX i c e))]))
noncomputable abbrev GY(b x:Int)(l2:List J)(v f:Nat):ch:=(.ak (.val 11002 (.int .u8 b)) (.aq 11003 (.ak (.val 11007 (.int .u8 b)) (.aq 11008 (.aq 11012 (ag 12003 (ag 12007 (Rg b x l2 v f))) .nil) .nil)) .nil))
abbrev GZ(d:Bytes)(c e:Nat)(a l:Int)(h k:List J)(b j g i:Nat)(f:bW->a8->T->Prop):Prop:=(48<=a->c8 env.D 9 (.str d) (.int .i64 (c:Int))=some (.int .u8 a)/\(a<=57->(Rh d c e a l h k b j g i f)/\(¬(e:Int)<9->f .ret [(0,.str d),(2,.slice none 0 0),(3,.bool false),(4,(qF b i)),(5,.int .i64 (e:Int)),(6,.int .i64 (c:Int))] (T.af 88 [(50,(o4 h b j g))])))/\(¬a<=57->f .ret [(0,.str d),(2,.slice none 0 0),(3,.bool false),(4,(qF b i)),(5,.int .i64 (e:Int)),(6,.int .i64 (c:Int))] (T.af 88 [(50,(o4 h b j g))])))
theorem G0(f:Bytes)(c i:Nat)(d m:Int)(g l:List J)(a j h b:Nat)(k:bW->a8->T->Prop)(o:((c:Int)<(↑f.length:Int)->c8 env.D 9 (.str f) (.int .i64 (c:Int))=some (.int .u8 d)/\(d=59->(0<(i:Int)->(a=a/\0+b=g.length/\b<b+1/\(b+1+(b+1)/4+512)*8<=281474976710656/\b+1<4611686018427387904)/\(-9223372036854775808<=(c:Int)+1/\(c:Int)+1<=9223372036854775807)/\k .normal [(0,.str f),(4,.slice (some {id:=50,ab:=a+1,idx:=0,fld:=0,es:=1}) (b+1) (b+1)),(5,.int .i64 0),(6,.int .i64 ((c:Int)+1))] (T.af 80 [(50,⟨g++[.int .i64 0],1,false,false,a+1,j,if j=a then g.length else min h g.length,some (3,0)⟩),(73,ac.aj [.int .i64 0] 1 true)]))/\(¬0<(i:Int)->c8 env.D 9 (.str f) (.int .i64 (c:Int))=some (.int .u8 d)/\(GZ f c i d m g l a j h b k)/\(¬48<=d->k .ret [(0,.str f),(2,.slice none 0 0),(3,.bool false),(4,(qF a b)),(5,.int .i64 (i:Int)),(6,.int .i64 (c:Int))] (T.af 88 [(50,(o4 g a j h))]))))/\(¬d=59->c8 env.D 9 (.str f) (.int .i64 (c:Int))=some (.int .u8 d)/\(GZ f c i d m g l a j h b k)/\(¬48<=d->k .ret [(0,.str f),(2,.slice none 0 0),(3,.bool false),(4,(qF a b)),(5,.int .i64 (i:Int)),(6,.int .i64 (c:Int))] (T.af 88 [(50,(o4 g a j h))]))))/\(¬(c:Int)<(↑f.length:Int)->k (.exit 0) [(0,.str f),(4,(qF a b)),(5,.int .i64 (i:Int)),(6,.int .i64 (c:Int))] (T.af 64 [(50,(o4 g a j h))]))) :
 ∃e n aa,bR 0 64 (br 111 0) [(0,.str f),(4,.slice (some ⟨50,a,0,0,1⟩) b b),(5,.int .i64 (i:Nat)),(6,.int .i64 (c:Nat))] (T.rows 60 [(50,jv g a j h)]) e n aa/\k e n aa :=
 di cP mixed bT (hs:= .aq 6003 (.ak (.val 8002 (.int .u8 d)) (.aq 8003 (.aq 8006 (ag 9002 (ag 7001 .nil)) (GY d m l a h)) (GY d m l a h))) .nil) (keep:=[0,2,3,4,5,6]) ar o
theorem Ri(a:bm)(b:a (.tuple [.slice none 0 0,.bool true]) (T.af 6 [])) :
 bC 111 [.str []] (⟨0,.nil⟩) a :=
 bI bT (.nil) b
theorem Rj(b:Bytes)(d f:J)(e:Nat)(a:T)(c:bm)(g:(b=[]->c (.tuple [.slice none 0 0,.bool true]) (T.af 6 []))/\(¬b=[]->bR 0 64 (Code.loop (br 111 0)) [(0,.str b),(4,.slice (cX 4) 1 1),(5,.int .i64 0),(6,.int .i64 0)] (T.af 8 [(4,ac.aj [.int .i64 0] 1 true)]) (.exit 0) [(0,.str b),(4,d),(5,.int .i64 (e:Int)),(6,f)] a/\(0<(e:Int)->c (.tuple [d,.bool true]) (T.mk (a.Y+5) (T.ay a)))/\(¬0<(e:Int)->c (.tuple [d,.bool false]) (T.mk (a.Y+5) (T.ay a))))) :
 bC 111 [.str b] (⟨0,.nil⟩) c :=
 bI bT (.aq 1001 .nil (.ak (.keep [0,4,5,6]) (.ak (.loop [(0,.str b),(4,d),(5,.int .i64 (e:Int)),(6,f)] a (.exit 0)) (.aq 15002 .nil .nil)))) g
theorem Rk(a:Bytes)(c:T)(b:bm)(d:(a=[]->b (.tuple [.slice none 0 0,.bool true]) (T.af 6 []))/\(¬a=[]->bR 0 64 (Code.loop (br 111 0)) [(0,.str a),(4,.slice (cX 4) 1 1),(5,.int .i64 0),(6,.int .i64 0)] (T.af 8 [(4,ac.aj [.int .i64 0] 1 true)]) .ret [(2,.slice none 0 0),(3,.bool false)] c/\b (.tuple [.slice none 0 0,.bool false]) c)) :
 bC 111 [.str a] (⟨0,.nil⟩) b :=
 bI bT (.aq 1001 .nil (.ak (.keep [0,4,5,6]) (.ak (.loop [(2,.slice none 0 0),(3,.bool false)] c .ret) .nil))) d
def jw:List Nat->Nat->Nat->Bytes->Option (List Nat×Nat)
 |L,x,u,[]=>some (L++[x],u)
 |L,x,u,b::r =>
  if b.toNat=59/\0<u then jw (L++[x]) 0 0 r
  else if 48<=b.toNat/\b.toNat<=57/\u<9 then jw L (10*x+(b.toNat-48)) (u+1) r else none
def iH(l:List Nat)(v:Nat)(B:ac):Prop:=(∃x:Nat,l=[x]/\v=0/\B=ac.aj [.int .i64 x] 1 true)\/(∃w f,2<=l.length/\B=jv (bb l) v w f)
theorem iH.bare{l:List Nat}{v:Nat}{B:ac}(h:iH l v B):cj B:=by
 rcases h with ⟨x,_,_,rfl⟩|⟨w,f,_,rfl⟩
 .intro e he;rw [cC.1 he];exact ci.int _ _
 .exact vH l
theorem G1{h:T}{b:ac}{id v i:Nat}{x:Int}(ag:h.get id=some b)(he:b.elem? v i=some (.int .i64 x)):a1 (a'.D env) 3 ⟨id,v,i,0,1⟩ h=some (.int .i64 x):=by have a:(a'.D env 3).map (λd=>d.kind.isAgg)=some false:= ar;obtain⟨d,aa,h2⟩:=b4.1 a;unfold a1;rw [aa,ag];simp only [he,ft,h2,ew,ey,dy]
theorem iH.load{l:List Nat}{v i k:Nat}{B:ac}(h:iH l v B)(ah:i<l.length){H:T}(ag:H.get k=some B):a1 (a'.D env) 3 ⟨k,v,i,0,1⟩ H=some (.int .i64 (l[i]:Nat)):=by
 refine G1 ag ?_;rcases h with ⟨x,rfl,rfl,rfl⟩|⟨w,f,_,rfl⟩
 .obtain rfl:i=0:=by simp at ah;exact ah
  rfl
 .simp [ac.elem?,ac.b0,bb,ah]
theorem Rl{h:T}{id v w f i:Nat}{l:List J}{x y:Int}(e:h.get id=some (jv l v w f))(ah:l[i]? =some (.int .i64 x)):eA (a'.D env) 3 ⟨id,v,i,0,1⟩ (.int .i64 y) h=some (h.set id (jv (l.set i (.int .i64 y)) v v f)):=by have a:(a'.D env 3).map (λd=>(d.kind.isAgg,d.size))=some (false,1):= ar;obtain⟨d,aa,h2⟩:=b4.1 a;simp only [bo]at h2;unfold eA;rw [aa,e];simp [J.fits,h2.1,h2.2,kn,ah,J.hD]
theorem Rm{t:TypeId}{F:a8}{H H1:T}{a:aT}{v:J}{nid k m:Nat}(b:bf F (.tmp k)=.ptr (some a))(hm:bf F (.tmp m)=v)(hs:eA (a'.D env) t a v H=some H1):bd env cr nid (bf F) H (Op.store t (Operand.tmp k) (Operand.tmp m))=some (.tuple [],H1):=by simp only [bd,b,hm,hs,ev]
abbrev hy(s:Bytes)(k v n u i:Nat):a8:=[(0,.str s),(4,.slice (some ⟨k,v,0,0,1⟩) n n),(5,.int .i64 (u:Nat)),(6,.int .i64 (i:Nat))]
def lx(s:Bytes)(L:List Nat)(x u i:Nat)(e:bW)(F:a8)(h:T):Prop :=
 (bP s i=59/\0<u/\e=.normal/\∃k v B,F=hy s k v (L.length+2) 0 (i+1)/\h.get k=some B/\iH (L++[x]++[0]) v B) \/
 (¬(bP s i=59/\0<u)/\(48<=bP s i/\bP s i<=57/\u<9)/\e=.normal/\∃k v B,F=hy s k v (L.length+1) (u+1) (i+1)/\h.get k=some B/\iH (L++[10*x+(bP s i-48)]) v B) \/
 (¬(bP s i=59/\0<u)/\¬(48<=bP s i/\bP s i<=57/\u<9)/\e=.ret/\∃c d g,F=[(0,.str s),(2,.slice none 0 0),(3,.bool false),(4,c),(5,d),(6,g)])
theorem cs(n:Nat):((n:Int)+1)=((n+1:Nat):Int):=rfl
theorem G2{x b:Nat}(h:48<=b):10* (x:Int)+((b:Int)-48)=((10*x+(b-48):Nat):Int):= V
theorem Rn{s:Bytes}{x u i:Nat}(ah:i<s.length)(hs:s.length<2^40)(r:x<10^u)(hu:u<=9) :
 ∃e F h,bR 0 64 (br 111 0) (hy s 50 0 1 u i) (T.rows 60 [(50,ac.aj [.int .i64 (x:Nat)] 1 true)]) e F h/\lx s [] x u i e F h:=by
 have a:=jt ah;have t:=nR s i;have v:x<10^9:=iN r (tC aA hu)
 have k:48<=bP s i->bP s i<=57->u<9-> ¬(bP s i=59/\0<u)-> ∀n,lx s [] x u i .normal [(0,.str s),(4,.slice (some ⟨50,0,0,0,1⟩) 1 1),(5,.int .i64 ((u:Int)+1)),(6,.int .i64 ((i:Int)+1))] (T.af n [(50,ac.aj [.int .i64 (10* (x:Int)+((bP s i:Int)-48))] 1 true)]):=by intro aa h2 l m n;refine .inr (.inl ⟨m,⟨aa,h2,l⟩,rfl,50,0,_,rfl,rfl,.inl ⟨_,rfl,rfl,?_⟩⟩);rw [G2 aa]
 have b:¬(bP s i=59/\0<u)-> ¬(48<=bP s i/\bP s i<=57/\u<9)-> ∀(c d g:J)(h:T),lx s [] x u i .ret [(0,.str s),(2,.slice none 0 0),(3,.bool false),(4,c),(5,d),(6,g)] h:=λaa h2 c d g h=> .inr (.inr ⟨aa,h2,rfl,c,d,g,rfl⟩)
 exact GW s i u (bP s i:Nat) (x:Nat) (lx s [] x u i) ⟨λ_=>⟨a,λo=>⟨λp=>⟨⟨V,V⟩,.inl ⟨V,V,rfl,74,0,_,rfl,rfl,.inr ⟨0,0,an,rfl⟩⟩⟩,λp=>⟨a,λj=>⟨a,λf=>absurd f V,λf=>b V V _ _ _ _⟩,λj=>b V V _ _ _ _⟩⟩,
  λo=>⟨a,λj=>⟨a,λf=>⟨λq=>⟨⟨V,V⟩,a,⟨V,V⟩,⟨V,V⟩,⟨V,V⟩,⟨V,V⟩,⟨V,V⟩,k V V V V _⟩,λq=>b V V _ _ _ _⟩,λf=>b V V _ _ _ _⟩,λj=>b V V _ _ _ _⟩⟩,λh=>absurd h V⟩
theorem Ro{s:Bytes}{L:List Nat}{x u i v f n:Nat}(c:L≠[])(aa:48<=bP s i)(h2:bP s i<=57)(a:u<9)(b:¬(bP s i=59/\0<u)):lx s L x u i .normal [(0,.str s),(4,.slice (some ⟨50,v,0,0,1⟩) (L.length+1) (L.length+1)),(5,.int .i64 ((u:Int)+1)),(6,.int .i64 ((i:Int)+1))] (T.af n [(50,jv (bb L++[.int .i64 (10* (x:Int)+((bP s i:Int)-48))]) v v f)]):=by
 have d:1<=L.length:=fS.2 c;have e:bb L++[.int .i64 (10* (x:Int)+((bP s i:Int)-48))]=bb (L++[10*x+(bP s i-48)]):=by rw [G2 aa];simp [bb]
 rw [e,cs,cs];exact .inr (.inl ⟨b,⟨aa,h2,a⟩,rfl,50,v,_,rfl,rfl,.inr ⟨v,f,by simp;omega,rfl⟩⟩)
theorem s'{s:Bytes}{L:List Nat}{x u i:Nat}(aa:¬(bP s i=59/\0<u))(h2:¬(48<=bP s i/\bP s i<=57/\u<9))(c d g:J)(h:T):lx s L x u i .ret [(0,.str s),(2,.slice none 0 0),(3,.bool false),(4,c),(5,d),(6,g)] h:= .inr (.inr ⟨aa,h2,rfl,c,d,g,rfl⟩)
theorem Rp{s:Bytes}{L:List Nat}{x u i v w f n:Nat}{q:T}(aa:bP s i=59)(h2:0<u)(a:q.get 50=some (jv (bb (L++[x])++[.int .i64 0]) (v+1) w f)):lx s L x u i .normal [(0,.str s),(4,.slice (some ⟨50,v+1,0,0,1⟩) (L.length+1+1) (L.length+1+1)),(5,.int .i64 0),(6,.int .i64 ((i:Int)+1))] q:=by rw [cs];exact .inl ⟨aa,h2,rfl,50,v+1,_,rfl,a,.inr ⟨w,f,an,by simp [bb]⟩⟩
theorem Rq{s:Bytes}{L:List Nat}{x u i v w f:Nat}(j:L≠[])(A:L.length<2^40)(ah:i<s.length)(hs:s.length<2^40)(t:x<10^u)(hu:u<=9) :
 ∃e F h,bR 0 64 (br 111 0) (hy s 50 v (L.length+1) u i) (T.rows 60 [(50,jv (bb (L++[x])) v w f)]) e F h/\lx s L x u i e F h:=by
 have c:=jt ah;have z:=nR s i;have C:x<10^9:=iN t (tC aA hu);have B:1<=L.length:=fS.2 j;have k:0+Int.toNat (((L.length+1:Nat):Int)-1)=L.length:= V;have p:(bb (L++[x]))[L.length]? =some (.int .i64 (x:Nat)):=by simp [bb]
 have o:(bb (L++[x])).set L.length (.int .i64 (10* (x:Int)+((bP s i:Int)-48)))=bb L++[.int .i64 (10* (x:Int)+((bP s i:Int)-48))]:=by simp [bb]
 have cD:∀n,a1 (a'.D env) 3 ⟨50,v,0+Int.toNat (((L.length+1:Nat):Int)-1),0,1⟩ (T.af n [(50,jv (bb (L++[x])) v w f)])=some (.int .i64 (x:Nat)):=λn=>by rw [k];exact G1 (b:=jv (bb (L++[x])) v w f) rfl (by simp [ac.elem?,ac.b0,bb])
 have e7:∀n,eA (a'.D env) 3 ⟨50,v,0+Int.toNat (((L.length+1:Nat):Int)-1),0,1⟩ (.int .i64 (10* (x:Int)+((bP s i:Int)-48))) (T.af n [(50,jv (bb (L++[x])) v w f)])=some (T.af n [(50,jv (bb L++[.int .i64 (10* (x:Int)+((bP s i:Int)-48))]) v v f)]):=λn=>by rw [k,Rl (w:=w) (f:=f) (l:=bb (L++[x])) rfl p,o];rfl
 have y:(bb (L++[x])).length=L.length+1:=by simp [bb]
 refine G0 s i u (bP s i:Nat) (x:Nat) (bb (L++[x])) (bb L++[.int .i64 (10* (x:Int)+((bP s i:Int)-48))]) v w f (L.length+1) (lx s L x u i) ⟨λ_=>⟨c,λm=>⟨λq=>⟨⟨rfl,?_,?_,?_,?_⟩,⟨V,V⟩,?_⟩,λq=>⟨c,λg=>⟨c,λd=>absurd d V,λd=> ?_⟩,λg=> ?_⟩⟩,
  λm=>⟨c,λg=>⟨c,λd=>⟨λr=>⟨⟨V,V⟩,⟨V,V⟩,⟨V,V⟩,cD _,⟨V,V⟩,c,⟨V,V⟩,⟨V,V⟩,⟨V,V⟩,⟨V,V⟩,?_,⟨V,V⟩,⟨V,V⟩,?_⟩,λr=> ?_⟩,λd=> ?_⟩,λg=> ?_⟩⟩,λh=>absurd h V⟩
 .rw [y];omega
 .omega
 .omega
 .omega
 .exact Rp (n:=0) V V rfl
 .exact s' V V _ _ _ _
 .exact s' V V _ _ _ _
 .exact Rm (a:=⟨50,v,0+Int.toNat (((L.length+1:Nat):Int)-1),0,1⟩) (v:= .int .i64 (10* (x:Int)+((bP s i:Int)-48))) ar ar (e7 _)
 .exact Ro j V V V V
 .exact s' V V _ _ _ _
 .exact s' V V _ _ _ _
 .exact s' V V _ _ _ _
theorem AT{s:Bytes}{k v n u i:Nat}{h:T}{B:ac}(a:cj B)(ag:h.get k=some B):b5 0 64 (hy s k v n u i) h (hy s 50 v n u i) (T.rows 60 [(50,B)]):=by
 refine b5.move (K:=60) (l:=[(50,B)]) (λ_=>k) ?_ rfl ?_ rfl rfl ?_ rfl ?_ ?_
 .simp [ag,a.aK]
 .simp
 .simp [J.aK,aT.aK]
 .exact a7.cons trivial (a7.cons (vI an) (a7.cons trivial (a7.cons trivial a7.nil)))
 .exact a7.cons (λe he=>(a e he).dh _) a7.nil
theorem Rr{a c d g:J}{n:Nat}{h:T} :b5 0 n [(0,a),(2,J.slice none 0 0),(3,J.bool false),(4,c),(5,d),(6,g)] h oX h :=
 b5.facts (by
  intro j u hu;rw [gH]at hu;split at hu
  .rename_i b;subst b;rw [<-hu];rfl
  .rw [gH]at hu;split at hu
   .rename_i b;subst b;rw [<-hu];rfl
   .cases hu)
theorem Rs{s:Bytes}{L:List Nat}{x u i v:Nat}{B:ac}(c:iH (L++[x]) v B)(d:L.length<2^40)(ah:i<s.length)(hs:s.length<2^40)(b:x<10^u)(hu:u<=9) :
 ∃e F h,bR 0 64 (br 111 0) (hy s 50 v (L.length+1) u i) (T.rows 60 [(50,B)]) e F h/\lx s L x u i e F h:=by
 rcases c with ⟨y,aa,rfl,rfl⟩|⟨w,f,aa,rfl⟩
 .cases L with
  |nil =>
   obtain rfl:x=y:=by simpa using aa
   exact Rn ah hs b hu
  |cons a r=>simp at aa
 .exact Rq (by rintro rfl;simp at aa) d ah hs b hu
theorem Rt{s:Bytes}{l:List Nat}{u v:Nat}{B:ac}(b:iH l v B) :
 ∃h,bR 0 64 (br 111 0) (hy s 50 v l.length u s.length) (T.rows 60 [(50,B)]) (.exit 0) (hy s 50 v l.length u s.length) h/\h.get 50=some B:=by
 rcases b with ⟨y,rfl,rfl,rfl⟩|⟨w,f,aa,rfl⟩
 .obtain⟨e,F,h,a,rfl,rfl,ag⟩:=GW s s.length u 0 (y:Nat) (λe F h=>e=.exit 0/\F=hy s 50 0 1 u s.length/\h.get 50=some (ac.aj [.int .i64 (y:Nat)] 1 true)) ⟨λh=>absurd h V,λ_=>⟨rfl,rfl,rfl⟩⟩;exact⟨h,a,ag⟩
 .obtain⟨e,F,h,a,rfl,rfl,ag⟩:=G0 s s.length u 0 0 (bb l) [] v w f l.length (λe F h=>e=.exit 0/\F=hy s 50 v l.length u s.length/\h.get 50=some (jv (bb l) v w f)) ⟨λh=>absurd h V,λ_=>⟨rfl,rfl,rfl⟩⟩;exact⟨h,a,ag⟩
theorem Ru{s:Bytes}(hs:s.length<2^40):∀(k i:Nat)(L:List Nat)(x u v:Nat)(B:ac),s.length-i<=k->i<=s.length->L.length<=i->x<10^u->u<=9->iH (L++[x]) v B ->
 (∀M b,jw L x u (s.drop i)=some (M,b)-> ∃ad k' f a,dl 0 64 (br 111 0) (hy s 50 v (L.length+1) u i) (T.rows 60 [(50,B)]) (.exit 0) (hy s k' f M.length b s.length) ad/\ad.get k'=some a/\iH M f a) /\
 (jw L x u (s.drop i)=none-> ∃ad,dl 0 64 (br 111 0) (hy s 50 v (L.length+1) u i) (T.rows 60 [(50,B)]) .ret oX ad):=by
 intro k;induction k with
 |zero =>
  intro i L x u v B z ah p n hu j;obtain rfl:i=s.length:= V;rw [lO];refine⟨λM b h=> ?_,λh=>by cases h⟩;simp only [jw,a6,bo]at h;obtain⟨rfl,rfl⟩:=h;obtain⟨h,l,ag⟩:=Rt (s:=s) (u:=u) j;rw [show L.length+1=(L++[x]).length by simp];exact⟨h,50,v,B,bX.last an l,ag,j⟩
 |succ k ih =>
  intro i L x u v B z ah p n hu j;by_cases al:i<s.length
  .have y:s.drop i=s[i]::s.drop (i+1):=iS al;have w:s[i].toNat=bP s i:=by unfold bP;rw [gf,c7 al];rfl
   rw [y];unfold jw;rw [w];obtain⟨e,F,h,l,t⟩:=Rs j V al hs n hu;rcases t with ⟨aa,h2,rfl,k',f,a,rfl,ag,az⟩|⟨aa,h2,rfl,k',f,a,rfl,ag,az⟩|⟨aa,h2,rfl,c,d,g,rfl⟩
   .rw [aE ⟨aa,h2⟩];obtain⟨i1,i2⟩:=ih (i+1) (L++[x]) 0 0 f a V V (by simp;omega) aA V az;have el:(L++[x]).length+1=L.length+2:= an;rw [el]at i1 i2;have e7:=λ{e F ad} (q:dl 0 64 (br 111 0) (hy s 50 f (L.length+2) 0 (i+1)) (T.rows 60 [(50,a)]) e F ad)=>bX.step (l.post (AT az.bare ag)) q
    exact⟨λM b e=>by obtain⟨ad,o,v2,m,q,r⟩:=i1 M b e;exact⟨ad,o,v2,m,e7 q,r⟩,λe=>by obtain⟨ad,q⟩:=i2 e;exact⟨ad,e7 q⟩⟩
   .rw [ap aa,aE h2];obtain⟨i1,i2⟩:=ih (i+1) L (10*x+(bP s i-48)) (u+1) f a V V V (by rw [Nat.pow_succ];omega) V az;have e7:=λ{e F ad} (q:dl 0 64 (br 111 0) (hy s 50 f (L.length+1) (u+1) (i+1)) (T.rows 60 [(50,a)]) e F ad)=>bX.step (l.post (AT az.bare ag)) q
    exact⟨λM b e=>by obtain⟨ad,o,v2,m,q,r⟩:=i1 M b e;exact⟨ad,o,v2,m,e7 q,r⟩,λe=>by obtain⟨ad,q⟩:=i2 e;exact⟨ad,e7 q⟩⟩
   .rw [ap aa,ap h2];exact⟨λM b e=>(by cases e),λ_=>⟨h,bX.last an (l.post Rr)⟩⟩
  .exact ih i L x u v B V ah p n hu j
theorem Rv{s:Bytes}(hs:s.length<2^40)(aN:s≠[]) :
 (∀M u,jw [] 0 0 s=some (M,u)-> ∃v B,iH M v B/\∀H,bu 111 [.str s] H (.tuple [.slice (some ⟨H.Y,v,0,0,1⟩) M.length M.length,.bool (decide (0<u))]) (H.dO [] [B])) /\
 (jw [] 0 0 s=none-> ∀H,bu 111 [.str s] H (.tuple [.slice none 0 0,.bool false]) H):=by
 obtain⟨j,l2⟩:=Ru hs s.length 0 [] 0 0 0 (ac.aj [.int .i64 (0:Nat)] 1 true) V V an aA V (.inl ⟨0,rfl,rfl,rfl⟩)
 have b:b5 0 64 (hy s 4 0 1 0 0) (T.af 8 [(4,ac.aj [.int .i64 (0:Nat)] 1 true)]) (hy s 50 0 1 0 0) (T.rows 60 [(50,ac.aj [.int .i64 (0:Nat)] 1 true)]) :=
  AT (by intro e he;rw [cC.1 he];exact ci.int _ _) rfl
 refine⟨λM u c=> ?_,λc H=> ?_⟩
 .obtain⟨ad,k,v,B,d,ag,az⟩:=j M u c;refine⟨v,B,az,λH=> ?_⟩;obtain⟨y,f,b,rfl,i⟩:=Rj s (.slice (some ⟨k,v,0,0,1⟩) M.length M.length) (.int .i64 (s.length:Nat)) u ad (λy f=>y=.tuple [.slice (some ⟨k,v,0,0,1⟩) M.length M.length,.bool (decide (0<u))]/\f.get k=some B) ⟨λh=>absurd h aN,λ_=>⟨cZ.dJ (d.pre b),λh=>⟨by rw [gj (by omega:0<u)],ag⟩,λh=>⟨by rw [gi (by omega:¬0<u)],ag⟩⟩⟩;exact bl.E2 b az.bare i (λa g=>by rw [cC.1 g];exact ci.str s) H
 .obtain⟨ad,d⟩:=l2 c;exact bl.cm (Rk s ad (λy _=>y=.tuple [.slice none 0 0,.bool false]) ⟨λh=>absurd h aN,λ_=>⟨cZ.dJ (d.pre b),rfl⟩⟩) rfl rfl H
theorem Rw(H:T):bu 111 [.str []] H (.tuple [.slice none 0 0,.bool true]) H :=
 bl.cm (Ri (λy _=>y=.tuple [.slice none 0 0,.bool true]) rfl) rfl rfl H
abbrev AU(a:T):T:=(T.mk (a.Y+2) (T.ay a))
abbrev wP:J:=J.tuple [.int .u8 0,.bool false]
abbrev AV(a:T):T:=(T.mk (a.Y+2+4) (T.ay (AU a)))
abbrev ta(a:T):T:=(T.mk (a.Y+6+19) (T.ay (AV a)))
theorem Rx(a:T)(e f c:Nat)(b:Int)(d:bm)(g:aW (a.Y) (a.Y) (aW (a.Y) (a.Y+2) (((c:Int)=1->aW (a.Y) (a.Y+6) (bk (a.Y) (a.Y+8) (d (.tuple [.int .u8 0,.bool true]) (T.mk (a.Y+6+2) (T.ay (AV a))))))/\(¬(c:Int)=1->aW (a.Y) (a.Y+6) (((c:Int)=2->((0:Int)<=1/\1<(c:Int))/\a1 env.D 3 ⟨e,f,1,0,1⟩ (aY a 25)=some (.int .i64 b)/\(b<1->aW (a.Y) (a.Y+25) (bk (a.Y) (a.Y+27) (d (wP) (T.mk (a.Y+25+2) (T.ay (ta a))))))/\(¬b<1->((0:Int)<=1/\1<(c:Int))/\a1 env.D 3 ⟨e,f,1,0,1⟩ (aY a 25)=some (.int .i64 b)/\(8<b->aW (a.Y) (a.Y+25) (bk (a.Y) (a.Y+27) (d (wP) (T.mk (a.Y+25+2) (T.ay (ta a))))))/\(¬8<b->aW (a.Y) (a.Y+25) (((0:Int)<=1/\1<(c:Int))/\a1 env.D 3 ⟨e,f,1,0,1⟩ (aY a 33)=some (.int .i64 b)/\(-9223372036854775808<=b-1/\b-1<=9223372036854775807)/\(0<=b-1/\b-1<=255)/\bk (a.Y) (a.Y+33) (d (.tuple [.int .u8 (b-1),.bool true]) (T.mk (a.Y+25+8) (T.ay (ta a))))))))/\(¬(c:Int)=2->aW (a.Y) (a.Y+25) (bk (a.Y) (a.Y+27) (d (wP) (T.mk (a.Y+25+2) (T.ay (ta a))))))))))) :
 bC 112 [.slice (some ⟨e,f,0,0,1⟩) c c,.int .i64 1] a d :=
 bI bT (.aq 1003 .nil (.aq 3004 (ag 3008 (.ak (.val 3009 (.int .i64 b)) (.aq 3010 .nil (ag 3015 (.ak (.val 3016 (.int .i64 b)) (.aq 3017 .nil (ag 5002 (.ak (.val 5003 (.int .i64 b)) (ag 5004 (ag 5005 .nil)))))))))) .nil)) g
theorem G3(a:Bytes)(c d:Int)(b:bm)(e:(a=[]->b (hg) (T.af 13 [(0,bE),(2,bE)]))/\(¬a=[]->c8 env.D 9 (.str a) (.int .i64 0)=some (.int .u8 c)/\(c=60->((0:Int)<=1/\1<=(↑a.length:Int))/\bM 111 [.str (List.drop 1 a)] (T.af 19 [(0,bx),(2,bE)]) (.tuple [.slice none 0 0,.bool false]) (T.af 19 [(0,bx),(2,bE)])/\b (hg) (T.af 52 [(0,bE),(2,bE)]))/\(¬c=60->b (hg) (T.af 13 [(0,bE),(2,bE)])))) :
 bC 110 [.str a,.int .u8 d] (⟨0,.nil⟩) b :=
 bI bT (.aq 2001 .nil (.ak (.val 2004 (.int .u8 c)) (.aq 2005 (ag 4001 (.ak (.val 4002 (.tuple [.slice none 0 0,.bool false])) .nil)) .nil))) e
theorem Ry(a:Bytes)(c d:Int)(b:bm)(e:(a=[]->b (hg) (T.af 13 [(0,bE),(2,bE)]))/\(¬a=[]->c8 env.D 9 (.str a) (.int .i64 0)=some (.int .u8 c)/\(c=60->((0:Int)<=1/\1<=(↑a.length:Int))/\bM 111 [.str (List.drop 1 a)] (T.af 19 [(0,bx),(2,bE)]) (.tuple [.slice none 0 0,.bool true]) (T.af 19 [(0,bx),(2,bE)])/\b (hg) (T.af 52 [(0,bE),(2,bE)]))/\(¬c=60->b (hg) (T.af 13 [(0,bE),(2,bE)])))) :
 bC 110 [.str a,.int .u8 d] (⟨0,.nil⟩) b :=
 bI bT (.aq 2001 .nil (.ak (.val 2004 (.int .u8 c)) (.aq 2005 (ag 4001 (.ak (.val 4002 (.tuple [.slice none 0 0,.bool true])) .nil)) .nil))) e
theorem Rz(a:Bytes)(c g:Int)(d:Nat)(e:ac)(f:aT)(b:bm)(i:(a=[]->b (hg) (T.af 13 [(0,bE),(2,bE)]))/\(¬a=[]->c8 env.D 9 (.str a) (.int .i64 0)=some (.int .u8 c)/\(c=60->((0:Int)<=1/\1<=(↑a.length:Int))/\bM 111 [.str (List.drop 1 a)] (T.af 19 [(0,bx),(2,bE)]) (.tuple [.slice (some f) d d,.bool false]) (T.af 20 [(0,bx),(2,bE),(19,e)])/\b (hg) (T.af 53 [(0,bE),(2,bE),(19,e)]))/\(¬c=60->b (hg) (T.af 13 [(0,bE),(2,bE)])))) :
 bC 110 [.str a,.int .u8 g] (⟨0,.nil⟩) b :=
 bI bT (.aq 2001 .nil (.ak (.val 2004 (.int .u8 c)) (.aq 2005 (ag 4001 (.ak (.act 4002 (.tuple [.slice (some f) d d,.bool false]) λh=>T.dO h [] [e]) .nil)) .nil))) i
theorem G4(i:Bytes)(j k:Int)(g f:Nat)(d:ac)(a b c:Int)(e:bm)(l:(i=[]->e (J.agg [J.int .i8 (7),J.int .i32 (0),J.int .u8 (0),J.int .i64 (0),J.int .i64 (0),J.str []]) (T.af 13 [(0,(ac.aj ([J.agg [J.int .i8 (7),J.int .i32 (0),J.int .u8 (0),J.int .i64 (0),J.int .i64 (0),J.str []]]) 6 true (some (42,6)))),(2,(ac.aj ([J.agg [J.int .i8 (7),J.int .i32 (0),J.int .u8 (0),J.int .i64 (0),J.int .i64 (0),J.str []]]) 6 true (some (42,6))))]))/\(¬i=[]->c8 (a'.D env) 9 (J.str i) (J.int .i64 (0))=some (J.int .u8 j)/\(j=60->((0:Int)<=1/\1<=(↑i.length:Int))/\bM 111 [J.str (List.drop 1 i)] (T.af 19 [(0,ac.aj [J.agg [J.int .i8 (0),J.int .i32 (0),J.int .u8 (0),J.int .i64 (0),J.int .i64 (0),J.str []]] 6 true (some (42,6))),(2,(ac.aj ([J.agg [J.int .i8 (7),J.int .i32 (0),J.int .u8 (0),J.int .i64 (0),J.int .i64 (0),J.str []]]) 6 true (some (42,6))))]) (J.tuple [J.slice (some ⟨19,g,0,0,1⟩) f f,J.bool true]) (T.af 20 [(0,ac.aj [J.agg [J.int .i8 (0),J.int .i32 (0),J.int .u8 (0),J.int .i64 (0),J.int .i64 (0),J.str []]] 6 true (some (42,6))),(2,(ac.aj ([J.agg [J.int .i8 (7),J.int .i32 (0),J.int .u8 (0),J.int .i64 (0),J.int .i64 (0),J.str []]]) 6 true (some (42,6)))),(19,d)])/\((↑f:Int)=3->((0:Int)<=1/\1<(↑f:Int))/\a1 (a'.D env) 3 ⟨19,g,1,0,1⟩ (T.af 51 [(0,ac.aj [J.agg [J.int .i8 (0),J.int .i32 (0),J.int .u8 (0),J.int .i64 (0),J.int .i64 (0),J.str []]] 6 true (some (42,6))),(2,(ac.aj ([J.agg [J.int .i8 (7),J.int .i32 (0),J.int .u8 (0),J.int .i64 (0),J.int .i64 (0),J.str []]]) 6 true (some (42,6)))),(19,d)])=some (J.int .i64 b)/\(b<1->e (J.agg [J.int .i8 (7),J.int .i32 (0),J.int .u8 (0),J.int .i64 (0),J.int .i64 (0),J.str []]) (T.af 53 [(0,(ac.aj ([J.agg [J.int .i8 (7),J.int .i32 (0),J.int .u8 (0),J.int .i64 (0),J.int .i64 (0),J.str []]]) 6 true (some (42,6)))),(2,(ac.aj ([J.agg [J.int .i8 (7),J.int .i32 (0),J.int .u8 (0),J.int .i64 (0),J.int .i64 (0),J.str []]]) 6 true (some (42,6)))),(19,d)]))/\(¬b<1->((0:Int)<=1/\1<(↑f:Int))/\a1 (a'.D env) 3 ⟨19,g,1,0,1⟩ (T.af 51 [(0,ac.aj [J.agg [J.int .i8 (0),J.int .i32 (0),J.int .u8 (0),J.int .i64 (0),J.int .i64 (0),J.str []]] 6 true (some (42,6))),(2,(ac.aj ([J.agg [J.int .i8 (7),J.int .i32 (0),J.int .u8 (0),J.int .i64 (0),J.int .i64 (0),J.str []]]) 6 true (some (42,6)))),(19,d)])=some (J.int .i64 b)/\(4096<b->e (J.agg [J.int .i8 (7),J.int .i32 (0),J.int .u8 (0),J.int .i64 (0),J.int .i64 (0),J.str []]) (T.af 53 [(0,(ac.aj ([J.agg [J.int .i8 (7),J.int .i32 (0),J.int .u8 (0),J.int .i64 (0),J.int .i64 (0),J.str []]]) 6 true (some (42,6)))),(2,(ac.aj ([J.agg [J.int .i8 (7),J.int .i32 (0),J.int .u8 (0),J.int .i64 (0),J.int .i64 (0),J.str []]]) 6 true (some (42,6)))),(19,d)]))/\(¬4096<b->((0:Int)<=2/\2<(↑f:Int))/\a1 (a'.D env) 3 ⟨19,g,2,0,1⟩ (T.af 51 [(0,ac.aj [J.agg [J.int .i8 (0),J.int .i32 (0),J.int .u8 (0),J.int .i64 (0),J.int .i64 (0),J.str []]] 6 true (some (42,6))),(2,(ac.aj ([J.agg [J.int .i8 (7),J.int .i32 (0),J.int .u8 (0),J.int .i64 (0),J.int .i64 (0),J.str []]]) 6 true (some (42,6)))),(19,d)])=some (J.int .i64 c)/\(c<1->e (J.agg [J.int .i8 (7),J.int .i32 (0),J.int .u8 (0),J.int .i64 (0),J.int .i64 (0),J.str []]) (T.af 53 [(0,(ac.aj ([J.agg [J.int .i8 (7),J.int .i32 (0),J.int .u8 (0),J.int .i64 (0),J.int .i64 (0),J.str []]]) 6 true (some (42,6)))),(2,(ac.aj ([J.agg [J.int .i8 (7),J.int .i32 (0),J.int .u8 (0),J.int .i64 (0),J.int .i64 (0),J.str []]]) 6 true (some (42,6)))),(19,d)]))/\(¬c<1->((0:Int)<=2/\2<(↑f:Int))/\a1 (a'.D env) 3 ⟨19,g,2,0,1⟩ (T.af 51 [(0,ac.aj [J.agg [J.int .i8 (0),J.int .i32 (0),J.int .u8 (0),J.int .i64 (0),J.int .i64 (0),J.str []]] 6 true (some (42,6))),(2,(ac.aj ([J.agg [J.int .i8 (7),J.int .i32 (0),J.int .u8 (0),J.int .i64 (0),J.int .i64 (0),J.str []]]) 6 true (some (42,6)))),(19,d)])=some (J.int .i64 c)/\(4096<c->e (J.agg [J.int .i8 (7),J.int .i32 (0),J.int .u8 (0),J.int .i64 (0),J.int .i64 (0),J.str []]) (T.af 53 [(0,(ac.aj ([J.agg [J.int .i8 (7),J.int .i32 (0),J.int .u8 (0),J.int .i64 (0),J.int .i64 (0),J.str []]]) 6 true (some (42,6)))),(2,(ac.aj ([J.agg [J.int .i8 (7),J.int .i32 (0),J.int .u8 (0),J.int .i64 (0),J.int .i64 (0),J.str []]]) 6 true (some (42,6)))),(19,d)]))/\(¬4096<c->((0:Int)<=0/\0<(↑f:Int))/\a1 (a'.D env) 3 ⟨19,g,0,0,1⟩ (T.af 57 [(0,ac.aj [J.agg [J.int .i8 (0),J.int .i32 (0),J.int .u8 (0),J.int .i64 (0),J.int .i64 (0),J.str []]] 6 true (some (42,6))),(2,(ac.aj ([J.agg [J.int .i8 (7),J.int .i32 (0),J.int .u8 (0),J.int .i64 (0),J.int .i64 (0),J.str []]]) 6 true (some (42,6)))),(19,d)])=some (J.int .i64 a)/\(((4:Int)=0->False)/\jM .i64 (Int.tdiv a 4))/\((8:Int)=0->False)/\((0:Int)<=0/\0<(↑f:Int))/\a1 (a'.D env) 3 ⟨19,g,0,0,1⟩ (T.af 64 [(0,ac.aj [J.agg [J.int .i8 (0),J.int .i32 (0),J.int .u8 (0),J.int .i64 (0),J.int .i64 (0),J.str []]] 6 true (some (42,6))),(2,(ac.aj ([J.agg [J.int .i8 (7),J.int .i32 (0),J.int .u8 (0),J.int .i64 (0),J.int .i64 (0),J.str []]]) 6 true (some (42,6)))),(19,d)])=some (J.int .i64 a)/\(-9223372036854775808<=4*Int.tmod (Int.tdiv a 4) 8/\4*Int.tmod (Int.tdiv a 4) 8<=9223372036854775807)/\(-9223372036854775808<=a-4*Int.tmod (Int.tdiv a 4) 8/\a-4*Int.tmod (Int.tdiv a 4) 8<=9223372036854775807)/\(0<=Int.tmod (Int.tdiv a 4) 8/\Int.tmod (Int.tdiv a 4) 8<=255)/\((0:Int)<=1/\1<(↑f:Int))/\a1 (a'.D env) 3 ⟨19,g,1,0,1⟩ (T.af 77 [(0,ac.aj [J.agg [J.int .i8 (0),J.int .i32 (0),J.int .u8 (0),J.int .i64 (0),J.int .i64 (0),J.str []]] 6 true (some (42,6))),(2,(ac.aj ([J.agg [J.int .i8 (7),J.int .i32 (0),J.int .u8 (0),J.int .i64 (0),J.int .i64 (0),J.str []]]) 6 true (some (42,6)))),(19,d)])=some (J.int .i64 b)/\(-9223372036854775808<=b-1/\b-1<=9223372036854775807)/\((0:Int)<=2/\2<(↑f:Int))/\a1 (a'.D env) 3 ⟨19,g,2,0,1⟩ (T.af 77 [(0,ac.aj [J.agg [J.int .i8 (0),J.int .i32 (0),J.int .u8 (0),J.int .i64 (0),J.int .i64 (0),J.str []]] 6 true (some (42,6))),(2,(ac.aj ([J.agg [J.int .i8 (7),J.int .i32 (0),J.int .u8 (0),J.int .i64 (0),J.int .i64 (0),J.str []]]) 6 true (some (42,6)))),(19,d)])=some (J.int .i64 c)/\(-9223372036854775808<=c-1/\c-1<=9223372036854775807)/\(k=109->(3<a-4*Int.tmod (Int.tdiv a 4) 8->e (J.agg [J.int .i8 (7),J.int .i32 (0),J.int .u8 (0),J.int .i64 (0),J.int .i64 (0),J.str []]) (T.af 85 [(0,(ac.aj ([J.agg [J.int .i8 (7),J.int .i32 (0),J.int .u8 (0),J.int .i64 (0),J.int .i64 (0),J.str []]]) 6 true (some (42,6)))),(2,(ac.aj ([J.agg [J.int .i8 (7),J.int .i32 (0),J.int .u8 (0),J.int .i64 (0),J.int .i64 (0),J.str []]]) 6 true (some (42,6)))),(19,d),(75,(ac.aj ([J.agg [J.int .i8 (3),J.int .i32 (3),J.int .u8 (Int.tmod (Int.tdiv a 4) 8),J.int .i64 (b-1),J.int .i64 (c-1),J.str []]]) 6 true (some (42,6))))]))/\(¬3<a-4*Int.tmod (Int.tdiv a 4) 8->e (J.agg [J.int .i8 (3),J.int .i32 (3),J.int .u8 (Int.tmod (Int.tdiv a 4) 8),J.int .i64 (b-1),J.int .i64 (c-1),J.str []]) (T.af 85 [(0,(ac.aj ([J.agg [J.int .i8 (3),J.int .i32 (3),J.int .u8 (Int.tmod (Int.tdiv a 4) 8),J.int .i64 (b-1),J.int .i64 (c-1),J.str []]]) 6 true (some (42,6)))),(2,(ac.aj ([J.agg [J.int .i8 (7),J.int .i32 (0),J.int .u8 (0),J.int .i64 (0),J.int .i64 (0),J.str []]]) 6 true (some (42,6)))),(19,d),(75,(ac.aj ([J.agg [J.int .i8 (3),J.int .i32 (3),J.int .u8 (Int.tmod (Int.tdiv a 4) 8),J.int .i64 (b-1),J.int .i64 (c-1),J.str []]]) 6 true (some (42,6))))])))/\(¬k=109->(a-4*Int.tmod (Int.tdiv a 4) 8=0->(-2147483648<=a-4*Int.tmod (Int.tdiv a 4) 8/\a-4*Int.tmod (Int.tdiv a 4) 8<=2147483647)/\e (J.agg [J.int .i8 (3),J.int .i32 (a-4*Int.tmod (Int.tdiv a 4) 8),J.int .u8 (Int.tmod (Int.tdiv a 4) 8),J.int .i64 (b-1),J.int .i64 (c-1),J.str []]) (T.af 88 [(0,(ac.aj ([J.agg [J.int .i8 (3),J.int .i32 (a-4*Int.tmod (Int.tdiv a 4) 8),J.int .u8 (Int.tmod (Int.tdiv a 4) 8),J.int .i64 (b-1),J.int .i64 (c-1),J.str []]]) 6 true (some (42,6)))),(2,(ac.aj ([J.agg [J.int .i8 (7),J.int .i32 (0),J.int .u8 (0),J.int .i64 (0),J.int .i64 (0),J.str []]]) 6 true (some (42,6)))),(19,d),(75,(ac.aj ([J.agg [J.int .i8 (3),J.int .i32 (a-4*Int.tmod (Int.tdiv a 4) 8),J.int .u8 (Int.tmod (Int.tdiv a 4) 8),J.int .i64 (b-1),J.int .i64 (c-1),J.str []]]) 6 true (some (42,6))))]))/\(¬a-4*Int.tmod (Int.tdiv a 4) 8=0->(a-4*Int.tmod (Int.tdiv a 4) 8=1->(-2147483648<=a-4*Int.tmod (Int.tdiv a 4) 8/\a-4*Int.tmod (Int.tdiv a 4) 8<=2147483647)/\e (J.agg [J.int .i8 (3),J.int .i32 (a-4*Int.tmod (Int.tdiv a 4) 8),J.int .u8 (Int.tmod (Int.tdiv a 4) 8),J.int .i64 (b-1),J.int .i64 (c-1),J.str []]) (T.af 90 [(0,(ac.aj ([J.agg [J.int .i8 (3),J.int .i32 (a-4*Int.tmod (Int.tdiv a 4) 8),J.int .u8 (Int.tmod (Int.tdiv a 4) 8),J.int .i64 (b-1),J.int .i64 (c-1),J.str []]]) 6 true (some (42,6)))),(2,(ac.aj ([J.agg [J.int .i8 (7),J.int .i32 (0),J.int .u8 (0),J.int .i64 (0),J.int .i64 (0),J.str []]]) 6 true (some (42,6)))),(19,d),(75,(ac.aj ([J.agg [J.int .i8 (3),J.int .i32 (a-4*Int.tmod (Int.tdiv a 4) 8),J.int .u8 (Int.tmod (Int.tdiv a 4) 8),J.int .i64 (b-1),J.int .i64 (c-1),J.str []]]) 6 true (some (42,6))))]))/\(¬a-4*Int.tmod (Int.tdiv a 4) 8=1->(a-4*Int.tmod (Int.tdiv a 4) 8=2->(-2147483648<=a-4*Int.tmod (Int.tdiv a 4) 8/\a-4*Int.tmod (Int.tdiv a 4) 8<=2147483647)/\e (J.agg [J.int .i8 (3),J.int .i32 (a-4*Int.tmod (Int.tdiv a 4) 8),J.int .u8 (Int.tmod (Int.tdiv a 4) 8),J.int .i64 (b-1),J.int .i64 (c-1),J.str []]) (T.af 92 [(0,(ac.aj ([J.agg [J.int .i8 (3),J.int .i32 (a-4*Int.tmod (Int.tdiv a 4) 8),J.int .u8 (Int.tmod (Int.tdiv a 4) 8),J.int .i64 (b-1),J.int .i64 (c-1),J.str []]]) 6 true (some (42,6)))),(2,(ac.aj ([J.agg [J.int .i8 (7),J.int .i32 (0),J.int .u8 (0),J.int .i64 (0),J.int .i64 (0),J.str []]]) 6 true (some (42,6)))),(19,d),(75,(ac.aj ([J.agg [J.int .i8 (3),J.int .i32 (a-4*Int.tmod (Int.tdiv a 4) 8),J.int .u8 (Int.tmod (Int.tdiv a 4) 8),J.int .i64 (b-1),J.int .i64 (c-1),J.str []]]) 6 true (some (42,6))))]))/\(¬a-4*Int.tmod (Int.tdiv a 4) 8=2->(a-4*Int.tmod (Int.tdiv a 4) 8=32->e (J.agg [J.int .i8 (3),J.int .i32 (6),J.int .u8 (Int.tmod (Int.tdiv a 4) 8),J.int .i64 (b-1),J.int .i64 (c-1),J.str []]) (T.af 92 [(0,(ac.aj ([J.agg [J.int .i8 (3),J.int .i32 (6),J.int .u8 (Int.tmod (Int.tdiv a 4) 8),J.int .i64 (b-1),J.int .i64 (c-1),J.str []]]) 6 true (some (42,6)))),(2,(ac.aj ([J.agg [J.int .i8 (7),J.int .i32 (0),J.int .u8 (0),J.int .i64 (0),J.int .i64 (0),J.str []]]) 6 true (some (42,6)))),(19,d),(75,(ac.aj ([J.agg [J.int .i8 (3),J.int .i32 (6),J.int .u8 (Int.tmod (Int.tdiv a 4) 8),J.int .i64 (b-1),J.int .i64 (c-1),J.str []]]) 6 true (some (42,6))))]))/\(¬a-4*Int.tmod (Int.tdiv a 4) 8=32->(a-4*Int.tmod (Int.tdiv a 4) 8=33->e (J.agg [J.int .i8 (3),J.int .i32 (6),J.int .u8 (Int.tmod (Int.tdiv a 4) 8),J.int .i64 (b-1),J.int .i64 (c-1),J.str []]) (T.af 94 [(0,(ac.aj ([J.agg [J.int .i8 (3),J.int .i32 (6),J.int .u8 (Int.tmod (Int.tdiv a 4) 8),J.int .i64 (b-1),J.int .i64 (c-1),J.str []]]) 6 true (some (42,6)))),(2,(ac.aj ([J.agg [J.int .i8 (7),J.int .i32 (0),J.int .u8 (0),J.int .i64 (0),J.int .i64 (0),J.str []]]) 6 true (some (42,6)))),(19,d),(75,(ac.aj ([J.agg [J.int .i8 (3),J.int .i32 (6),J.int .u8 (Int.tmod (Int.tdiv a 4) 8),J.int .i64 (b-1),J.int .i64 (c-1),J.str []]]) 6 true (some (42,6))))]))/\(¬a-4*Int.tmod (Int.tdiv a 4) 8=33->(a-4*Int.tmod (Int.tdiv a 4) 8=34->e (J.agg [J.int .i8 (3),J.int .i32 (6),J.int .u8 (Int.tmod (Int.tdiv a 4) 8),J.int .i64 (b-1),J.int .i64 (c-1),J.str []]) (T.af 96 [(0,(ac.aj ([J.agg [J.int .i8 (3),J.int .i32 (6),J.int .u8 (Int.tmod (Int.tdiv a 4) 8),J.int .i64 (b-1),J.int .i64 (c-1),J.str []]]) 6 true (some (42,6)))),(2,(ac.aj ([J.agg [J.int .i8 (7),J.int .i32 (0),J.int .u8 (0),J.int .i64 (0),J.int .i64 (0),J.str []]]) 6 true (some (42,6)))),(19,d),(75,(ac.aj ([J.agg [J.int .i8 (3),J.int .i32 (6),J.int .u8 (Int.tmod (Int.tdiv a 4) 8),J.int .i64 (b-1),J.int .i64 (c-1),J.str []]]) 6 true (some (42,6))))]))/\(¬a-4*Int.tmod (Int.tdiv a 4) 8=34->(a-4*Int.tmod (Int.tdiv a 4) 8=35->e (J.agg [J.int .i8 (3),J.int .i32 (6),J.int .u8 (Int.tmod (Int.tdiv a 4) 8),J.int .i64 (b-1),J.int .i64 (c-1),J.str []]) (T.af 98 [(0,(ac.aj ([J.agg [J.int .i8 (3),J.int .i32 (6),J.int .u8 (Int.tmod (Int.tdiv a 4) 8),J.int .i64 (b-1),J.int .i64 (c-1),J.str []]]) 6 true (some (42,6)))),(2,(ac.aj ([J.agg [J.int .i8 (7),J.int .i32 (0),J.int .u8 (0),J.int .i64 (0),J.int .i64 (0),J.str []]]) 6 true (some (42,6)))),(19,d),(75,(ac.aj ([J.agg [J.int .i8 (3),J.int .i32 (6),J.int .u8 (Int.tmod (Int.tdiv a 4) 8),J.int .i64 (b-1),J.int .i64 (c-1),J.str []]]) 6 true (some (42,6))))]))/\(¬a-4*Int.tmod (Int.tdiv a 4) 8=35->(a-4*Int.tmod (Int.tdiv a 4) 8=64->e (J.agg [J.int .i8 (3),J.int .i32 (4),J.int .u8 (Int.tmod (Int.tdiv a 4) 8),J.int .i64 (b-1),J.int .i64 (c-1),J.str []]) (T.af 100 [(0,(ac.aj ([J.agg [J.int .i8 (3),J.int .i32 (4),J.int .u8 (Int.tmod (Int.tdiv a 4) 8),J.int .i64 (b-1),J.int .i64 (c-1),J.str []]]) 6 true (some (42,6)))),(2,(ac.aj ([J.agg [J.int .i8 (7),J.int .i32 (0),J.int .u8 (0),J.int .i64 (0),J.int .i64 (0),J.str []]]) 6 true (some (42,6)))),(19,d),(75,(ac.aj ([J.agg [J.int .i8 (3),J.int .i32 (4),J.int .u8 (Int.tmod (Int.tdiv a 4) 8),J.int .i64 (b-1),J.int .i64 (c-1),J.str []]]) 6 true (some (42,6))))]))/\(¬a-4*Int.tmod (Int.tdiv a 4) 8=64->(a-4*Int.tmod (Int.tdiv a 4) 8=65->e (J.agg [J.int .i8 (3),J.int .i32 (5),J.int .u8 (Int.tmod (Int.tdiv a 4) 8),J.int .i64 (b-1),J.int .i64 (c-1),J.str []]) (T.af 102 [(0,(ac.aj ([J.agg [J.int .i8 (3),J.int .i32 (5),J.int .u8 (Int.tmod (Int.tdiv a 4) 8),J.int .i64 (b-1),J.int .i64 (c-1),J.str []]]) 6 true (some (42,6)))),(2,(ac.aj ([J.agg [J.int .i8 (7),J.int .i32 (0),J.int .u8 (0),J.int .i64 (0),J.int .i64 (0),J.str []]]) 6 true (some (42,6)))),(19,d),(75,(ac.aj ([J.agg [J.int .i8 (3),J.int .i32 (5),J.int .u8 (Int.tmod (Int.tdiv a 4) 8),J.int .i64 (b-1),J.int .i64 (c-1),J.str []]]) 6 true (some (42,6))))]))/\(¬a-4*Int.tmod (Int.tdiv a 4) 8=65->e (J.agg [J.int .i8 (7),J.int .i32 (0),J.int .u8 (0),J.int .i64 (0),J.int .i64 (0),J.str []]) (T.af 100 [(0,(ac.aj ([J.agg [J.int .i8 (7),J.int .i32 (0),J.int .u8 (0),J.int .i64 (0),J.int .i64 (0),J.str []]]) 6 true (some (42,6)))),(2,(ac.aj ([J.agg [J.int .i8 (7),J.int .i32 (0),J.int .u8 (0),J.int .i64 (0),J.int .i64 (0),J.str []]]) 6 true (some (42,6)))),(19,d),(75,(ac.aj ([J.agg [J.int .i8 (3),J.int .i32 (0),J.int .u8 (Int.tmod (Int.tdiv a 4) 8),J.int .i64 (b-1),J.int .i64 (c-1),J.str []]]) 6 true (some (42,6))))]))))))))))))))))/\(¬(↑f:Int)=3->e (J.agg [J.int .i8 (7),J.int .i32 (0),J.int .u8 (0),J.int .i64 (0),J.int .i64 (0),J.str []]) (T.af 53 [(0,(ac.aj ([J.agg [J.int .i8 (7),J.int .i32 (0),J.int .u8 (0),J.int .i64 (0),J.int .i64 (0),J.str []]]) 6 true (some (42,6)))),(2,(ac.aj ([J.agg [J.int .i8 (7),J.int .i32 (0),J.int .u8 (0),J.int .i64 (0),J.int .i64 (0),J.str []]]) 6 true (some (42,6)))),(19,d)])))/\(¬j=60->e (J.agg [J.int .i8 (7),J.int .i32 (0),J.int .u8 (0),J.int .i64 (0),J.int .i64 (0),J.str []]) (T.af 13 [(0,(ac.aj ([J.agg [J.int .i8 (7),J.int .i32 (0),J.int .u8 (0),J.int .i64 (0),J.int .i64 (0),J.str []]]) 6 true (some (42,6)))),(2,(ac.aj ([J.agg [J.int .i8 (7),J.int .i32 (0),J.int .u8 (0),J.int .i64 (0),J.int .i64 (0),J.str []]]) 6 true (some (42,6))))])))) :
 bC 110 [.str i,.int .u8 k] (⟨0,.nil⟩) e :=
 bI bT (.aq 2001 .nil (.ak (.val 2004 (J.int .u8 j)) (.aq 2005 (.ak (.go 4001) (.ak (.act 4002 (J.tuple [J.slice (some ⟨19,g,0,0,1⟩) f f,J.bool true]) λh=>T.dO h [] [d]) (.aq 5005 (.ak (.go 5009) (.ak (.val 5010 (J.int .i64 b)) (.aq 5011 .nil (.ak (.go 5015) (.ak (.val 5016 (J.int .i64 b)) (.aq 5017 .nil (.ak (.go 5021) (.ak (.val 5022 (J.int .i64 c)) (.aq 5023 .nil (.ak (.go 5027) (.ak (.val 5028 (J.int .i64 c)) (.aq 5029 .nil (.ak (.go 7001) (.ak (.val 7002 (J.int .i64 a)) (.ak (.go 7003) (.ak (.go 7004) (.ak (.go 8001) (.ak (.val 8002 (J.int .i64 a)) (.ak (.go 8004) (.ak (.go 8005) (.ak (.go 9001) (.ak (.go 9003) (.ak (.val 9004 (J.int .i64 b)) (.ak (.go 9005) (.ak (.go 9007) (.ak (.val 9008 (J.int .i64 c)) (.ak (.go 9009) (.aq 10001 (.aq 12001 .nil .nil) (.aq 17000 (.ak (.go 20001) .nil) (.aq 18000 (.ak (.go 20001) .nil) (.aq 19000 (.ak (.go 20001) .nil) (.aq 21000 .nil (.aq 22000 .nil (.aq 23000 .nil (.aq 24000 .nil (.aq 26000 .nil (.aq 28000 .nil .nil))))))))))))))))))))))))))))))))))))) .nil))) .nil))) l
end Go.Proofs.YtddnafghiejcoaaGreatDoor
namespace Go.Keys
def AW(s:Bytes):Option (List Nat):=if s=[]then some []else(Go.Proofs.YtddnafghiejcoaaGreatDoor.jw [] 0 0 s).bind λp=>if 0<p.2 then some p.1 else none
theorem G5{w:Bytes}(aN:¬w=[])(a:w.length<=9)(hw:w.all digit=true):¬(w=[]\/9<w.length\/w.all digit=false):=by
 rintro (h|h|h)
 .exact aN h
 .omega
 .rw [hw]at h;cases h
theorem AX:∀(s:Bytes)(L:List Nat)(w f:Bytes)(t:List Bytes),splitAt 59 s=f::t->w.length<=9->w.all digit=true ->
 ((Go.Proofs.YtddnafghiejcoaaGreatDoor.jw L (number w) w.length s).bind λp=>if 0<p.2 then some p.1 else none)=(fN ((w++f)::t)).map (L++ ·)
 |[],L,w,f,t,hs,g,hw=>by
  simp only [splitAt,fT]at hs;obtain⟨rfl,rfl⟩:=hs;simp only [Go.Proofs.YtddnafghiejcoaaGreatDoor.jw,pq,fV,fN];by_cases aN:w=[]
  .subst aN;simp
  .have:0<w.length:=fS.2 aN;rw [aE this,ap (G5 aN g hw)];simp
 |b :: r, L,w,f,t,hs,g,hw=>by
  unfold Go.Proofs.YtddnafghiejcoaaGreatDoor.jw;by_cases e:b=59
  .subst e;simp only [splitAt,dy,fT]at hs;obtain⟨rfl,rfl⟩:=hs;rw [fV];by_cases aN:w=[]
   .subst aN;rw [ap an,ap aA];simp [fN]
   .have:0<w.length:=fS.2 aN;rw [aE ⟨rfl,this⟩]
    obtain⟨f2,t2,aO⟩:∃f2 t2,splitAt 59 r=f2::t2:=by
     cases h:splitAt 59 r with
     |nil=>exact absurd h (qq 59 r)
     |cons a b=>exact⟨a,b,rfl⟩
    have ih:=AX r (L++[number w]) [] f2 t2 aO an rfl;rw [aO]
    conv=>rhs;unfold fN
    rw [ap (G5 aN g hw)];simp only [eg]at ih;rw [show number ([]:Bytes)=0 from rfl,show([]:Bytes).length=0 from rfl]at ih;rw [ih];cases fN (f2::t2)<;>simp
  .obtain⟨f2,t2,aO⟩:∃f2 t2,splitAt 59 r=f2::t2:=by
    cases h:splitAt 59 r with
    |nil=>exact absurd h (qq 59 r)
    |cons a b=>exact⟨a,b,rfl⟩
   unfold splitAt at hs;rw [ap e,aO]at hs;simp only [fT]at hs;obtain⟨rfl,rfl⟩:=hs;have i:b.toNat≠59:=λh=>e (fq.1 h)
   rw [ap (λh=>i h.1)];by_cases d:48<=b.toNat/\b.toNat<=57/\w.length<9
   .rw [aE d];have c:digit b=true:=by simp [digit,d.1,d.2.1]
    have ih:=AX r L (w++[b]) f2 t2 aO (by simp;omega) (by simp only [List.all_append,hw,hY,c,List.all_nil];rfl);rw [Qz,dt]at ih;simp only [ik,List.singleton_append]at ih;exact ih
   .rw [ap d];unfold fN;rw [aE]
    .rfl
    .by_cases c:digit b=true
     .simp only [digit,cS,gx]at c;refine .inr (.inl ?_);simp only [dt,b'];have:¬w.length<9:=λq=>d ⟨c.1,c.2,q⟩
      omega
     .refine .inr (.inr ?_);rw [List.all_append,hY,kZ.2 c];simp
theorem RA(s:Bytes):AW s=numbers s:=by
 unfold AW numbers;by_cases h:s=[]
 .rw [aE h,aE h]
 .rw [ap h,ap h];cases hs:splitAt 59 s with
  |nil=>exact absurd hs (qq 59 s)
  |cons f t =>
   have:=AX s [] [] f t hs an rfl;simp only [eg]at this;rw [show(number []:Nat)=0 from rfl,show([]:Bytes).length=0 from rfl]at this;rw [this];cases fN (f::t)<;>rfl
end Go.Keys
namespace Go.Proofs.YtddnafghiejcoaaGreatDoor
open Go.bh Go.Keys Go.Lib
set_option maxRecDepth 1000000
theorem G6{s:Bytes}(hs:s.length<2^40) :
 (Keys.numbers s=none/\((∀H,bu 111 [.str s] H (.tuple [.slice none 0 0,.bool false]) H)\/ ∃n v B,∀H,bu 111 [.str s] H (.tuple [.slice (some ⟨H.Y,v,0,0,1⟩) n n,.bool false]) (H.dO [] [B]))) \/
 (Keys.numbers s=some []/\∀H,bu 111 [.str s] H (.tuple [.slice none 0 0,.bool true]) H) \/
 (∃M,M≠[]/\Keys.numbers s=some M/\∃v B,iH M v B/\∀H,bu 111 [.str s] H (.tuple [.slice (some ⟨H.Y,v,0,0,1⟩) M.length M.length,.bool true]) (H.dO [] [B])):=by
 by_cases aN:s=[]
 .subst aN;exact .inr (.inl ⟨rfl,Rw⟩)
 .obtain⟨b,n2⟩:=Rv hs aN;have e:=RA s;unfold AW at e;rw [ap aN]at e;cases ag:jw [] 0 0 s with
  |none =>
   rw [ag]at e;exact .inl ⟨e.symm,.inl (n2 ag)⟩
  |some p =>
   obtain⟨M,u⟩:=p;rw [ag]at e;simp only [pq]at e;obtain⟨v,B,az,a⟩:=b M u ag;by_cases hu:0<u
   .rw [aE hu]at e;rw [gj hu]at a;refine .inr (.inr ⟨M,?_,e.symm,v,B,az,a⟩);rintro rfl;rcases az with ⟨x,h,_⟩|⟨w,f,h,_⟩
    .cases h
    .simp at h
   .rw [ap hu]at e;rw [gi hu]at a;exact .inl ⟨e.symm,.inr ⟨M.length,v,B,a⟩⟩
def tb(a b n2 c:Nat):Option aP :=
 if b<1\/4096<b\/n2<1\/4096<n2 then none
 else if c=109/\a-4* (a/4%8)<=3 then some ⟨3,3,(a/4%8:Nat),(b:Int)-1,(n2:Int)-1,[]⟩
 else if c=77/\a-4* (a/4%8)<=2 then some ⟨3,(a-4* (a/4%8):Nat),(a/4%8:Nat),(b:Int)-1,(n2:Int)-1,[]⟩
 else if c=77/\32<=a-4* (a/4%8)/\a-4* (a/4%8)<=35 then some ⟨3,6,(a/4%8:Nat),(b:Int)-1,(n2:Int)-1,[]⟩
 else if c=77/\a-4* (a/4%8)=64 then some ⟨3,4,(a/4%8:Nat),(b:Int)-1,(n2:Int)-1,[]⟩
 else if c=77/\a-4* (a/4%8)=65 then some ⟨3,5,(a/4%8:Nat),(b:Int)-1,(n2:Int)-1,[]⟩
 else none
theorem RB{r:Bytes}{c a b n2:Nat}(h:Keys.numbers r=some [a,b,n2]):Keys.dj (60::r) c=tb a b n2 c:=by unfold Keys.dj tb;simp only [h]
theorem qt{r:Bytes}{c:Nat}(h:∀a b d,Keys.numbers r≠some [a,b,d]):Keys.dj (60::r) c=none:=by
 unfold Keys.dj;split
 .rename_i q;obtain rfl:r=_:=by simpa using q
  split
  .rename_i e;exact absurd e (h _ _ _)
  .rfl
 .rfl
theorem RC{s:Bytes}{c:Nat}(h:s=[]\/bP s 0≠60):Keys.dj s c=none:=by
 unfold Keys.dj;split
 .rcases h with h|h
  .cases h
  .exact absurd rfl h
 .rfl
def nX(s:Bytes)(c:Nat):aP:=(Keys.dj s c).getD (cQ [])
def eW(M:List Nat):Nat×Bool :=
 if M.length=1 then(0,true)else if M.length=2/\1<=M.getD 1 0/\M.getD 1 0<=8 then(M.getD 1 0-1,true)else(0,false)
theorem RD{H:T}{k w:Nat}{M:List Nat}{B:ac}(az:iH M w B)(ag:H.get k=some B):∃j,bu 112 [.slice (some ⟨k,w,0,0,1⟩) M.length M.length,.int .i64 1] H (.tuple [.int .u8 (eW M).1,.bool (eW M).2]) ⟨H.Y+j,H.ay⟩:=by
 have cD:1<M.length-> ∀m,a1 (a'.D env) 3 ⟨k,w,1,0,1⟩ (T.mk m H.2)=some (.int .i64 (M.getD 1 0:Nat)):=λh m=>by rw [gf,c7 h];exact az.load h (H:=⟨m,H.2⟩) ag
 obtain⟨v,aa,c,rfl,j,rfl⟩:=Rx H k w M.length (M.getD 1 0:Nat) (λv aa=>v=.tuple [.int .u8 (eW M).1,.bool (eW M).2]/\∃j,aa=⟨H.Y+j,H.ay⟩) (by
  delta ta AV AU wP
  refine aR (Nat.le_refl _) (aR V ⟨λh=>aR V (e2 V ⟨?_,8,rfl⟩),λh=>aR V ⟨λh2=>⟨⟨V,V⟩,cD V _,λa=>aR V (e2 V ⟨?_,27,rfl⟩),
   λa=>⟨⟨V,V⟩,cD V _,λb=>aR V (e2 V ⟨?_,27,rfl⟩),λb=>aR V ⟨⟨V,V⟩,cD V _,⟨V,V⟩,⟨V,V⟩,e2 V ⟨?_,33,rfl⟩⟩⟩⟩,λh2=>aR V (e2 V ⟨?_,27,rfl⟩)⟩⟩)
  .unfold eW;rw [aE V];rfl
  .unfold eW;rw [ap V,ap V];rfl
  .unfold eW;rw [ap V,ap V];rfl
  .unfold eW;rw [ap V,aE V];rw [show((M.getD 1 0-1:Nat):Int)=((M.getD 1 0:Nat):Int)-1 by omega]
  .unfold eW;rw [ap V,ap V];rfl)
 exact⟨j,c⟩
theorem RE{H:T}{k w:Nat}{M:List Nat}{B:ac}(az:iH M w B)(d:k<H.Y)(ag:H.get k=some B):bu 112 [.slice (some ⟨k,w,0,0,1⟩) M.length M.length,.int .i64 1] H (.tuple [.int .u8 (eW M).1,.bool (eW M).2]) H:=by
 obtain⟨j,h⟩:=RD (H:=T.of [B]) (k:=0) az rfl;have a:∀b∈ [B],cj b:=λb a=>by rw [cC.1 a];exact az.bare
 have f:=h.fin [] [B] (.tuple [.int .u8 (eW M).1,.bool (eW M).2]) a rfl rfl rfl (by simp [bQ,dI]) rfl lN;have u:=f.yg (l:=[B]) (l2:=[]) a (λb a=>by cases a) (by simp [bQ,dI]) (H:=H) [k] an (λj c=>by rw [cC.1 c];exact d) (by simp [ag]);exact u
theorem RF{s:Bytes}{c:Nat}(hs:s.length<2^40)(al:c=77\/c=109)(H:T):bu 110 [.str s,.int .u8 (c:Nat)] H (bi (nX s c)) H:=by
 have bad:Keys.dj s c=none->bi (nX s c)=cV 7 0 0 0 0 []:=λh=>by unfold nX;rw [h];rfl
 by_cases g:s=[]\/bP s 0≠60
 .have aN:=bad (RC g);rw [aN];refine bl.cm (G3 s (bP s 0:Nat) (c:Nat) (λv _=>v=cV 7 0 0 0 0 []) ⟨λ_=>rfl,λaz=>⟨jt (k:=0) (fS.2 az),λh=> ?_,λ_=>rfl⟩⟩) rfl rfl H;exfalso;rcases g with g|g
  .exact az g
  .omega
 .obtain⟨r,rfl⟩:∃r,s=60::r:=by
   cases s with
   |nil=>exact absurd (.inl rfl) g
   |cons a r =>
    refine⟨r,?_⟩;have:bP (a::r) 0=60:=Classical.byContradiction λh=>g (.inr h)
    rw [show a=60 from fq.1 this]
  have a0:c8 (a'.D env) 9 (.str (60::r)) (.int .i64 (0))=some (.int .u8 (60:Nat)):=jt (s:=60::r) (k:=0) an;have F:r.length<2^40:=by simp only [b']at hs;omega
  rcases G6 F with ⟨az,j|⟨n,v,B,j⟩⟩|⟨az,j⟩|⟨M,G,az,v,B,p,j⟩
  .rw [bad (qt (by rw [az];intro a b d h;cases h))];exact bl.cm (G3 (60::r) (60:Nat) (c:Nat) (λv _=>v=cV 7 0 0 0 0 []) ⟨λ_=>rfl,λ_=>⟨a0,λ_=>⟨⟨V,by simp;omega⟩,⟨j _⟩,rfl⟩,λ_=>rfl⟩⟩) rfl rfl H
  .rw [bad (qt (by rw [az];intro a b d h;cases h))];exact bl.cm (Rz (60::r) (60:Nat) (c:Nat) n B ⟨19,v,0,0,1⟩ (λv _=>v=cV 7 0 0 0 0 []) ⟨λ_=>rfl,λ_=>⟨a0,λ_=>⟨⟨V,by simp;omega⟩,⟨j _⟩,rfl⟩,λ_=>rfl⟩⟩) rfl rfl H
  .rw [bad (qt (by rw [az];intro a b d h;cases h))];exact bl.cm (Ry (60::r) (60:Nat) (c:Nat) (λv _=>v=cV 7 0 0 0 0 []) ⟨λ_=>rfl,λ_=>⟨a0,λ_=>⟨⟨V,by simp;omega⟩,⟨j _⟩,rfl⟩,λ_=>rfl⟩⟩) rfl rfl H
  .have call:∀h:T,h.Y=19->bM 111 [.str r] h (.tuple [.slice (some ⟨19,v,0,0,1⟩) M.length M.length,.bool true]) (h.dO [] [B]):=λh e=>⟨by rw [<-e];exact j h⟩
   have ao:0<=(1:Int)/\(1:Int)<=((60::r:Bytes).length:Int):=⟨V,by simp;omega⟩
   by_cases o:M.length=3
   .obtain⟨f,m,n2,rfl⟩:∃a b c,M=[a,b,c]:=by
     match M,o with
     |[a,b,c],_=>exact⟨a,b,c,rfl⟩
    have w:∀h:T,h.get 19=some B->a1 (a'.D env) 3 ⟨19,v,0,0,1⟩ h=some (.int .i64 (f:Nat)):=λh e=>p.load (i:=0) an e
    have t:∀h:T,h.get 19=some B->a1 (a'.D env) 3 ⟨19,v,1,0,1⟩ h=some (.int .i64 (m:Nat)):=λh e=>p.load (i:=1) an e
    have u:∀h:T,h.get 19=some B->a1 (a'.D env) 3 ⟨19,v,2,0,1⟩ h=some (.int .i64 (n2:Nat)):=λh e=>p.load (i:=2) an e
    have au:=sP az f an;have aH:=sP az m an;have b2:=sP az n2 an;have y:nX (60::r) c=(tb f m n2 c).getD (cQ []):=by unfold nX;rw [RB az]
    rw [y];have l:=G4 (60::r) (60:Nat) (c:Nat) v 3 B (f:Nat) (m:Nat) (n2:Nat) (λv _=>v=bi ((tb f m n2 c).getD (cQ [])));have A:Int.tdiv (f:Int) 4=((f/4:Nat):Int):=rfl;have E:Int.tmod ((f/4:Nat):Int) 8=((f/4%8:Nat):Int):=rfl;have z:(f:Int)-4* ((f/4%8:Nat):Int)=((f-4* (f/4%8):Nat):Int):= V;rw [A,E,z]at l;unfold tb at l⊢;generalize C:f/4%8=held at l⊢;have L:held<8:=by rw [<-C];exact Nat.mod_lt _ aA
    generalize K:f-4*held=x at l⊢;have I:x<10^9:= V
    refine bl.cm (l ⟨λh=>absurd h an,λ_=>⟨a0,λ_=>⟨ao,call _ rfl,λ_=>⟨⟨V,V⟩,t _ rfl,λg1=> ?_,λg1=>⟨⟨V,V⟩,t _ rfl,λg2=> ?_,λg2=>⟨⟨V,V⟩,u _ rfl,λg3=> ?_,λg3=>⟨⟨V,V⟩,u _ rfl,λg4=> ?_,λg4=>⟨⟨V,V⟩,w _ rfl,⟨V,by show uC _;unfold uC;omega⟩,V,⟨V,V⟩,w _ rfl,⟨V,V⟩,⟨V,V⟩,⟨V,V⟩,⟨V,V⟩,t _ rfl,⟨V,V⟩,⟨V,V⟩,u _ rfl,⟨V,V⟩,
     λcs=>⟨λq=> ?_,λq=> ?_⟩,λcs=>⟨λq=>⟨⟨V,V⟩,?_⟩,λN=>⟨λq=>⟨⟨V,V⟩,?_⟩,λcq=>⟨λq=>⟨⟨V,V⟩,?_⟩,λcn=>⟨λq=> ?_,λei=>⟨λq=> ?_,λhE=>⟨λq=> ?_,λlg=>⟨λq=> ?_,λO=>⟨λq=> ?_,λP=>⟨λq=> ?_,λq=> ?_⟩⟩⟩⟩⟩⟩⟩⟩⟩⟩⟩⟩⟩⟩,λh=>absurd rfl h⟩,λh=>absurd rfl h⟩⟩) rfl rfl H
    .rw [aE V];rfl
    .rw [aE V];rfl
    .rw [aE V];rfl
    .rw [aE V];rfl
    .rw [ap V,ap V,ap V,ap V,ap V,ap V];rfl
    .rw [ap V,aE V];rfl
    .rw [ap V,ap V,aE V];rfl
    .rw [ap V,ap V,aE V];rfl
    .rw [ap V,ap V,aE V];rfl
    .rw [ap V,ap V,ap V,aE V];rfl
    .rw [ap V,ap V,ap V,aE V];rfl
    .rw [ap V,ap V,ap V,aE V];rfl
    .rw [ap V,ap V,ap V,aE V];rfl
    .rw [ap V,ap V,ap V,ap V,aE V];rfl
    .rw [ap V,ap V,ap V,ap V,ap V,aE V];rfl
    .rw [ap V,ap V,ap V,ap V,ap V,ap V];rfl
   .have aN:=bad (qt (by rw [az];intro a b d h;simp only [a6]at h;rw [h]at o;exact o rfl));rw [aN];exact bl.cm (G4 (60::r) (60:Nat) (c:Nat) v M.length B 0 0 0 (λv _=>v=cV 7 0 0 0 0 []) ⟨λ_=>rfl,λ_=>⟨a0,λ_=>⟨ao,call _ rfl,λh=>absurd h V,λ_=>rfl⟩,λ_=>rfl⟩⟩) rfl rfl H
abbrev gb(b a c e f:Int)(d:Bytes):J:=J.agg [.int .i8 b,.int .i32 a,.int .u8 c,.int .i64 e,.int .i64 f,.str d]
abbrev ly(b:Bytes)(a:Int):J:=J.agg [.int .i8 6,.int .i32 0,.int .u8 0,.int .i64 0,.int .i64 0,.str (b++[UInt8.ofNat (Int.toNat a)])]
abbrev j9:T:=(T.af 26 [(0,bx),(3,bE)])
abbrev mz(b:Bytes)(a:Int):T:=(T.af 23 [(0,(ac.aj ([(ly b a)]) 6 true (some (42,6)))),(3,bE),(17,ac.aj [.int .u8 a] 1 true)])
theorem G7(b:Bytes)(a d c e g h:Int)(f:Bytes)(i:bm)(j:(a=82->Nat.le (Nat.succ (List.length b+List.length [UInt8.ofNat (Int.toNat a)])) (2^62)/\i (.tuple [(ly b a),.int .i64 0]) (mz b a))/\(¬a=82->(a=99->Nat.le (Nat.succ (List.length b+List.length [UInt8.ofNat (Int.toNat a)])) (2^62)/\i (.tuple [(ly b a),.int .i64 0]) (mz b a))/\(¬a=99->(a=110->Nat.le (Nat.succ (List.length b+List.length [UInt8.ofNat (Int.toNat a)])) (2^62)/\i (.tuple [(ly b a),.int .i64 0]) (mz b a))/\(¬a=110->(a=77->bM 110 [.str b,.int .u8 a] j9 ((gb d c e g h f)) j9/\i (.tuple [(gb d c e g h f),.int .i64 0]) (T.af 26 [(0,(ac.aj ([(gb d c e g h f)]) 6 true (some (42,6)))),(3,bE)]))/\(¬a=77->(a=109->bM 110 [.str b,.int .u8 a] j9 ((gb d c e g h f)) j9/\i (.tuple [(gb d c e g h f),.int .i64 0]) (T.af 26 [(0,(ac.aj ([(gb d c e g h f)]) 6 true (some (42,6)))),(3,bE)]))/\(¬a=109->bM 111 [.str b] (T.af 28 [(0,bx),(3,bE)]) (.tuple [.slice none 0 0,.bool false]) (T.af 28 [(0,bx),(3,bE)])/\i (.tuple [hg,.int .i64 0]) (T.af 33 [(0,bE),(3,bE)]))))))) :
 bC 93 [.str b,.int .u8 a] (⟨0,.nil⟩) i :=
 bI bT (.aq 2001 (ag 3004 .nil) (.aq 2004 (ag 3004 .nil) (.aq 2008 (ag 3004 .nil) (.aq 4001 (.ak (.val 5002 (cV d c e g h f)) .nil) (.aq 4004 (.ak (.val 5002 (cV d c e g h f)) .nil) (.ak (.val 6001 (.tuple [.slice none 0 0,.bool false])) .nil)))))) j
theorem RG(b:Bytes)(a d c e g i:Int)(f:Bytes)(k:Nat)(l:ac)(m:aT)(j:bm)(n:(a=82->Nat.le (Nat.succ (List.length b+List.length [UInt8.ofNat (Int.toNat a)])) (2^62)/\j (.tuple [(ly b a),.int .i64 0]) (mz b a))/\(¬a=82->(a=99->Nat.le (Nat.succ (List.length b+List.length [UInt8.ofNat (Int.toNat a)])) (2^62)/\j (.tuple [(ly b a),.int .i64 0]) (mz b a))/\(¬a=99->(a=110->Nat.le (Nat.succ (List.length b+List.length [UInt8.ofNat (Int.toNat a)])) (2^62)/\j (.tuple [(ly b a),.int .i64 0]) (mz b a))/\(¬a=110->(a=77->bM 110 [.str b,.int .u8 a] j9 ((gb d c e g i f)) j9/\j (.tuple [(gb d c e g i f),.int .i64 0]) (T.af 26 [(0,(ac.aj ([(gb d c e g i f)]) 6 true (some (42,6)))),(3,bE)]))/\(¬a=77->(a=109->bM 110 [.str b,.int .u8 a] j9 ((gb d c e g i f)) j9/\j (.tuple [(gb d c e g i f),.int .i64 0]) (T.af 26 [(0,(ac.aj ([(gb d c e g i f)]) 6 true (some (42,6)))),(3,bE)]))/\(¬a=109->bM 111 [.str b] (T.af 28 [(0,bx),(3,bE)]) (.tuple [.slice (some m) k k,.bool false]) (T.af 29 [(0,bx),(3,bE),(28,l)])/\j (.tuple [hg,.int .i64 0]) (T.af 34 [(0,bE),(3,bE),(28,l)]))))))) :
 bC 93 [.str b,.int .u8 a] (⟨0,.nil⟩) j :=
 bI bT (.aq 2001 (ag 3004 .nil) (.aq 2004 (ag 3004 .nil) (.aq 2008 (ag 3004 .nil) (.aq 4001 (.ak (.val 5002 (cV d c e g i f)) .nil) (.aq 4004 (.ak (.val 5002 (cV d c e g i f)) .nil) (.ak (.act 6001 (.tuple [.slice (some m) k k,.bool false]) λh=>T.dO h [] [l]) .nil)))))) n
abbrev qG(a:Int):J:=J.agg [.int .i8 2,.int .i32 a,.int .u8 0,.int .i64 0,.int .i64 0,.str []]
abbrev qH:ac:=(ac.aj ([ln]) 6 true (some (42,6)))
abbrev qI:ac:=(ac.aj ([lo]) 6 true (some (42,6)))
theorem RH(c:Bytes)(a e d f h i:Int)(g:Bytes)(j:Int)(b:bm)(k:(a=82->Nat.le (Nat.succ (List.length c+List.length [UInt8.ofNat (Int.toNat a)])) (2^62)/\b (.tuple [(ly c a),.int .i64 0]) (mz c a))/\(¬a=82->(a=99->Nat.le (Nat.succ (List.length c+List.length [UInt8.ofNat (Int.toNat a)])) (2^62)/\b (.tuple [(ly c a),.int .i64 0]) (mz c a))/\(¬a=99->(a=110->Nat.le (Nat.succ (List.length c+List.length [UInt8.ofNat (Int.toNat a)])) (2^62)/\b (.tuple [(ly c a),.int .i64 0]) (mz c a))/\(¬a=110->(a=77->bM 110 [.str c,.int .u8 a] j9 ((gb e d f h i g)) j9/\b (.tuple [(gb e d f h i g),.int .i64 0]) (T.af 26 [(0,(ac.aj ([(gb e d f h i g)]) 6 true (some (42,6)))),(3,bE)]))/\(¬a=77->(a=109->bM 110 [.str c,.int .u8 a] j9 ((gb e d f h i g)) j9/\b (.tuple [(gb e d f h i g),.int .i64 0]) (T.af 26 [(0,(ac.aj ([(gb e d f h i g)]) 6 true (some (42,6)))),(3,bE)]))/\(¬a=109->bM 111 [.str c] (T.af 28 [(0,bx),(3,bE)]) (.tuple [.slice none 0 0,.bool true]) (T.af 28 [(0,bx),(3,bE)])/\(a=90->b (.tuple [lm,.int .i64 0]) (T.af 40 [(0,(ac.aj ([lm]) 6 true (some (42,6)))),(3,bE)]))/\(¬a=90->(a=73->(a=73->b (.tuple [lo,.int .i64 0]) (T.af 58 [(0,qI),(3,bE),(49,qI)]))/\(¬a=73->b (.tuple [ln,.int .i64 0]) (T.af 56 [(0,qH),(3,bE),(49,qH)])))/\(¬a=73->(a=79->(a=73->b (.tuple [lo,.int .i64 0]) (T.af 58 [(0,qI),(3,bE),(49,qI)]))/\(¬a=73->b (.tuple [ln,.int .i64 0]) (T.af 56 [(0,qH),(3,bE),(49,qH)])))/\(¬a=79->bM 64 [.int .u8 a] (T.af 51 [(0,bx),(3,bE)]) (.int .i32 j) (T.af 51 [(0,bx),(3,bE)])/\(0<j->b (.tuple [(qG j),.int .i64 0]) (T.af 62 [(0,(ac.aj ([(qG j)]) 6 true (some (42,6)))),(3,bE)]))/\(¬0<j->b (.tuple [hg,.int .i64 0]) (T.af 64 [(0,bE),(3,bE)]))))))))))) :
 bC 93 [.str c,.int .u8 a] (⟨0,.nil⟩) b :=
 bI bT (.aq 2001 (ag 3004 .nil) (.aq 2004 (ag 3004 .nil) (.aq 2008 (ag 3004 .nil) (.aq 4001 (.ak (.val 5002 (cV e d f h i g)) .nil) (.aq 4004 (.ak (.val 5002 (cV e d f h i g)) .nil) (.ak (.val 6001 (.tuple [.slice none 0 0,.bool true])) (.aq 9001 .nil (.aq 11001 (.aq 13001 .nil .nil) (.aq 11004 (.aq 13001 .nil .nil) (.ak (.val 16001 (.int .i32 j)) (.aq 17001 .nil .nil))))))))))) k
abbrev o5:ch:=(.ak (.val 26001 (.bool false)) (.ak (.val 28001 (.bool false)) .nil))
abbrev G8(a b:Int):J:=J.agg [.int .i8 2,.int .i32 a,.int .u8 b,.int .i64 0,.int .i64 0,.str []]
abbrev gd:J:=J.tuple [hg,.int .i64 0]
abbrev hS(a:ac):T:=(T.af 118 [(0,bE),(3,bE),(28,a)])
abbrev G9(a:Int)(b:ac)(d:Int)(c:bm):Prop:=(¬d=1->some (J.bool (a == 126))=some (J.bool false)/\some (J.bool (a == 126))=some (J.bool false)/\some (J.bool (a == 117))=some (J.bool false)/\c (gd) (hS b))
abbrev G'(a:Int)(d:Nat)(b:ac)(c:bm):Prop:=(¬(d:Int)=2->some (J.bool (a == 126))=some (J.bool false)/\some (J.bool (a == 126))=some (J.bool false)/\some (J.bool (a == 117))=some (J.bool false)/\c (gd) (hS b))
theorem RI(k:Bytes)(a e:Int)(g c:Nat)(b:ac)(j:Int)(i:Bool)(f n o m p r s:Int)(q:Bytes)(d:bm)(l:some (J.bool (a == 82))=some (J.bool false)/\some (J.bool (a == 99))=some (J.bool false)/\some (J.bool (a == 110))=some (J.bool false)/\some (J.bool (a == 77))=some (J.bool false)/\some (J.bool (a == 109))=some (J.bool false)/\bM 111 [.str k] (T.af 28 [(0,bx),(3,bE)]) (.tuple [.slice (some ⟨28,g,0,0,1⟩) c c,.bool true]) (T.af 29 [(0,bx),(3,bE),(28,b)])/\some (J.bool (a == 90))=some (J.bool false)/\some (J.bool (a == 73))=some (J.bool false)/\some (J.bool (a == 79))=some (J.bool false)/\bM 64 [.int .u8 a] (T.af 52 [(0,bx),(3,bE),(28,b)]) (.int .i32 e) (T.af 52 [(0,bx),(3,bE),(28,b)])/\some (J.bool (decide (e>0)))=some (J.bool true)/\((c:Int)=0->d (.tuple [(qG e),.int .i64 0]) (T.af 63 [(0,(ac.aj ([(qG e)]) 6 true (some (42,6)))),(3,bE),(28,b)]))/\(¬(c:Int)=0->((c:Int)=0->d (gd) (T.af 65 [(0,bE),(3,bE),(28,b)]))/\(¬(c:Int)=0->bM 112 [.slice (some ⟨28,g,0,0,1⟩) c c,.int .i64 1] (T.af 69 [(0,bx),(3,bE),(28,b)]) (.tuple [.int .u8 j,.bool i]) (T.af 69 [(0,bx),(3,bE),(28,b)])/\(i=true->some (J.bool (decide (e>0)))=some (J.bool true)/\((c:Int)=2->((0:Int)<=0/\0<(c:Int))/\a1 env.D 3 ⟨28,g,0,0,1⟩ (T.af 85 [(0,bx),(3,bE),(28,b)])=some (.int .i64 f)/\(f=1->d (.tuple [(G8 e j),.int .i64 0]) (T.af 90 [(0,(ac.aj ([(G8 e j)]) 6 true (some (42,6)))),(3,bE),(28,b)]))/\(G9 a b f d))/\(G' a c b d))/\(i=false->some (J.bool (decide (e>0)))=some (J.bool true)/\((c:Int)=2->((0:Int)<=0/\0<(c:Int))/\a1 env.D 3 ⟨28,g,0,0,1⟩ (T.af 85 [(0,bx),(3,bE),(28,b)])=some (.int .i64 f)/\(f=1->some (J.bool (a == 126))=some (J.bool false)/\some (J.bool (a == 126))=some (J.bool false)/\some (J.bool (a == 117))=some (J.bool false)/\d (gd) (hS b))/\(G9 a b f d))/\(G' a c b d))))) :
 bC 93 [.str k,.int .u8 a] (⟨0,.nil⟩) d :=
 bI bT (.ak (.val 2001 (.bool false)) (.ak (.val 2004 (.bool false)) (.ak (.val 2008 (.bool false)) (.ak (.val 4001 (.bool false)) (.ak (.val 4004 (.bool false)) (.ak (.act 6001 (.tuple [.slice (some ⟨28,g,0,0,1⟩) c c,.bool true]) λh=>T.dO h [] [b]) (.ak (.val 9001 (.bool false)) (.ak (.val 11001 (.bool false)) (.ak (.val 11004 (.bool false)) (.ak (.val 16001 (.int .i32 e)) (.ak (.val 17001 (.bool true)) (.aq 17005 .nil (.aq 19002 .nil (.ak (.val 21001 (.tuple [.int .u8 j,.bool i])) (.aq 21004 (.ak (.val 22001 (.bool true)) (.aq 22005 (ag 22009 (.ak (.val 22010 (.int .i64 f)) (.aq 22011 .nil (.ak (.val 24001 (.bool false)) o5)))) (.ak (.val 24001 (.bool false)) o5))) (.ak (.val 22001 (.bool true)) (.aq 22005 (ag 22009 (.ak (.val 22010 (.int .i64 f)) (.aq 22011 (.ak (.val 24001 (.bool false)) o5) (.ak (.val 24001 (.bool false)) o5)))) (.ak (.val 24001 (.bool false)) o5)))))))))))))))))) l
theorem RJ(i:Bytes)(a k:Int)(f c:Nat)(b:ac)(g:Int)(e:Bool)(s m n l o q r:Int)(p:Bytes)(d:bm)(j:some (J.bool (a == 82))=some (J.bool false)/\some (J.bool (a == 99))=some (J.bool false)/\some (J.bool (a == 110))=some (J.bool false)/\some (J.bool (a == 77))=some (J.bool false)/\some (J.bool (a == 109))=some (J.bool false)/\bM 111 [.str i] (T.af 28 [(0,bx),(3,bE)]) (.tuple [.slice (some ⟨28,f,0,0,1⟩) c c,.bool true]) (T.af 29 [(0,bx),(3,bE),(28,b)])/\some (J.bool (a == 90))=some (J.bool false)/\some (J.bool (a == 73))=some (J.bool false)/\some (J.bool (a == 79))=some (J.bool false)/\bM 64 [.int .u8 a] (T.af 52 [(0,bx),(3,bE),(28,b)]) (.int .i32 0) (T.af 52 [(0,bx),(3,bE),(28,b)])/\((c:Int)=0->d (gd) (T.af 65 [(0,bE),(3,bE),(28,b)]))/\(¬(c:Int)=0->bM 112 [.slice (some ⟨28,f,0,0,1⟩) c c,.int .i64 1] (T.af 69 [(0,bx),(3,bE),(28,b)]) (.tuple [.int .u8 g,.bool e]) (T.af 69 [(0,bx),(3,bE),(28,b)])/\(e=true->some (J.bool (a == 126))=some (J.bool false)/\some (J.bool (a == 126))=some (J.bool false)/\some (J.bool (a == 117))=some (J.bool false)/\d (gd) (hS b))/\(e=false->some (J.bool (a == 126))=some (J.bool false)/\some (J.bool (a == 126))=some (J.bool false)/\some (J.bool (a == 117))=some (J.bool false)/\d (gd) (hS b)))) :
 bC 93 [.str i,.int .u8 a] (⟨0,.nil⟩) d :=
 bI bT (.ak (.val 2001 (.bool false)) (.ak (.val 2004 (.bool false)) (.ak (.val 2008 (.bool false)) (.ak (.val 4001 (.bool false)) (.ak (.val 4004 (.bool false)) (.ak (.act 6001 (.tuple [.slice (some ⟨28,f,0,0,1⟩) c c,.bool true]) λh=>T.dO h [] [b]) (.ak (.val 9001 (.bool false)) (.ak (.val 11001 (.bool false)) (.ak (.val 11004 (.bool false)) (.ak (.val 16001 (.int .i32 0)) (.aq 19002 .nil (.ak (.val 21001 (.tuple [.int .u8 g,.bool e])) (.aq 21004 (.ak (.val 24001 (.bool false)) o5) (.ak (.val 24001 (.bool false)) o5)))))))))))))) j
abbrev RL(b a:Int):ch:=(.aq 26010 (ag 27001 (.ak (.val 27002 (.int .i64 b)) (.ak (.val 27003 (.int .i32 a)) .nil))) .nil)
abbrev Ha(b a:Int):J:=J.agg [.int .i8 2,.int .i32 a,.int .u8 b,.int .i64 0,.int .i64 0,.str []]
abbrev Hb(b a:Int):ch:=(ag 26007 (.ak (.val 26008 (.int .i64 b)) (.ak (.val 26009 (.int .i32 a)) (RL b a))))
abbrev qJ(a:ac):T:=(T.af 110 [(0,bx),(3,bE),(28,a)])
abbrev AY(a:ac):T:=(T.af 118 [(0,bx),(3,bE),(28,a)])
abbrev Hc(g f:Nat)(a:ac)(c d b:Int)(e:bm):Prop:=(0<b->((0:Int)<=0/\0<(f:Int))/\a1 env.D 3 ⟨28,g,0,0,1⟩ (AY a)=some (.int .i64 d)/\bM 65 [.int .i64 d] (AY a) (.int .i32 b) (AY a)/\e (.tuple [(Ha c b),.int .i64 0]) (T.af 118 [(0,(ac.aj ([(Ha c b)]) 6 true (some (42,6)))),(3,bE),(28,a)]))
theorem RM(j:Bytes)(l:Int)(e b:Nat)(a:ac)(i:Int)(g:Bool)(c f n m o q r:Int)(p:Bytes)(d:bm)(k:bM 111 [.str j] (T.af 28 [(0,bx),(3,bE)]) (.tuple [.slice (some ⟨28,e,0,0,1⟩) b b,.bool true]) (T.af 29 [(0,bx),(3,bE),(28,a)])/\bM 64 [.int .u8 126] (T.af 52 [(0,bx),(3,bE),(28,a)]) (.int .i32 0) (T.af 52 [(0,bx),(3,bE),(28,a)])/\((b:Int)=0->d (gd) (T.af 65 [(0,bE),(3,bE),(28,a)]))/\(¬(b:Int)=0->bM 112 [.slice (some ⟨28,e,0,0,1⟩) b b,.int .i64 1] (T.af 69 [(0,bx),(3,bE),(28,a)]) (.tuple [.int .u8 i,.bool g]) (T.af 69 [(0,bx),(3,bE),(28,a)])/\(g=true->((b:Int)=1->((0:Int)<=0/\0<(b:Int))/\a1 env.D 3 ⟨28,e,0,0,1⟩ (T.af 98 [(0,bx),(3,bE),(28,a)])=some (.int .i64 c)/\(c=200->d (.tuple [fF,.int .i64 1]) (T.af 101 [(0,df),(3,bE),(28,a)]))/\(¬c=200->((0:Int)<=0/\0<(b:Int))/\a1 env.D 3 ⟨28,e,0,0,1⟩ (qJ a)=some (.int .i64 c)/\bM 65 [.int .i64 c] (qJ a) (.int .i32 f) (qJ a)/\(Hc e b a i c f d)/\(¬0<f->d (gd) (hS a))))/\(¬(b:Int)=1->((0:Int)<=0/\0<(b:Int))/\a1 env.D 3 ⟨28,e,0,0,1⟩ (qJ a)=some (.int .i64 c)/\bM 65 [.int .i64 c] (qJ a) (.int .i32 f) (qJ a)/\(Hc e b a i c f d)/\(¬0<f->d (gd) (hS a))))/\(g=false->((b:Int)=1->((0:Int)<=0/\0<(b:Int))/\a1 env.D 3 ⟨28,e,0,0,1⟩ (T.af 98 [(0,bx),(3,bE),(28,a)])=some (.int .i64 c)/\(c=200->d (.tuple [fF,.int .i64 1]) (T.af 101 [(0,df),(3,bE),(28,a)]))/\(¬c=200->d (gd) (hS a)))/\(¬(b:Int)=1->d (gd) (hS a))))) :
 bC 93 [.str j,.int .u8 126] (⟨0,.nil⟩) d :=
 bI bT (.ak (.act 6001 (.tuple [.slice (some ⟨28,e,0,0,1⟩) b b,.bool true]) λh=>T.dO h [] [a]) (.ak (.val 16001 (.int .i32 0)) (.aq 19002 .nil (.ak (.val 21001 (.tuple [.int .u8 i,.bool g])) (.aq 21004 (.aq 24005 (ag 24009 (.ak (.val 24010 (.int .i64 c)) (.aq 24011 .nil (Hb c f)))) (Hb c f)) (.aq 24005 (ag 24009 (.ak (.val 24010 (.int .i64 c)) (.aq 24011 .nil .nil))) .nil)))))) k
abbrev AZ(b a c e f:Int)(d:Bytes):J:=J.agg [.int .i8 b,.int .i32 a,.int .u8 c,.int .i64 e,.int .i64 f,.str d]
abbrev A0(a:ac):T:=(T.af 122 [(0,bx),(3,bE),(28,a)])
theorem RN(o:Bytes)(q:Int)(j b:Nat)(a:ac)(m:Int)(g:Bool)(n r e d f k l:Int)(i:Bytes)(c:bm)(p:bM 111 [.str o] (T.af 28 [(0,bx),(3,bE)]) (.tuple [.slice (some ⟨28,j,0,0,1⟩) b b,.bool true]) (T.af 29 [(0,bx),(3,bE),(28,a)])/\bM 64 [.int .u8 117] (T.af 52 [(0,bx),(3,bE),(28,a)]) (.int .i32 0) (T.af 52 [(0,bx),(3,bE),(28,a)])/\((b:Int)=0->c (gd) (T.af 65 [(0,bE),(3,bE),(28,a)]))/\(¬(b:Int)=0->bM 112 [.slice (some ⟨28,j,0,0,1⟩) b b,.int .i64 1] (T.af 69 [(0,bx),(3,bE),(28,a)]) (.tuple [.int .u8 m,.bool g]) (T.af 69 [(0,bx),(3,bE),(28,a)])/\(g=true->((0:Int)<=0/\0<(b:Int))/\a1 env.D 3 ⟨28,j,0,0,1⟩ (A0 a)=some (.int .i64 n)/\bM 113 [.int .i64 n,.int .u8 m] (A0 a) ((AZ e d f k l i)) (A0 a)/\c (.tuple [(AZ e d f k l i),.int .i64 0]) (T.af 122 [(0,(ac.aj ([(AZ e d f k l i)]) 6 true (some (42,6)))),(3,bE),(28,a)]))/\(g=false->c (gd) (hS a)))) :
 bC 93 [.str o,.int .u8 117] (⟨0,.nil⟩) c :=
 bI bT (.ak (.act 6001 (.tuple [.slice (some ⟨28,j,0,0,1⟩) b b,.bool true]) λh=>T.dO h [] [a]) (.ak (.val 16001 (.int .i32 0)) (.aq 19002 .nil (.ak (.val 21001 (.tuple [.int .u8 m,.bool g])) (.aq 21004 (ag 29001 (.ak (.val 29002 (.int .i64 n)) (.ak (.val 29004 (cV e d f k l i)) .nil))) .nil))))) p
theorem RO(g:Bytes)(j:Int)(e b:Nat)(a:ac)(f:Int)(d:Bool)(r l m k n p q:Int)(o:Bytes)(c:bm)(i:bM 111 [.str g] (T.af 28 [(0,bx),(3,bE)]) (.tuple [.slice (some ⟨28,e,0,0,1⟩) b b,.bool true]) (T.af 29 [(0,bx),(3,bE),(28,a)])/\((b:Int)=0->c (.tuple [lm,.int .i64 0]) (T.af 41 [(0,(ac.aj ([lm]) 6 true (some (42,6)))),(3,bE),(28,a)]))/\(¬(b:Int)=0->bM 64 [.int .u8 90] (T.af 52 [(0,bx),(3,bE),(28,a)]) (.int .i32 0) (T.af 52 [(0,bx),(3,bE),(28,a)])/\((b:Int)=0->c (gd) (T.af 65 [(0,bE),(3,bE),(28,a)]))/\(¬(b:Int)=0->bM 112 [.slice (some ⟨28,e,0,0,1⟩) b b,.int .i64 1] (T.af 69 [(0,bx),(3,bE),(28,a)]) (.tuple [.int .u8 f,.bool d]) (T.af 69 [(0,bx),(3,bE),(28,a)])/\(d=true->c (gd) (hS a))/\(d=false->c (gd) (hS a))))) :
 bC 93 [.str g,.int .u8 90] (⟨0,.nil⟩) c :=
 bI bT (.ak (.act 6001 (.tuple [.slice (some ⟨28,e,0,0,1⟩) b b,.bool true]) λh=>T.dO h [] [a]) (.aq 9005 .nil (.ak (.val 16001 (.int .i32 0)) (.aq 19002 .nil (.ak (.val 21001 (.tuple [.int .u8 f,.bool d])) (.aq 21004 .nil .nil)))))) i
theorem RP(g:Bytes)(j:Int)(e b:Nat)(a:ac)(f:Int)(d:Bool)(r l m k n p q:Int)(o:Bytes)(c:bm)(i:bM 111 [.str g] (T.af 28 [(0,bx),(3,bE)]) (.tuple [.slice (some ⟨28,e,0,0,1⟩) b b,.bool true]) (T.af 29 [(0,bx),(3,bE),(28,a)])/\((b:Int)=0->c (.tuple [lo,.int .i64 0]) (T.af 59 [(0,qI),(3,bE),(28,a),(50,qI)]))/\(¬(b:Int)=0->bM 64 [.int .u8 73] (T.af 52 [(0,bx),(3,bE),(28,a)]) (.int .i32 0) (T.af 52 [(0,bx),(3,bE),(28,a)])/\((b:Int)=0->c (gd) (T.af 65 [(0,bE),(3,bE),(28,a)]))/\(¬(b:Int)=0->bM 112 [.slice (some ⟨28,e,0,0,1⟩) b b,.int .i64 1] (T.af 69 [(0,bx),(3,bE),(28,a)]) (.tuple [.int .u8 f,.bool d]) (T.af 69 [(0,bx),(3,bE),(28,a)])/\(d=true->c (gd) (hS a))/\(d=false->c (gd) (hS a))))) :
 bC 93 [.str g,.int .u8 73] (⟨0,.nil⟩) c :=
 bI bT (.ak (.act 6001 (.tuple [.slice (some ⟨28,e,0,0,1⟩) b b,.bool true]) λh=>T.dO h [] [a]) (.aq 11009 .nil (.ak (.val 16001 (.int .i32 0)) (.aq 19002 .nil (.ak (.val 21001 (.tuple [.int .u8 f,.bool d])) (.aq 21004 .nil .nil)))))) i
theorem RQ(g:Bytes)(j:Int)(e b:Nat)(a:ac)(f:Int)(d:Bool)(r l m k n p q:Int)(o:Bytes)(c:bm)(i:bM 111 [.str g] (T.af 28 [(0,bx),(3,bE)]) (.tuple [.slice (some ⟨28,e,0,0,1⟩) b b,.bool true]) (T.af 29 [(0,bx),(3,bE),(28,a)])/\((b:Int)=0->c (.tuple [ln,.int .i64 0]) (T.af 57 [(0,qH),(3,bE),(28,a),(50,qH)]))/\(¬(b:Int)=0->bM 64 [.int .u8 79] (T.af 52 [(0,bx),(3,bE),(28,a)]) (.int .i32 0) (T.af 52 [(0,bx),(3,bE),(28,a)])/\((b:Int)=0->c (gd) (T.af 65 [(0,bE),(3,bE),(28,a)]))/\(¬(b:Int)=0->bM 112 [.slice (some ⟨28,e,0,0,1⟩) b b,.int .i64 1] (T.af 69 [(0,bx),(3,bE),(28,a)]) (.tuple [.int .u8 f,.bool d]) (T.af 69 [(0,bx),(3,bE),(28,a)])/\(d=true->c (gd) (hS a))/\(d=false->c (gd) (hS a))))) :
 bC 93 [.str g,.int .u8 79] (⟨0,.nil⟩) c :=
 bI bT (.ak (.act 6001 (.tuple [.slice (some ⟨28,e,0,0,1⟩) b b,.bool true]) λh=>T.dO h [] [a]) (.aq 11009 .nil (.ak (.val 16001 (.int .i32 0)) (.aq 19002 .nil (.ak (.val 21001 (.tuple [.int .u8 f,.bool d])) (.aq 21004 .nil .nil)))))) i
def gG(s:Bytes)(c:UInt8):aP×Int :=
 if c=126/\Keys.numbers s=some [200]then(⟨0,0,0,0,0,[]⟩,1)else((Keys.told s c).getD (cQ []),0)
theorem RR{c:UInt8}{k:Nat}(h:c.toNat=k)(a:k<256):c=UInt8.ofNat k:=by rw [<-h];exact(UInt8.ofNat_toNat).symm
theorem RS{s:Bytes}{c:UInt8}(h:c=82\/c=99\/c=110):gG s c=(⟨6,0,0,0,0,s++[c]⟩,0):=by unfold gG Keys.told;rw [ap (by rintro ⟨q,_⟩;subst q;revert h;decide),aE h];rfl
theorem RT{s:Bytes}{c:UInt8}(h:c=77\/c=109):gG s c=(nX s c.toNat,0):=by unfold gG Keys.told;rw [ap (by rintro ⟨q,_⟩;subst q;revert h;decide),ap (by rcases h with rfl|rfl<;>decide),aE h];rfl
theorem Hd{s:Bytes}{c:UInt8}(aa:¬(c=82\/c=99\/c=110))(h2:¬(c=77\/c=109))(az:Keys.numbers s=none):gG s c=(cQ [],0):=by unfold gG Keys.told;rw [az,ap (by rintro ⟨_,q⟩;cases q),ap aa,ap h2];rfl
theorem tc{s:Bytes}{c:UInt8}(aa:¬(c=82\/c=99\/c=110))(h2:¬(c=77\/c=109))(az:Keys.numbers s=some []) :
 gG s c=((if c=90 then some (cY 2 1)else if c=73 then some {kind:=5,code:=1} else if c=79 then some {kind:=5} else if 0<Keys.dC c.toNat then some (cY (Keys.dC c.toNat))else none:Option aP).getD (cQ []),0):=by
 unfold gG Keys.told;rw [az,ap (by rintro ⟨_,q⟩;cases q),ap aa,ap h2]
theorem RU{s:Bytes}{c:UInt8}{M:List Nat}(aa:¬(c=82\/c=99\/c=110))(h2:¬(c=77\/c=109))(d:M≠[])(az:Keys.numbers s=some M) :
 gG s c=if c=126/\M=[200]then(⟨0,0,0,0,0,[]⟩,1)else
  ((if(eW M).2=false then none
    else if 0<Keys.dC c.toNat/\M.getD 0 0=1/\M.length=2 then some (cY (Keys.dC c.toNat) (eW M).1)
    else if c=126/\0<Keys.hc (M.getD 0 0)then some (cY (Keys.hc (M.getD 0 0)) (eW M).1)
    else if c=117 then Keys.cT (M.getD 0 0) (eW M).1 else none:Option aP).getD (cQ []),0):=by
 unfold gG;rw [az];simp only [a6];by_cases ae:c=126/\M=[200]
 .rw [aE ae,aE ae]
 .rw [ap ae,ap ae];unfold Keys.told;rw [az,ap aa,ap h2]
  match M,d with
  |[b],_ =>
   simp only [eW,hk,dy,py];simp
  |[b,x],_ =>
   simp only [eW,b',dx,py,List.getD_cons_succ];by_cases a:1<=x/\x<=8
   .have e:((x-1:Nat):Int)=(x:Int)-1:= V;simp [a,e,show ¬((x:Int)<1\/8<(x:Int))by omega]
   .have:(x:Int)<1\/8<(x:Int):= V;simp [a,this]
  |b::x::y::r,_ =>
   simp [eW]
theorem lz{c:Nat}{k:Int}(h:(c:Int)≠k):(some (J.bool ((c:Int) == k)):Option J)=some (.bool false):=by rw [q2 h]
theorem RV{k:Nat}(h:¬0<Keys.dC k):Keys.dC k=0:=by
 unfold Keys.dC at h⊢
 repeat' split
 all_goals (first|rfl|(exfalso;revert h;simp [*];omega)|omega)
abbrev eo(s:Bytes)(c:UInt8):J:= .tuple [bi (gG s c).1,.int .i64 (gG s c).2]
theorem RW{s:Bytes}(hs:s.length<2^40)(c:UInt8)(H:T):bu 93 [.str s,.int .u8 (c.toNat:Nat)] H (eo s c) H:=by
 have j:∀k:Nat,k<256->(c.toNat=k↔c=UInt8.ofNat k):=λk R=>⟨λh=>RR h R,λh=>by rw [h];exact UInt8.toNat_ofNat_of_lt' R⟩
 have l:c.toNat=82\/c.toNat=99\/c.toNat=110->Nat.le (Nat.succ (List.length s+List.length [UInt8.ofNat (Int.toNat (c.toNat:Nat))])) (2^62)/\(.tuple [cV 6 0 0 0 0 (s++[UInt8.ofNat (Int.toNat (c.toNat:Nat))]),.int .i64 (0)]:J)=eo s c:=λh=>by
  have e:UInt8.ofNat (Int.toNat (c.toNat:Nat))=c:=by rw [fU];exact UInt8.ofNat_toNat
  refine⟨?_,?_⟩
  .show Nat.succ (s.length+1)<=2^62;omega
  .unfold eo;rw [e,RS (by rw [j 82 aA,j 99 aA,j 110 aA]at h;exact h)];rfl
 have u:c.toNat=77\/c.toNat=109->eo s c=.tuple [bi (nX s c.toNat),.int .i64 0]:=λh=>by unfold eo;rw [RT (by rw [j 77 aA,j 109 aA]at h;exact h)]
 have A:¬(c.toNat=82\/c.toNat=99\/c.toNat=110)-> ¬(c=82\/c=99\/c=110):=λh=>by rw [j 82 aA,j 99 aA,j 110 aA]at h;exact h
 have F:¬(c.toNat=77\/c.toNat=109)-> ¬(c=77\/c=109):=λh=>by rw [j 77 aA,j 109 aA]at h;exact h
 have p:=λh=>RF hs (c:=c.toNat) h
 generalize nX s c.toNat=E at u p;obtain⟨k,d,m,x,y,t⟩:=E;have bad:(.tuple [cV 7 0 0 0 0 [],.int .i64 (0)]:J)=.tuple [bi (cQ []),.int .i64 0]:=rfl;rcases G6 hs with ⟨az,K|⟨n,v,B,K⟩⟩|⟨az,K⟩|⟨M,a2,az,v,B,co,K⟩
 .refine bl.cm (G7 s (c.toNat:Nat) k d m x y t (λv _=>v=eo s c) ⟨λh=>l V,λg1=>⟨λh=>l V,λg2=>⟨λh=>l V,λg3=>⟨λh=>⟨⟨p V _⟩,(u V).symm⟩,λg4=>⟨λh=>⟨⟨p V _⟩,(u V).symm⟩,λg5=>⟨⟨K _⟩,?_⟩⟩⟩⟩⟩⟩) rfl rfl H;unfold eo;rw [Hd (A V) (F V) az];rfl
 .refine bl.cm (RG s (c.toNat:Nat) k d m x y t n B ⟨28,v,0,0,1⟩ (λv _=>v=eo s c) ⟨λh=>l V,λg1=>⟨λh=>l V,λg2=>⟨λh=>l V,λg3=>⟨λh=>⟨⟨p V _⟩,(u V).symm⟩,λg4=>⟨λh=>⟨⟨p V _⟩,(u V).symm⟩,λg5=>⟨⟨K _⟩,?_⟩⟩⟩⟩⟩⟩) rfl rfl H;unfold eo;rw [Hd (A V) (F V) az];rfl
 .have G:=λh=>AR c.toNat h
  refine bl.cm (RH s (c.toNat:Nat) k d m x y t (Keys.dC c.toNat) (λv _=>v=eo s c) ⟨λh=>l V,λg1=>⟨λh=>l V,λg2=>⟨λh=>l V,λg3=>⟨λh=>⟨⟨p V _⟩,(u V).symm⟩,λg4=>⟨λh=>⟨⟨p V _⟩,(u V).symm⟩,λg5=>⟨⟨K _⟩,
   λd0=> ?_,λW=>⟨λc9=>⟨λ_=> ?_,λq=>absurd c9 q⟩,λU=>⟨λdp=>⟨λq=>absurd q U,λ_=> ?_⟩,λc2=>⟨⟨G _⟩,λw=> ?_,λw=> ?_⟩⟩⟩⟩⟩⟩⟩⟩⟩) rfl rfl H
  .unfold eo;rw [tc (A V) (F V) az,aE (show c=90 from(j 90 aA).1 V)];rfl
  .unfold eo;rw [tc (A V) (F V) az,ap (λq=>W (by rw [q];rfl)),aE (show c=73 from(j 73 aA).1 V)];rfl
  .unfold eo;rw [tc (A V) (F V) az,ap (λq=>W (by rw [q];rfl)),ap (λq=>U (by rw [q];rfl)),aE (show c=79 from(j 79 aA).1 V)];rfl
  .unfold eo;rw [tc (A V) (F V) az,ap (λq=>W (by rw [q];rfl)),ap (λq=>U (by rw [q];rfl)),ap (λq=>c2 (by rw [q];rfl)),aE w];rfl
  .unfold eo;rw [tc (A V) (F V) az,ap (λq=>W (by rw [q];rfl)),ap (λq=>U (by rw [q];rfl)),ap (λq=>c2 (by rw [q];rfl)),ap w];rfl
 .by_cases dg:c.toNat=82\/c.toNat=99\/c.toNat=110\/c.toNat=77\/c.toNat=109
  .exact bl.cm (G7 s (c.toNat:Nat) k d m x y t (λv _=>v=eo s c) ⟨λh=>l V,λg1=>⟨λh=>l V,λg2=>⟨λh=>l V,λg3=>⟨λh=>⟨⟨p V _⟩,(u V).symm⟩,λg4=>⟨λh=>⟨⟨p V _⟩,(u V).symm⟩,λg5=>absurd dg V⟩⟩⟩⟩⟩) rfl rfl H
  .have g :=RU (s:=s) (A V) (F V) a2 az;have ct:0<M.length:=fS.2 a2;have call:∀h:T,h.Y=28->bM 111 [.str s] h (.tuple [.slice (some ⟨28,v,0,0,1⟩) M.length M.length,.bool true]) (h.dO [] [B]):=λh e=>⟨by rw [<-e];exact K h⟩
   have md:∀h:T,28<h.Y->h.get 28=some B->bM 112 [.slice (some ⟨28,v,0,0,1⟩) M.length M.length,.int .i64 (1)] h (.tuple [.int .u8 (eW M).1,.bool (eW M).2]) h:=λh aa h2=>⟨RE co aa h2⟩
   have cD:∀h:T,h.get 28=some B->a1 (a'.D env) 3 ⟨28,v,0,0,1⟩ h=some (.int .i64 (M.getD 0 0:Nat)):=λh e=>by rw [gf,c7 ct];exact co.load ct e
   have L:M=[200]↔M.length=1/\M.getD 0 0=200:=by
    match M,a2 with
    |[a],_=>simp
    |a::b::r,_=>simp
   have c3:M.length=1->(eW M).2=true:=λh=>by unfold eW;rw [aE h]
   have N:=λh=>Q6 (M.getD 0 0) h
   have Q:=λh=>Q7 (M.getD 0 0) (eW M).1 h
   have P:bi (lu (M.getD 0 0) (eW M).1)=bi ((Keys.cT (M.getD 0 0) (eW M).1).getD (cQ [])):=rfl;generalize lu (M.getD 0 0) (eW M).1=C at Q P;obtain⟨c0,d2,m2,c4,c5,t2⟩:=C;generalize d3:(eW M).1=q at md g Q P;generalize d1:(eW M).2=ok at md g c3;generalize S:M.getD 0 0=z at cD g N Q P L;have G:=λh=>AR c.toNat h
   by_cases O:c=126
   .subst O;have a0:Keys.dC (126:UInt8).toNat=0:= aA;rw [a0]at G g
    refine bl.cm (RM s 0 v M.length B q ok z (Keys.hc z) c0 d2 m2 c4 c5 t2 (λv _=>v=eo s 126) ⟨call _ rfl,⟨G _⟩,λh=>absurd h V,λ_=>⟨md _ (by show 28<69;decide) rfl,λf=>⟨λaa=>⟨⟨V,V⟩,cD _ rfl,λS=> ?_,λS=>⟨⟨V,V⟩,cD _ rfl,⟨N _⟩,λhe=>⟨⟨V,V⟩,cD _ rfl,⟨N _⟩,?_⟩,λhe=> ?_⟩⟩,λaa=>⟨⟨V,V⟩,cD _ rfl,⟨N _⟩,λhe=>⟨⟨V,V⟩,cD _ rfl,⟨N _⟩,?_⟩,λhe=> ?_⟩⟩,
     λf=>⟨λaa=>absurd (c3 V) (by rw [f];decide),λaa=> ?_⟩⟩⟩) rfl rfl H
    .unfold eo;rw [g,aE ⟨rfl,L.2 ⟨V,V⟩⟩];rfl
    .unfold eo;rw [g,ap (λq=>S (by have:=(L.1 q.2).2;omega)),f,ap aA,ap (λq=>absurd q.1 aA),aE ⟨rfl,he⟩];rfl
    .unfold eo;rw [g,ap (λq=>S (by have:=(L.1 q.2).2;omega)),f,ap aA,ap (λq=>absurd q.1 aA),ap (λq=>he q.2),ap aA];rfl
    .unfold eo;rw [g,ap (λq=>aa (by have:=(L.1 q.2).1;omega)),f,ap aA,ap (λq=>absurd q.1 aA),aE ⟨rfl,he⟩];rfl
    .unfold eo;rw [g,ap (λq=>aa (by have:=(L.1 q.2).1;omega)),f,ap aA,ap (λq=>absurd q.1 aA),ap (λq=>he q.2),ap aA];rfl
    .unfold eo;rw [g,ap (λq=>aa (by have:=(L.1 q.2).1;omega)),f,aE rfl];rfl
   .rw [ap (λq=>O q.1)]at g;rw [ap (c:=c=126/\0<Keys.hc z) (λq=>O q.1)]at g
    have no:(ok=false\/ ¬(0<Keys.dC c.toNat/\z=1/\M.length=2))->c≠117->(.tuple [cV 7 0 0 0 0 [],.int .i64 (0)]:J)=eo s c:=λaa h2=>by
     unfold eo;rw [g];rcases aa with aa|aa
     .rw [aE aa];rfl
     .rw [ap aa,ap h2];cases ok<;>rfl
    have lit:∀k:UInt8,c=k->Keys.dC k.toNat=0-> ∀h,bu 64 [.int .u8 (k.toNat:Nat)] h (.int .i32 (0)) h:=λk e aN h=>by have:=G h;rw [e,aN]at this;exact this
    by_cases c117:c=117
    .have a0:=lit 117 c117 aA;subst c117;rw [show Keys.dC (117:UInt8).toNat=0 by decide]at g;refine bl.cm (RN s 0 v M.length B q ok z 0 c0 d2 m2 c4 c5 t2 (λv _=>v=eo s 117) ⟨call _ rfl,⟨a0 _⟩,λh=>absurd h V,λ_=>⟨md _ (by show 28<69;decide) rfl,λf=>⟨⟨V,V⟩,cD _ rfl,⟨Q _⟩,?_⟩,λf=> ?_⟩⟩) rfl rfl H
     .unfold eo;rw [g,f,ap aA,ap (λq=>absurd q.1 aA),aE rfl];show _=J.tuple [bi ((Keys.cT z q).getD (cQ [])),_];rw [<-P];rfl
     .unfold eo;rw [g,aE f];rfl
    .by_cases av:c=90
     .have a0:=lit 90 av aA;subst av;have o:=no (.inr λq=>absurd q.1 aA) aA;exact bl.cm (RO s 0 v M.length B q ok z 0 0 0 0 0 0 [] (λv _=>v=eo s 90) ⟨call _ rfl,λh=>absurd h V,λ_=>⟨⟨a0 _⟩,λh=>absurd h V,λ_=>⟨md _ (by show 28<69;decide) rfl,λ_=>o,λ_=>o⟩⟩⟩) rfl rfl H
     .by_cases Z:c=73
      .have a0:=lit 73 Z aA;subst Z;have o:=no (.inr λq=>absurd q.1 aA) aA;exact bl.cm (RP s 0 v M.length B q ok z 0 0 0 0 0 0 [] (λv _=>v=eo s 73) ⟨call _ rfl,λh=>absurd h V,λ_=>⟨⟨a0 _⟩,λh=>absurd h V,λ_=>⟨md _ (by show 28<69;decide) rfl,λ_=>o,λ_=>o⟩⟩⟩) rfl rfl H
      .by_cases am:c=79
       .have a0:=lit 79 am aA;subst am;have o:=no (.inr λq=>absurd q.1 aA) aA;exact bl.cm (RQ s 0 v M.length B q ok z 0 0 0 0 0 0 [] (λv _=>v=eo s 79) ⟨call _ rfl,λh=>absurd h V,λ_=>⟨⟨a0 _⟩,λh=>absurd h V,λ_=>⟨md _ (by show 28<69;decide) rfl,λ_=>o,λ_=>o⟩⟩⟩) rfl rfl H
       .have ne:∀k:Nat,k<256->c≠UInt8.ofNat k->((c.toNat:Nat):Int)≠(k:Int):=λk R h q=>h ((j k R).1 V)
        have i:=lz (ne 126 aA O);have I:=lz (ne 117 aA c117);have b2:=lz (ne 90 aA av);have a5:=lz (ne 73 aA Z);have bn:=lz (ne 79 aA am);have bv:=lz (c:=c.toNat) (k:=82) V;have ce:=lz (c:=c.toNat) (k:=99) V;have a4:=lz (c:=c.toNat) (k:=110) V;have a9:=lz (c:=c.toNat) (k:=77) V;have a3:=lz (c:=c.toNat) (k:=109) V;by_cases w:0<Keys.dC c.toNat
        .have pos:(some (J.bool (decide (Keys.dC c.toNat>0))):Option J)=some (.bool true):=by rw [gj w]
         refine bl.cm (RI s (c.toNat:Nat) (Keys.dC c.toNat) v M.length B q ok z 0 0 0 0 0 0 [] (λv _=>v=eo s c) ⟨bv,ce,a4,a9,a3,call _ rfl,b2,a5,bn,⟨G _⟩,pos,λh=>absurd h V,λ_=>⟨λh=>absurd h V,λ_=>⟨md _ (by show 28<69;decide) rfl,λf=>⟨pos,λh2=>⟨⟨V,V⟩,cD _ rfl,λX=> ?_,λX=>⟨i,i,I,?_⟩⟩,λh2=>⟨i,i,I,?_⟩⟩,
          λf=>⟨pos,λh2=>⟨⟨V,V⟩,cD _ rfl,λX=>⟨i,i,I,?_⟩,λX=>⟨i,i,I,?_⟩⟩,λh2=>⟨i,i,I,?_⟩⟩⟩⟩⟩) rfl rfl H
         .unfold eo;rw [g,f,ap aA,aE ⟨w,V,V⟩];rfl
         .exact no (.inr λq=>X V) c117
         .exact no (.inr λq=>h2 V) c117
         .exact no (.inl f) c117
         .exact no (.inl f) c117
         .exact no (.inl f) c117
        .have o:=no (.inr λq=>w q.1) c117;have a0:=λh=>by have:=G h;rw [RV w]at this;exact this
         exact bl.cm (RJ s (c.toNat:Nat) 0 v M.length B q ok z 0 0 0 0 0 0 [] (λv _=>v=eo s c) ⟨bv,ce,a4,a9,a3,call _ rfl,b2,a5,bn,⟨a0 _⟩,λh=>absurd h V,λ_=>⟨md _ (by show 28<69;decide) rfl,λf=>⟨i,i,I,o⟩,λf=>⟨i,i,I,o⟩⟩⟩) rfl rfl H
abbrev cR(e:J):ac:=ac.aj [e] 6 true (some (42,6))
abbrev wQ(b:Bytes)(a:Nat):J:=J.agg [.int .i8 7,.int .i32 0,.int .u8 0,.int .i64 0,.int .i64 0,.str (List.take a b)]
theorem RX(b:Bytes)(a:Nat)(c:Int)(d:bW->a8->T->Prop)(g:((a:Int)<(↑b.length:Int)->c8 env.D 9 (.str b) (.int .i64 (a:Int))=some (.int .u8 c)/\some (J.bool (decide (c≥64)))=some (J.bool false)/\(c<32->(0<=(a:Int)/\(a:Int)<=(↑b.length:Int))/\d .ret [(0,.str b),(2,.ptr (ba 50)),(3,.int .i64 (a:Int)),(4,.int .i64 0),(5,.bool true),(6,.int .i64 (a:Int))] (T.af 95 [(50,(ac.aj ([(wQ b a)]) 6 true (some (42,6))))]))/\(¬c<32->some (J.bool (decide (c>63)))=some (J.bool false)/\(48<=c->(0<=(a:Int)/\(a:Int)<=(↑b.length:Int))/\d .ret [(0,.str b),(2,.ptr (ba 50)),(3,.int .i64 (a:Int)),(4,.int .i64 0),(5,.bool true),(6,.int .i64 (a:Int))] (T.af 95 [(50,(ac.aj ([(wQ b a)]) 6 true (some (42,6))))]))/\(¬48<=c->(-9223372036854775808<=(a:Int)+1/\(a:Int)+1<=9223372036854775807)/\((a:Int)+1=64->(-9223372036854775808<=(a:Int)+1/\(a:Int)+1<=9223372036854775807)/\(0<=(a:Int)+1/\(a:Int)+1<=(↑b.length:Int))/\(-9223372036854775808<=(a:Int)+1/\(a:Int)+1<=9223372036854775807)/\d .ret [(0,.str b),(2,.ptr (ba 50)),(3,.int .i64 ((a:Int)+1)),(4,.int .i64 0),(5,.bool true),(6,.int .i64 (a:Int))] (T.af 106 [(50,(ac.aj ([.agg [.int .i8 7,.int .i32 0,.int .u8 0,.int .i64 0,.int .i64 0,.str (List.take (a+1) b)]]) 6 true (some (42,6))))]))/\(¬(a:Int)+1=64->(-9223372036854775808<=(a:Int)+1/\(a:Int)+1<=9223372036854775807)/\d .normal [(0,.str b),(2,.ptr (ba 50)),(5,.bool true),(6,.int .i64 ((a:Int)+1))] (T.af 99 [(50,df)])))))/\(¬(a:Int)<(↑b.length:Int)->d (.exit 0) [(0,.str b),(2,.ptr (ba 50)),(5,.bool true),(6,.int .i64 (a:Int))] (T.af 64 [(50,df)]))) :
 ∃e f aa,bR 0 79 (br 67 0) [(0,.str b),(2,.ptr (ba 50)),(5,.bool true),(6,.int .i64 (a:Nat))] (T.rows 60 [(50,cR (cV 0 0 0 0 0 []))]) e f aa/\d e f aa :=
 di cP mixed bT (hs:= .aq 3003 (.ak (.val 5002 (.int .u8 c)) (.ak (.val 6001 (.bool false)) (.aq 11001 (ag 12002 .nil) (.ak (.val 11004 (.bool false)) (.aq 11010 (ag 12002 .nil) (ag 14001 (.aq 14002 (ag 15002 (ag 15003 (ag 15006 .nil))) (ag 4001 .nil)))))))) .nil) (keep:=[0,2,3,4,5,6]) ar g
abbrev He:ch:=(.aq 14002 (ag 15002 (ag 15003 (ag 15006 .nil))) (ag 4001 .nil))
abbrev Hf(b:Bytes)(a:Nat):J:=J.agg [.int .i8 7,.int .i32 0,.int .u8 0,.int .i64 0,.int .i64 0,.str (List.take (a+1) b)]
theorem RY(b:Bytes)(a:Nat)(c:Int)(d:bW->a8->T->Prop)(g:((a:Int)<(↑b.length:Int)->c8 env.D 9 (.str b) (.int .i64 (a:Int))=some (.int .u8 c)/\some (J.bool (decide (c≥64)))=some (J.bool false)/\(c<32->(0<=(a:Int)/\(a:Int)<=(↑b.length:Int))/\d .ret [(0,.str b),(2,.ptr (ba 50)),(3,.int .i64 (a:Int)),(4,.int .i64 0),(5,.bool false),(6,.int .i64 (a:Int))] (T.af 95 [(50,(ac.aj ([(wQ b a)]) 6 true (some (42,6))))]))/\(¬c<32->some (J.bool (decide (c>63)))=some (J.bool false)/\(c<48->(-9223372036854775808<=(a:Int)+1/\(a:Int)+1<=9223372036854775807)/\((a:Int)+1=64->(-9223372036854775808<=(a:Int)+1/\(a:Int)+1<=9223372036854775807)/\(0<=(a:Int)+1/\(a:Int)+1<=(↑b.length:Int))/\(-9223372036854775808<=(a:Int)+1/\(a:Int)+1<=9223372036854775807)/\d .ret [(0,.str b),(2,.ptr (ba 50)),(3,.int .i64 ((a:Int)+1)),(4,.int .i64 0),(5,.bool true),(6,.int .i64 (a:Int))] (T.af 106 [(50,(ac.aj ([(Hf b a)]) 6 true (some (42,6))))]))/\(¬(a:Int)+1=64->(-9223372036854775808<=(a:Int)+1/\(a:Int)+1<=9223372036854775807)/\d .normal [(0,.str b),(2,.ptr (ba 50)),(5,.bool true),(6,.int .i64 ((a:Int)+1))] (T.af 99 [(50,df)])))/\(¬c<48->(-9223372036854775808<=(a:Int)+1/\(a:Int)+1<=9223372036854775807)/\((a:Int)+1=64->(-9223372036854775808<=(a:Int)+1/\(a:Int)+1<=9223372036854775807)/\(0<=(a:Int)+1/\(a:Int)+1<=(↑b.length:Int))/\(-9223372036854775808<=(a:Int)+1/\(a:Int)+1<=9223372036854775807)/\d .ret [(0,.str b),(2,.ptr (ba 50)),(3,.int .i64 ((a:Int)+1)),(4,.int .i64 0),(5,.bool false),(6,.int .i64 (a:Int))] (T.af 106 [(50,(ac.aj ([(Hf b a)]) 6 true (some (42,6))))]))/\(¬(a:Int)+1=64->(-9223372036854775808<=(a:Int)+1/\(a:Int)+1<=9223372036854775807)/\d .normal [(0,.str b),(2,.ptr (ba 50)),(5,.bool false),(6,.int .i64 ((a:Int)+1))] (T.af 99 [(50,df)])))))/\(¬(a:Int)<(↑b.length:Int)->d (.exit 0) [(0,.str b),(2,.ptr (ba 50)),(5,.bool false),(6,.int .i64 (a:Int))] (T.af 64 [(50,df)]))) :
 ∃e f aa,bR 0 79 (br 67 0) [(0,.str b),(2,.ptr (ba 50)),(5,.bool false),(6,.int .i64 (a:Nat))] (T.rows 60 [(50,cR (cV 0 0 0 0 0 []))]) e f aa/\d e f aa :=
 di cP mixed bT (hs:= .aq 3003 (.ak (.val 5002 (.int .u8 c)) (.ak (.val 6001 (.bool false)) (.aq 11001 (ag 12002 .nil) (.ak (.val 11004 (.bool false)) (.aq 13003 (ag 14001 He) (ag 14001 He)))))) .nil) (keep:=[0,2,3,4,5,6]) ar g
theorem Hg(b:Bytes)(a:Nat)(f:Bool)(c:Int)(d:bW->a8->T->Prop)(h:((a:Int)<(↑b.length:Int)->c8 env.D 9 (.str b) (.int .i64 (a:Int))=some (.int .u8 c)/\some (J.bool (decide (c≥64)))=some (J.bool true)/\some (J.bool (decide (c<=126)))=some (J.bool false)/\some (J.bool (decide (c<32)))=some (J.bool false)/\some (J.bool (decide (c>63)))=some (J.bool true)/\(0<=(a:Int)/\(a:Int)<=(↑b.length:Int))/\d .ret [(0,.str b),(2,.ptr (ba 50)),(3,.int .i64 (a:Int)),(4,.int .i64 0),(5,.bool f),(6,.int .i64 (a:Int))] (T.af 95 [(50,(ac.aj ([(wQ b a)]) 6 true (some (42,6))))]))/\(¬(a:Int)<(↑b.length:Int)->d (.exit 0) [(0,.str b),(2,.ptr (ba 50)),(5,.bool f),(6,.int .i64 (a:Int))] (T.af 64 [(50,df)]))) :
 ∃e g aa,bR 0 79 (br 67 0) [(0,.str b),(2,.ptr (ba 50)),(5,.bool f),(6,.int .i64 (a:Nat))] (T.rows 60 [(50,cR (cV 0 0 0 0 0 []))]) e g aa/\d e g aa :=
 di cP mixed bT (hs:= .aq 3003 (.ak (.val 5002 (.int .u8 c)) (.ak (.val 6001 (.bool true)) (.ak (.val 6004 (.bool false)) (.ak (.val 11001 (.bool false)) (.ak (.val 11004 (.bool true)) (ag 12002 .nil)))))) .nil) (keep:=[0,2,3,4,5,6]) ar h
abbrev Hh(e:Bytes)(b:Nat)(c a d f g:Int):ac:=(ac.aj ([.agg [.int .i8 c,.int .i32 a,.int .u8 d,.int .i64 f,.int .i64 g,.str (List.take (b+1) e)]]) 6 true (some (42,6)))
theorem RZ(b:Bytes)(a:Nat)(l:Bool)(i c d f g h k:Int)(m:Bytes)(j:bW->a8->T->Prop)(o:((a:Int)<(↑b.length:Int)->c8 env.D 9 (.str b) (.int .i64 (a:Int))=some (.int .u8 i)/\some (J.bool (decide (i≥64)))=some (J.bool true)/\some (J.bool (decide (i<=126)))=some (J.bool true)/\((0:Int)<=2/\2<=(a:Int)/\(a:Int)<=(↑b.length:Int))/\bM 93 [.str (List.drop 2 (List.take a b)),.int .u8 i] (T.af 85 [(50,df)]) (.tuple [(gb c d f g h m),.int .i64 k]) (T.af 85 [(50,df)])/\(c=7->(-9223372036854775808<=(a:Int)+1/\(a:Int)+1<=9223372036854775807)/\(0<=(a:Int)+1/\(a:Int)+1<=(↑b.length:Int))/\(-9223372036854775808<=(a:Int)+1/\(a:Int)+1<=9223372036854775807)/\j .ret [(0,.str b),(2,.ptr (ba 50)),(3,.int .i64 ((a:Int)+1)),(4,.int .i64 k),(5,.bool l),(6,.int .i64 (a:Int))] (T.af 101 [(50,(Hh b a c d f g h)),(82,(Hh b a c d f g h))]))/\(¬c=7->(-9223372036854775808<=(a:Int)+1/\(a:Int)+1<=9223372036854775807)/\j .ret [(0,.str b),(2,.ptr (ba 50)),(3,.int .i64 ((a:Int)+1)),(4,.int .i64 k),(5,.bool l),(6,.int .i64 (a:Int))] (T.af 95 [(50,(ac.aj ([(gb c d f g h m)]) 6 true (some (42,6)))),(82,(ac.aj ([(gb c d f g h m)]) 6 true (some (42,6))))])))/\(¬(a:Int)<(↑b.length:Int)->j (.exit 0) [(0,.str b),(2,.ptr (ba 50)),(5,.bool l),(6,.int .i64 (a:Int))] (T.af 64 [(50,df)]))) :
 ∃e n aa,bR 0 79 (br 67 0) [(0,.str b),(2,.ptr (ba 50)),(5,.bool l),(6,.int .i64 (a:Nat))] (T.rows 60 [(50,cR (cV 0 0 0 0 0 []))]) e n aa/\j e n aa :=
 di cP mixed bT (hs:= .aq 3003 (.ak (.val 5002 (.int .u8 i)) (.ak (.val 6001 (.bool true)) (.ak (.val 6004 (.bool true)) (ag 7002 (.ak (.val 7004 (.tuple [cV c d f g h m,.int .i64 k])) (.aq 8002 (ag 9002 (ag 9003 (ag 10002 .nil))) (ag 10002 .nil))))))) .nil) (keep:=[0,2,3,4,5,6]) ar o
theorem R0(a:Bytes)(d:Bool)(c:J)(b:bm)(e:bR 0 79 (Code.loop (br 67 0)) [(0,.str a),(2,.ptr (ba 0)),(5,.bool false),(6,.int .i64 2)] (T.af 5 [(0,bx)]) (.exit 0) [(0,.str a),(2,.ptr (ba 50)),(5,.bool d),(6,c)] (T.af 90 [(50,cR (cV 0 0 0 0 0 []))])/\b (.tuple [fF,.int .i64 0,.int .i64 2]) (T.af 94 [(50,df)])) :
 bC 67 [.str a] (⟨0,.nil⟩) b :=
 bI bT (.ak (.keep [0,2,5,6]) (.ak (.loop [(0,.str a),(2,.ptr (ba 50)),(5,.bool d),(6,c)] (T.af 90 [(50,cR (cV 0 0 0 0 0 []))]) (.exit 0)) .nil)) e
theorem R1(j:Bytes)(b a c e f g h:Int)(d:Bytes)(i:bm)(k:bR 0 79 (Code.loop (br 67 0)) [(0,.str j),(2,.ptr (ba 0)),(5,.bool false),(6,.int .i64 2)] (T.af 5 [(0,bx)]) .ret [(2,.ptr (ba 50)),(3,.int .i64 g),(4,.int .i64 h)] (T.af 90 [(50,cR (cV b a c e f d))])/\i (.tuple [(gb b a c e f d),.int .i64 g,.int .i64 h]) (T.af 90 [(50,(ac.aj ([(gb b a c e f d)]) 6 true (some (42,6))))])) :
 bC 67 [.str j] (⟨0,.nil⟩) i :=
 bI bT (.ak (.keep [0,2,5,6]) (.ak (.loop [(2,.ptr (ba 50)),(3,.int .i64 g),(4,.int .i64 h)] (T.af 90 [(50,cR (cV b a c e f d))]) .ret) .nil)) k
def hT(s:Bytes):Nat->Bool->Bytes->aP×Int×Int
 |_,_,[]=>(⟨0,0,0,0,0,[]⟩,0,2)
 |i,sn,c::r =>
  if 64<=c.toNat/\c.toNat<=126 then
   (if(gG ((s.take i).drop 2) c).1.kind=7 then { (gG ((s.take i).drop 2) c).1 with text:=s.take (i+1)} else(gG ((s.take i).drop 2) c).1,(i:Int)+1,(gG ((s.take i).drop 2) c).2)
  else if c.toNat<32\/63<c.toNat\/(sn=true/\48<=c.toNat)then(cQ (s.take i),i,0)
  else if i+1=64 then(cQ (s.take (i+1)),(i:Int)+1,0)
  else hT s (i+1) (sn || decide (c.toNat<48)) r
abbrev j'(s:Bytes)(k:Nat)(sn:Bool)(i:Nat):a8:=[(0,.str s),(2,.ptr (some ⟨k,0,0,0,6⟩)),(5,.bool sn),(6,.int .i64 (i:Nat))]
def nY(s:Bytes)(i:Nat)(sn:Bool)(c:UInt8)(r:Bytes)(e:bW)(F:a8)(h:T):Prop :=
 (e=.ret/\∃x p q a b,F=[(0,.str s),(2,.ptr (some ⟨50,0,0,0,6⟩)),(3,.int .i64 p),(4,.int .i64 q),(5,a),(6,b)]/\h.get 50=some (cR (bi x))/\hT s i sn (c::r)=(x,p,q)) \/
 (e=.normal/\F=j' s 50 (sn || decide (c.toNat<48)) (i+1)/\h.get 50=some (cR (cV 0 0 0 0 0 []))/\hT s i sn (c::r)=hT s (i+1) (sn || decide (c.toNat<48)) r)
theorem R2{s:Bytes}{i:Nat}{sn:Bool}(ah:i<s.length)(h2:2<=i)(hs:s.length<2^40) :
 ∃e F h,bR 0 79 (br 67 0) (j' s 50 sn i) (T.rows 60 [(50,cR (cV 0 0 0 0 0 []))]) e F h/\nY s i sn s[i] (s.drop (i+1)) e F h:=by
 have I:s[i].toNat=bP s i:=by unfold bP;rw [gf,c7 ah];rfl
 have f:=jt ah;rw [<-I]at f;generalize s[i]=c at f;generalize s.drop (i+1)=r;have al:=c.toNat_lt;by_cases j:64<=c.toNat/\c.toNat<=126
 .have tl:∀h,bu 93 [.str ((s.take i).drop 2),.int .u8 (c.toNat:Nat)] h (eo ((s.take i).drop 2) c) h:=λh=>RW (by rw [ep,kl];omega) c h
  have C:hT s i sn (c::r)=(if(gG ((s.take i).drop 2) c).1.kind=7 then { (gG ((s.take i).drop 2) c).1 with text:=s.take (i+1)} else(gG ((s.take i).drop 2) c).1,(i:Int)+1,(gG ((s.take i).drop 2) c).2):=by
   conv=>lhs;unfold hT
   rw [aE j]
  unfold eo at tl;generalize gG ((s.take i).drop 2) c=E at tl C;obtain⟨⟨k,d,m,x,y,t⟩,p⟩:=E;exact RZ s i sn (c.toNat:Nat) k d m x y p t (nY s i sn c r) ⟨λ_=>⟨f,by rw [gj V],by rw [gj V],⟨V,V,V⟩,⟨tl _⟩,λA=>⟨⟨V,V⟩,⟨V,V⟩,⟨V,V⟩,.inl ⟨rfl,⟨k,d,m,x,y,s.take (i+1)⟩,_,_,_,_,rfl,rfl,by rw [C,aE A]⟩⟩,λA=>⟨⟨V,V⟩,.inl ⟨rfl,⟨k,d,m,x,y,t⟩,_,_,_,_,rfl,rfl,by rw [C,ap A]⟩⟩⟩,λh=>absurd h V⟩
 .have G:c.toNat<64->(some (J.bool (decide (((c.toNat:Nat):Int)≥64))):Option J)=some (.bool false):=λh=>by rw [gi V]
  have bad:(c.toNat<32\/63<c.toNat\/(sn=true/\48<=c.toNat))-> ∀a b n,nY s i sn c r .ret [(0,.str s),(2,.ptr (some ⟨50,0,0,0,6⟩)),(3,.int .i64 (i:Nat)),(4,.int .i64 (0)),(5,a),(6,b)] (T.af n [(50,cR (cV 7 0 0 0 0 (s.take i)))]):=λh a b n =>
   .inl ⟨rfl,cQ (s.take i),_,_,_,_,rfl,rfl,by unfold hT;rw [ap j,aE h]⟩
  have o:¬(c.toNat<32\/63<c.toNat\/(sn=true/\48<=c.toNat))->i+1=64-> ∀a b n,nY s i sn c r .ret [(0,.str s),(2,.ptr (some ⟨50,0,0,0,6⟩)),(3,.int .i64 ((i:Int)+1)),(4,.int .i64 (0)),(5,a),(6,b)] (T.af n [(50,cR (cV 7 0 0 0 0 (s.take (i+1))))]):=λh z a b n =>
   .inl ⟨rfl,cQ (s.take (i+1)),_,_,_,_,rfl,rfl,by unfold hT;rw [ap j,ap h,aE z]⟩
  have B:¬(c.toNat<32\/63<c.toNat\/(sn=true/\48<=c.toNat))->i+1≠64-> ∀w n,w=(sn || decide (c.toNat<48))->nY s i sn c r .normal [(0,.str s),(2,.ptr (some ⟨50,0,0,0,6⟩)),(5,.bool w),(6,.int .i64 ((i:Int)+1))] (T.af n [(50,cR (cV 0 0 0 0 0 []))]):=λh z w n e =>
   .inr ⟨rfl,by rw [e];rfl,rfl,by conv=> {lhs;unfold hT};rw [ap j,ap h,ap z]⟩
  by_cases H:63<c.toNat
  .exact Hg s i sn (c.toNat:Nat) (nY s i sn c r) ⟨λ_=>⟨f,by rw [gj V],by rw [gi V],by rw [gi V],by rw [gj V],⟨V,V⟩,bad (.inr (.inl H)) _ _ _⟩,λh=>absurd h V⟩
  .have D:(some (J.bool (decide (((c.toNat:Nat):Int)>63))):Option J)=some (.bool false):=by rw [gi V]
   cases sn with
   |true =>
    refine RX s i (c.toNat:Nat) (nY s i true c r) ⟨λ_=>⟨f,G V,λu=>⟨⟨V,V⟩,bad (.inl V) _ _ _⟩,λu=>⟨D,λv=>⟨⟨V,V⟩,bad (.inr (.inr ⟨rfl,V⟩)) _ _ _⟩,λv=>⟨⟨V,V⟩,λg=>⟨⟨V,V⟩,⟨V,V⟩,⟨V,V⟩,?_⟩,λg=>⟨⟨V,V⟩,?_⟩⟩⟩⟩,λh=>absurd h V⟩
    .exact o V V _ _ _
    .exact B V V _ _ rfl
   |false =>
    have l:32<=c.toNat-> ¬(c.toNat<32\/63<c.toNat\/(false=true/\48<=c.toNat)):=λh q=>q.elim (λa=>absurd a V) λq=>q.elim (λa=>absurd a H) λa=>absurd a.1 aA
    refine RY s i (c.toNat:Nat) (nY s i false c r) ⟨λ_=>⟨f,G V,λu=>⟨⟨V,V⟩,bad (.inl V) _ _ _⟩,λu=>⟨D,λv=>⟨⟨V,V⟩,λg=>⟨⟨V,V⟩,⟨V,V⟩,⟨V,V⟩,?_⟩,λg=>⟨⟨V,V⟩,?_⟩⟩,λv=>⟨⟨V,V⟩,λg=>⟨⟨V,V⟩,⟨V,V⟩,⟨V,V⟩,?_⟩,λg=>⟨⟨V,V⟩,?_⟩⟩⟩⟩,λh=>absurd h V⟩
    .exact o (l V) V _ _ _
    .exact B (l V) V _ _ (by rw [gj (by omega:c.toNat<48)];rfl)
    .exact o (l V) V _ _ _
    .exact B (l V) V _ _ (by rw [gi (by omega:¬c.toNat<48)];rfl)
theorem A1(x:aP):cj (cR (bi x)):=by intro e he;rw [cC.1 he];exact ci.of rfl
theorem lA{K:List Nat}{i v o l e:Nat}(h:i∈K):bQ (Go.bh.bO K) (.ptr (some ⟨i,v,o,l,e⟩)):=h
theorem A2{s:Bytes}{k i:Nat}{sn:Bool}{h:T}(ag:h.get k=some (cR (cV 0 0 0 0 0 []))):b5 0 79 (j' s k sn i) h (j' s 50 sn i) (T.rows 60 [(50,cR (cV 0 0 0 0 0 []))]):=by
 have a:cj (cR (cV 0 0 0 0 0 [])):=A1 ⟨0,0,0,0,0,[]⟩;refine b5.move (K:=60) (l:=[(50,cR (cV 0 0 0 0 0 []))]) (λ_=>k) ?_ rfl ?_ rfl rfl ?_ rfl ?_ ?_
 .simp [ag,a.aK]
 .simp
 .simp [J.aK,aT.aK]
 .exact a7.cons trivial (a7.cons (lA an) (a7.cons trivial (a7.cons trivial a7.nil)))
 .exact a7.cons (λe he=>(a e he).dh _) a7.nil
abbrev A3(p q:Int):a8:=[(2,.ptr (some ⟨50,0,0,0,6⟩)),(3,.int .i64 p),(4,.int .i64 q)]
theorem R3{s:Bytes}{x:aP}{p q:Int}{a b:J}{h:T}(ag:h.get 50=some (cR (bi x))):b5 0 79 [(0,.str s),(2,.ptr (some ⟨50,0,0,0,6⟩)),(3,.int .i64 p),(4,.int .i64 q),(5,a),(6,b)] h (A3 p q) (T.rows 90 [(50,cR (bi x))]):=by
 have d:=A1 x;refine b5.trans (G:=A3 p q) (g:=h) (b5.facts ?_) ?_
 .intro j u hu;rw [gH]at hu;split at hu
  .rename_i c;subst c;rw [<-hu];rfl
  .rw [gH]at hu;split at hu
   .rename_i c;subst c;rw [<-hu];rfl
   .rw [gH]at hu;split at hu
    .rename_i c;subst c;rw [<-hu];rfl
    .cases hu
 .refine b5.move (K:=90) (l:=[(50,cR (bi x))]) (λ_=>50) ?_ rfl ?_ rfl rfl ?_ rfl ?_ ?_
  .simp [ag,d.aK]
  .simp
  .simp [J.aK,aT.aK]
  .exact a7.cons (lA an) (a7.cons trivial (a7.cons trivial a7.nil))
  .exact a7.cons (λe he=>(d e he).dh _) a7.nil
theorem R4{s:Bytes}(hs:s.length<2^40):∀(k i:Nat)(sn:Bool),s.length-i<=k->i<=s.length->2<=i ->
 (hT s i sn (s.drop i)=(⟨0,0,0,0,0,[]⟩,0,2)/\∃g,∃h,dl 0 79 (br 67 0) (j' s 50 sn i) (T.rows 60 [(50,cR (cV 0 0 0 0 0 []))]) (.exit 0) (j' s 50 g s.length) h/\h.get 50=some (cR (cV 0 0 0 0 0 []))) \/
 (∃x p q,hT s i sn (s.drop i)=(x,p,q)/\dl 0 79 (br 67 0) (j' s 50 sn i) (T.rows 60 [(50,cR (cV 0 0 0 0 0 []))]) .ret (A3 p q) (T.rows 90 [(50,cR (bi x))])):=by
 intro k;induction k with
 |zero =>
  intro i sn m ah h2;obtain rfl:i=s.length:= V;rw [lO];obtain⟨e,F,h,c,rfl,rfl,ag⟩:=Hg s s.length sn 0 (λe F h=>e=.exit 0/\F=j' s 50 sn s.length/\h.get 50=some (cR (cV 0 0 0 0 0 []))) ⟨λh=>absurd h V,λ_=>⟨rfl,rfl,rfl⟩⟩;exact .inl ⟨rfl,sn,h,bX.last an c,ag⟩
 |succ k ih =>
  intro i sn m ah h2;by_cases al:i<s.length
  .rw [iS al];obtain⟨e,F,h,c,j⟩:=R2 (sn:=sn) al h2 hs;rcases j with ⟨rfl,x,p,q,a,b,rfl,ag,f⟩|⟨rfl,rfl,ag,f⟩
   .exact .inr ⟨x,p,q,f,bX.last an (c.post (R3 ag))⟩
   .rw [f];rcases ih (i+1) (sn || decide (s[i].toNat<48)) V V V with ⟨aa,g,ad,d,l⟩|⟨x,p,q,aa,d⟩
    .exact .inl ⟨aa,g,ad,bX.step (c.post (A2 ag)) d,l⟩
    .exact .inr ⟨x,p,q,aa,bX.step (c.post (A2 ag)) d⟩
  .exact ih i sn V ah h2
theorem Hi(B:ac):T.rows 90 [(50,B)]=T.af 90 [(50,B)]:= ar
theorem R5{s:Bytes}{sn:Bool}{i:Nat}{h:T}(ag:h.get 50=some (cR (cV 0 0 0 0 0 []))):b5 0 79 (j' s 50 sn i) h (j' s 50 sn i) (T.rows 90 [(50,cR (cV 0 0 0 0 0 []))]):=by
 have a:cj (cR (cV 0 0 0 0 0 [])):=A1 ⟨0,0,0,0,0,[]⟩;refine b5.move (K:=90) (l:=[(50,cR (cV 0 0 0 0 0 []))]) (λ_=>50) ?_ rfl ?_ rfl rfl ?_ rfl ?_ ?_
 .simp [ag,a.aK]
 .simp
 .simp [J.aK,aT.aK]
 .exact a7.cons trivial (a7.cons (lA an) (a7.cons trivial (a7.cons trivial a7.nil)))
 .exact a7.cons (λe he=>(a e he).dh _) a7.nil
theorem R6{s:Bytes}(hs:s.length<2^40)(h2:2<=s.length)(H:T):bu 67 [.str s] H (hR (hT s 2 false (s.drop 2))) H:=by
 have g:b5 0 79 (j' s 0 false 2) (T.af 5 [(0,cR (cV 0 0 0 0 0 []))]) (j' s 50 false 2) (T.rows 60 [(50,cR (cV 0 0 0 0 0 []))]):=A2 rfl;rcases R4 hs s.length 2 false V h2 V with ⟨f,sn,ad,e,ag⟩|⟨x,p,q,f,e⟩
 .rw [f];have c:=(cZ.dJ (e.pre g)).post (R5 ag);rw [Hi]at c;exact bl.cm (R0 s sn (.int .i64 (s.length:Nat)) (λv _=>v=hR (⟨0,0,0,0,0,[]⟩,0,2)) ⟨c,rfl⟩) rfl rfl H
 .rw [f];have c:=cZ.dJ (e.pre g);rw [Hi]at c;obtain⟨k,d,m,a,b,t⟩:=x;exact bl.cm (R1 s k d m a b p q t (λv _=>v=hR (⟨k,d,m,a,b,t⟩,p,q)) ⟨c,rfl⟩) rfl rfl H
abbrev lB(b a c e f:Int)(d:Bytes):J:=J.agg [.int .i8 b,.int .i32 a,.int .u8 c,.int .i64 e,.int .i64 f,.str d]
theorem R7(j:Bytes)(g b a c e f h i:Int)(d:Bytes)(k:bm)(l:c8 env.D 9 (.str j) (.int .i64 0)=some (.int .u8 g)/\some (J.bool (g != 27))=some (J.bool true)/\bM 66 [.str j] (T.af 14 [(0,bx)]) (.tuple [(lB b a c e f d),.int .i64 h,.int .i64 i]) (T.af 14 [(0,bx)])/\k (.tuple [(lB b a c e f d),.int .i64 h,.int .i64 i]) (T.af 14 [(0,(ac.aj ([(lB b a c e f d)]) 6 true (some (42,6))))])) :
 bC 39 [.str j] (⟨0,.nil⟩) k :=
 bI bT (.ak (.val 1001 (.int .u8 g)) (.ak (.val 1002 (.bool true)) (.ak (.val 2001 (.tuple [cV b a c e f d,.int .i64 h,.int .i64 i])) .nil))) l
abbrev A4(b a c e f:Int)(d:Bytes):J:=J.agg [.int .i8 b,.int .i32 a,.int .u8 (c+2),.int .i64 e,.int .i64 f,.str d]
abbrev Hj(a:Int):J:=J.agg [.int .i8 2,.int .i32 (21+a),.int .u8 0,.int .i64 0,.int .i64 0,.str []]
abbrev A5(b a c e f:Int)(d:Bytes):J:=J.agg [.int .i8 b,.int .i32 a,.int .u8 c,.int .i64 e,.int .i64 f,.str ((27:UInt8)::d)]
theorem qK(g:Bytes)(l j n k a d b e f i m:Int)(c:Bytes)(h:bm)(o:c8 env.D 9 (.str g) (.int .i64 0)=some (.int .u8 27)/\((↑g.length:Int)=1->h (.tuple [fF,.int .i64 0,.int .i64 2]) (T.af 13 [(0,df)]))/\(¬(↑g.length:Int)=1->c8 env.D 9 (.str g) (.int .i64 1)=some (.int .u8 l)/\(l=27->h (.tuple [oS,.int .i64 1,.int .i64 0]) (T.af 17 [(0,(ac.aj ([oS]) 6 true (some (42,6))))]))/\(¬l=27->(l=91->bM 67 [.str g] (T.af 23 [(0,bx)]) (.tuple [(lB a d b e f c),.int .i64 i,.int .i64 m]) (T.af 23 [(0,bx)])/\h (.tuple [(lB a d b e f c),.int .i64 i,.int .i64 m]) (T.af 23 [(0,(ac.aj ([(lB a d b e f c)]) 6 true (some (42,6))))]))/\(¬l=91->(l=79->((↑g.length:Int)=2->h (.tuple [fF,.int .i64 0,.int .i64 2]) (T.af 24 [(0,df)]))/\(¬(↑g.length:Int)=2->c8 env.D 9 (.str g) (.int .i64 2)=some (.int .u8 j)/\bM 64 [.int .u8 j] (T.af 24 [(0,bx)]) (.int .i32 n) (T.af 24 [(0,bx)])/\(0<n->h (.tuple [(qG n),.int .i64 3,.int .i64 0]) (T.af 31 [(0,(ac.aj ([(qG n)]) 6 true (some (42,6))))]))/\(¬0<n->c8 env.D 9 (.str g) (.int .i64 2)=some (.int .u8 j)/\bM 68 [.str [80,81,82,83],.int .u8 j] (T.af 30 [(0,bx)]) (.int .i64 k) (T.af 30 [(0,bx)])/\(0<=k->(-2147483648<=k/\k<=2147483647)/\(-2147483648<=21+k/\21+k<=2147483647)/\h (.tuple [(Hj k),.int .i64 3,.int .i64 0]) (T.af 39 [(0,(ac.aj ([(Hj k)]) 6 true (some (42,6))))]))/\(¬0<=k->c8 env.D 9 (.str g) (.int .i64 2)=some (.int .u8 j)/\(j=77->h (.tuple [oT,.int .i64 3,.int .i64 0]) (T.af 39 [(0,(ac.aj ([oT]) 6 true (some (42,6))))]))/\(¬j=77->h (.tuple [nE,.int .i64 2,.int .i64 0]) (T.af 39 [(0,(ac.aj ([nE]) 6 true (some (42,6))))]))))))/\(¬l=79->((0:Int)<=1/\1<=(↑g.length:Int))/\bM 66 [.str (List.drop 1 g)] (T.af 28 [(0,bx)]) (.tuple [(lB a d b e f c),.int .i64 i,.int .i64 m]) (T.af 28 [(0,bx)])/\(m=2->h (.tuple [(lB a d b e f c),.int .i64 0,.int .i64 2]) (T.af 34 [(0,(ac.aj ([(lB a d b e f c)]) 6 true (some (42,6)))),(24,(ac.aj ([(lB a d b e f c)]) 6 true (some (42,6))))]))/\(¬m=2->(a=7->Nat.le (Nat.succ (List.length (Array.toList (ByteArray.data {data:= #[27]}))+c.length)) (2^62)/\(-9223372036854775808<=i+1/\i+1<=9223372036854775807)/\h (.tuple [(A5 a d b e f c),.int .i64 (i+1),.int .i64 0]) (T.af 44 [(0,(ac.aj ([(A5 a d b e f c)]) 6 true (some (42,6)))),(24,(ac.aj ([(A5 a d b e f c)]) 6 true (some (42,6))))]))/\(¬a=7->(0<=b+2/\b+2<=255)/\(-9223372036854775808<=i+1/\i+1<=9223372036854775807)/\h (.tuple [(A4 a d b e f c),.int .i64 (i+1),.int .i64 0]) (T.af 44 [(0,(ac.aj ([(A4 a d b e f c)]) 6 true (some (42,6)))),(24,(ac.aj ([(A4 a d b e f c)]) 6 true (some (42,6))))])))))))) :
 bC 39 [.str g] (⟨0,.nil⟩) h :=
 bI bT (.ak (.val 1001 (.int .u8 27)) (.aq 3002 .nil (.ak (.val 5001 (.int .u8 l)) (.aq 6000 .nil (.aq 8000 (.ak (.val 9001 (.tuple [cV a d b e f c,.int .i64 i,.int .i64 m])) .nil) (.aq 10000 (.aq 11002 .nil (.ak (.val 13001 (.int .u8 j)) (.ak (.val 13002 (.int .i32 n)) (.aq 14001 .nil (.ak (.val 16001 (.int .u8 j)) (.ak (.val 16002 (.int .i64 k)) (.aq 17001 (ag 18001 (ag 18002 .nil)) (.ak (.val 19001 (.int .u8 j)) (.aq 19002 .nil .nil))))))))) (ag 22001 (.ak (.val 22002 (.tuple [cV a d b e f c,.int .i64 i,.int .i64 m])) (.aq 23001 .nil (.aq 25002 (ag 26002 (ag 28002 .nil)) (ag 27002 (ag 28002 .nil)))))))))))) o
end Go.Proofs.YtddnafghiejcoaaGreatDoor
namespace Go.Keys
def mA:Nat->Nat->Bytes->Nat
 |0,v,_=>v
 |_+1,v,[]=>v
 |k+1,v,c::r=>mA k (v*64+c.toNat%64) r
def Hk:Nat->Nat->Nat->Bytes->Prop
 |0,_,_,_=>True
 |_+1,_,_,[]=>False
 |k+1,aD,ah,c::r=>aD<=c.toNat/\c.toNat<=ah/\Hk k 128 191 r
theorem Hl:∀(k i aD ah v:Nat)(l:Bytes),
 (tail k i aD ah v l).2.2=true \/
 (∃j,j<k/\j<l.length/\tail k i aD ah v l=(65533,i+j,false)/\(tail k i aD ah v (l.take j)).2.2=true/\tail k i aD ah v (l.take (j+1))=(65533,i+j,false)) \/
 (k<=l.length/\tail k i aD ah v l=(mA k v l,i+k,false)/\Hk k aD ah l)
 |0,i,aD,ah,v,l=> .inr (.inr ⟨n6 _,by rw [qB];rfl,trivial⟩)
 |k+1,i,aD,ah,v,[]=> .inl rfl
 |k + 1,i,aD,ah,v,c::r=>by
  by_cases al:c.toNat<aD\/ah<c.toNat
  .refine .inr (.inl ⟨0,V,an,?_,rfl,?_⟩)
   .unfold tail;rw [aE al];rfl
   .show tail (k+1) i aD ah v [c]=_;unfold tail;rw [aE al];rfl
  .have e:∀t,tail (k+1) i aD ah v (c::t)=tail k (i+1) 128 191 (v*64+c.toNat%64) t:=λt=>j8 V V
   rw [e];rcases Hl k (i+1) 128 191 (v*64+c.toNat%64) r with h|⟨j,aa,h2,a,b,d⟩|⟨aa,h2,a⟩
   .exact .inl h
   .refine .inr (.inl ⟨j+1,V,by simp;omega,by rw [a];simp;omega,?_,?_⟩)
    .rw [pz,e];exact b
    .rw [pz,e,d];simp;omega
   .refine .inr (.inr ⟨by simp;omega,by rw [h2];simp [mA];omega,V,V,a⟩)
theorem Hm:∀(k i aD ah v:Nat)(l m:Bytes),0<k->(tail k i aD ah v (l++m)).2.2=true->(tail k i aD ah v l).2.2=true
 |0,i,aD,ah,v,l,m,h,_=>absurd h V
 |k+1,i,aD,ah,v,[],m,h,_=>rfl
 |k +1,i,aD,ah,v,c::r,m,h,a=>by
  simp only [hA,tail]at a⊢;split at a
  .simp at a
  .rename_i al;rw [ap al];cases k with
   |zero=>simp [qB]at a
   |succ k=>exact Hm _ _ _ _ _ _ _ V a
theorem Hn{h t:Bytes}(a:(first (h++t)).2.2=true)(az:h≠[]):(first h).2.2=true:=by
 cases h with
 |nil=>exact absurd rfl az
 |cons b r =>
  obtain⟨d,g,e,f,c⟩:=oL a;simp only [hA,fT]at e;obtain⟨rfl,rfl⟩:=e;rw [c]at a;have:=Hm _ _ _ _ _ _ _ V a;simp only [first];rw [ap V,ap V];exact this
theorem gF(n:Nat):lead n=(0,0,0)\/(n<128/\lead n=(1,0,0))\/(194<=n/\n<=223/\lead n=(2,128,191)) \/
 (224<=n/\n<=239/\lead n=(3,if n=224 then 160 else 128,if n=237 then 159 else 191))\/(240<=n/\n<=244/\lead n=(4,if n=240 then 144 else 128,if n=244 then 143 else 191)):=by
 by_cases aa:n<128
 .exact .inr (.inl ⟨aa,AK aa⟩)
 by_cases h2:194<=n/\n<=223
 .exact .inr (.inr (.inl ⟨h2.1,h2.2,Gp h2.1 h2.2⟩))
 by_cases a:224<=n/\n<=239
 .exact .inr (.inr (.inr (.inl ⟨a.1,a.2,Gq a.1 a.2⟩)))
 by_cases b:240<=n/\n<=244
 .exact .inr (.inr (.inr (.inr ⟨b.1,b.2,Gr b.1 b.2⟩)))
 .left;unfold lead;rw [ap aa,ap h2,ap V,ap V,ap V,ap V,ap V,ap V]
theorem fP{n:Nat}{c:UInt8}(h:n=c.toNat):u8 n=c:=by rw [h];exact UInt8.ofNat_toNat
inductive R8(s:Bytes):Prop where
 |more (h:(first s).2.2=true)
 |whole (r n:Nat) (e:first s=(r,n,false)) (hs:Scalar r) (ae:put r=s.take n) (az:1<=n/\n<=s.length)
 |lone (e:first s=(65533,1,false)) (aI:first (s.take 1)=(65533,1,false)) (aa:128<=((s.getD 0 0).toNat))
 |broken (n:Nat) (aa:1<=n) (h2:n<s.length) (e:first s=(65533,n,false)) (o:(first (s.take n)).2.2=true) (aI:first (s.take (n+1))=(65533,n,false))
theorem begun{s:Bytes}(hs:s≠[]):R8 s:=by
 cases s with
 |nil=>exact absurd rfl hs
 |cons b r =>
  have u:=b.toNat_lt;by_cases aN:(lead b.toNat).1=0
  .refine .lone ?_ ?_ ?_
   .simp [first,aN]
   .simp [first,aN]
   .show 128<=b.toNat;rcases gg b.toNat 128 with h|h
    .rw [AK h]at aN;cases aN
    .exact h
  by_cases aa:(lead b.toNat).1=1
  .have q:b.toNat<128:=by
    rcases gF b.toNat with h|h|h|h|h
    .rw [h]at aa;cases aa
    .exact h.1
    .rw [h.2.2]at aa;cases aa
    .rw [h.2.2]at aa;cases aa
    .rw [h.2.2]at aa;cases aa
   refine .whole b.toNat 1 ?_ (.inl V) ?_ ⟨V,an⟩
   .simp [first,aa]
   .rw [l8 q,fP rfl];rfl
  .have i :∀t,first (b::t)=tail ((lead b.toNat).1-1) 1 (lead b.toNat).2.1 (lead b.toNat).2.2 (b.toNat%2^(7- (lead b.toNat).1)) t:=λt=>by simp only [first,ap aN,ap aa]
   rcases Hl ((lead b.toNat).1-1) 1 (lead b.toNat).2.1 (lead b.toNat).2.2 (b.toNat%2^(7- (lead b.toNat).1)) r with h|⟨j,h2,e,a,g,k⟩|⟨h2,e,a⟩
   .exact .more (by rw [i];exact h)
   .refine .broken (j+1) V (by simp;omega) ?_ ?_ ?_
    .rw [i,a,Nat.add_comm]
    .rw [pz,i];exact g
    .rw [pz,i,k,Nat.add_comm]
   .rw [<-i]at e;rcases gF b.toNat with h|h|⟨cq,cn,h⟩|⟨cq,cn,h⟩|⟨cq,cn,h⟩
    .rw [h]at aN;exact absurd rfl aN
    .rw [h.2]at aa;exact absurd rfl aa
    .rw [h]at h2 e a
     match r,h2,e,a with
     |c ::r,_,e,a =>
      obtain⟨a,g,_⟩:=a;simp only at a g
      have m:mA 1 (b.toNat%32) (c::r)=(b.toNat-192)*64+(c.toNat-128):=by show(b.toNat%32)*64+c.toNat%64=_;omega
      have e:first (b::c::r)=(mA 1 (b.toNat%32) (c::r),2,false):=e
      rw [m]at e;refine .whole _ 2 e (.inl V) ?_ ⟨V,an⟩;rw [qc V V,fP (c:=b) V,fP (c:=c) V];rfl
    .rw [h]at h2 e a
     match r,h2,e,a with
     |c ::d::r,_,e,a =>
      obtain⟨a,g,k,n,_⟩:=a;simp only at a g k n;have a:128<=c.toNat/\(b.toNat=224->160<=c.toNat):=by split at a<;>omega
      have g:c.toNat<=191/\(b.toNat=237->c.toNat<=159):=by split at g<;>omega
      have m:mA 2 (b.toNat%16) (c::d::r)=(b.toNat-224)*4096+(c.toNat-128)*64+(d.toNat-128):=by show((b.toNat%16)*64+c.toNat%64)*64+d.toNat%64=_;omega
      have e:first (b::c::d::r)=(mA 2 (b.toNat%16) (c::d::r),3,false):=e
      rw [m]at e
      have l:Scalar ((b.toNat-224)*4096+(c.toNat-128)*64+(d.toNat-128)):=by unfold Scalar;omega
      refine .whole _ 3 e l ?_ ⟨V,an⟩;rw [qd l V V,fP (c:=b) V,fP (c:=c) V,fP (c:=d) V];rfl
    .rw [h]at h2 e a
     match r,h2,e,a with
     |c ::d::f::r,_,e,a =>
      obtain⟨a,g,k,n,o,p,_⟩:=a;simp only at a g k n o p;have a:128<=c.toNat/\(b.toNat=240->144<=c.toNat):=by split at a<;>omega
      have g:c.toNat<=191/\(b.toNat=244->c.toNat<=143):=by split at g<;>omega
      have m:mA 3 (b.toNat%8) (c::d::f::r)=(b.toNat-240)*262144+(c.toNat-128)*4096+(d.toNat-128)*64+(f.toNat-128):=by show(((b.toNat%8)*64+c.toNat%64)*64+d.toNat%64)*64+f.toNat%64=_;omega
      have e:first (b::c::d::f::r)=(mA 3 (b.toNat%8) (c::d::f::r),4,false):=e
      rw [m]at e
      have l:Scalar ((b.toNat-240)*262144+(c.toNat-128)*4096+(d.toNat-128)*64+(f.toNat-128)):=by unfold Scalar;omega
      refine .whole _ 4 e l ?_ ⟨V,an⟩;rw [qe l V,fP (c:=b) V,fP (c:=c) V,fP (c:=d) V,fP (c:=f) V];rfl
def gS:aP:=⟨0,0,0,0,0,[]⟩
def fA(s:Bytes):aP×Int×Int :=
 if(s.getD 0 0).toNat<32\/(s.getD 0 0).toNat=127 then(control (s.getD 0 0).toNat,1,0)
 else if(first s).2.2=true then(gS,0,2)
 else if(first s).1=65533/\s.take (first s).2.1≠[239,191,189]then(cQ (s.take (first s).2.1),((first s).2.1:Nat),0)
 else(dq ((first s).1:Nat),((first s).2.1:Nat),0)
abbrev mB(e:aP)(x:bq×List aP):bq×List aP:=(x.1,e::x.2)
theorem Ho{p:Bytes} :∀(t h:Bytes),h≠[]->(first (h++t)).2.2=true->bY ⟨.cd,p++h,h,[]⟩ t=(⟨.cd,p++(h++t),h++t,[]⟩,[])
 |[],h,_,_=>by simp [bY]
 |c ::t,h,az,a=>by
  have aI:h++c::t=(h++[c])++t:= an;rw [aI]at a;have o:=Hn a an
  have e7:step ⟨.cd,p++h,h,[]⟩ c=(⟨.cd,p++(h++[c]),h++[c],[]⟩,[]):=by show eZ ⟨.cd,p++h,h,[]⟩ c (λs1=>bad s1 c)=_;exact s8 o _
  rw [bY,e7];simp only [eg];rw [Ho t (h++[c]) an a,aI]
abbrev lC(nx:gE)(p:Bytes)(no:bq->bq×List aP)(c:UInt8)(t:Bytes):bq×List aP :=
 ((bY (eZ ⟨nx,p,[],[]⟩ c no).1 t).1,(eZ ⟨nx,p,[],[]⟩ c no).2++(bY (eZ ⟨nx,p,[],[]⟩ c no).1 t).2)
theorem A6{nx:gE}{p:Bytes}{no:bq->bq×List aP}{c:UInt8}{t:Bytes}(a:(first (c::t)).2.2=true):lC nx p no c t=(⟨.cd,p++c::t,c::t,[]⟩,[]):=by have aa:(first ([]++[c])).2.2=true:=Hn (h:=[c]) (t:=t) a an;have e:=s8 (p:=p) (nx:=nx) aa no;simp only [fV,eg]at e;unfold lC;rw [e];simp only [eg];rw [Ho t [c] an a];rfl
theorem Hp{nx:gE}{p:Bytes}(ae:nP p){no:bq->bq×List aP}{c:UInt8}{t:Bytes}(j:32<=c.toNat)(i:c.toNat≠127){r n:Nat}(hs:Scalar r)(he:put r=(c::t).take n)(az:1<=n/\n<=(c::t).length) :
 lC nx p no c t=mB (dq r (2*p.length)) (bY zero ((c::t).drop n)):=by
 obtain⟨k,rfl⟩:∃k,n=k+1:=⟨n-1,V⟩
 rw [pz]at he;rw [List.drop_succ_cons]
 have e:32<=r/\r≠127:=by
  rcases gg r 128 with h|h
  .rw [l8 h]at he;have:u8 r=c:=(List.cons.inj he).1;have g:=dW UInt8.toNat this;rw [j7 V]at g;omega
  .omega
 obtain⟨f1,f2,_⟩:=QG hs ae e.1 e.2 (nx:=nx) no he;have f:t=t.take k++t.drop k:=(List.take_append_drop k t).symm;unfold lC mB;generalize t.take k=a at *;generalize t.drop k=b at *;subst f;rw [uW,f1,f2];by_cases d:a=[]
 .simp [d]
 .simp [d]
theorem R9{p:Bytes}(ae:nP p):at' p=p.length:=by rcases ae with rfl|rfl<;>rfl
theorem Hq{nx:gE}{p:Bytes}(ae:nP p){no:bq->bq×List aP}{c:UInt8}{t:Bytes}(e:first [c]=(65533,1,false)):lC nx p no c t=mB (cQ (p++[c])) (bY zero t):=by
 have f1:bG [] c=([65533],[]):=by show fj 1 [c]=_;rw [wD an,e];rfl
 have v1:valid [c]=false:=by
  have a:dn [c]=[65533]:=by show(first [c]).1::gI 0 _=_;rw [e];rfl
  unfold valid;rw [a];show(put 65533++[] ==[c])=false;rw [yL];simp
 have c0:eZ ⟨nx,p,[],[]⟩ c no=(zero,[cQ (p++[c])]):=by unfold eZ;simp only [f1,R9 ae];rw [ap an,aE (.inl ⟨rfl,trivial⟩),wE,ap (by rw [v1];simp)];rfl
 unfold lC;rw [c0];rfl
theorem A7(c:UInt8)(t:Bytes):bY zero (c::t)=((bY (ground zero c).1 t).1,(ground zero c).2++(bY (ground zero c).1 t).2):=rfl
theorem Hr{nx:gE}{p:Bytes}(ae:nP p){no:bq->bq×List aP}{c:UInt8}{t:Bytes}(al:c≠27){n:Nat}(aa:1<=n)(h2:n<(c::t).length)(o:(first ((c::t).take n)).2.2=true)(aI:first ((c::t).take (n+1))=(65533,n,false)) :
 lC nx p no c t=mB (cQ (p++(c::t).take n)) (bY zero ((c::t).drop n)):=by
 have e:c::t=(c::t).take n++(c::t).drop n:=(List.take_append_drop n (c::t)).symm;have f:(c::t).drop n=(c::t)[n]::(c::t).drop (n+1):=iS h2;have h:(c::t).take (n+1)=(c::t).take n++[(c::t)[n]]:=(w8 h2).symm;have hlen:((c::t).take n).length=n:=by rw [kl];omega
 obtain⟨k,rfl⟩:∃k,n=k+1:=⟨n-1,V⟩
 rw [h]at aI;rw [f];rw [f]at e;generalize (c::t)[k+1]=d at *;generalize (c::t).drop (k+1+1)=b at *;rw [pz]at *;generalize t.take k=a at *;rw [hA,fT]at e;obtain⟨_,rfl⟩:=e;have g:=A6 (nx:=nx) (p:=p) (no:=no) o;unfold lC at g⊢;have aO:=(bo ..).mp g;obtain⟨cq,cn⟩:=aO;have ei:=List.append_eq_nil_iff.1 cn;rw [uW,cq,ei.1,ei.2];simp only [eg];have j:=Dh o (by rw [aI,hlen])
 have f1:∃l ad,bG (c::a) d=(65533::l,ad):=by unfold bG;rw [wD an,aI];exact⟨_,_,rfl⟩
 obtain⟨l,ad,f1⟩:=f1;have i:at' (p++(c::a))=p.length:=Gt ae (by simpa using al)
 have c0:eZ ⟨.cd,p++(c::a),c::a,[]⟩ d (λs1=>bad s1 d)=mB (cQ (p++(c::a))) (ground zero d):=by
  unfold eZ;simp only [f1,i];rw [ap an,ap]
  .rfl
  .rintro (⟨_,q⟩|q)
   .simp at q
   .rw [wE,j]at q;cases q
 have e7:step ⟨.cd,p++(c::a),c::a,[]⟩ d=mB (cQ (p++(c::a))) (ground zero d):=c0;rw [bY,e7,A7];rfl
def qL(s:Bytes)(x:aP×Int×Int):Prop :=
 (∃d,x=(x.1,0,2)/\bY zero s=(d,[])/\d.ai=s/\d.nx≠ .cb/\d.aw=[]) \/
 (∃n:Nat,x=(x.1,(n:Int),0)/\1<=n/\n<=s.length/\bY zero s=mB x.1 (bY zero (s.drop n))) \/
 (∃n:Nat,x=(x.1,(n:Int),1)/\1<=n/\n<=s.length/\bY zero s=bY ⟨.cb,[],[],[]⟩ (s.drop n))
theorem Hs{s:Bytes}{r n:Nat}(ae:put r=s.take n):¬(r=65533/\s.take n≠[239,191,189]):=by rintro ⟨rfl,h⟩;rw [<-ae,yL]at h;exact h rfl
theorem wR{s:Bytes}{n:Nat}(h:(first (s.take n)).2.2=true\/n=1):s.take n≠[239,191,189]:=by
 intro e;rcases h with h|h
 .rw [e]at h;revert h;decide
 .subst h;have:=dW List.length e;rw [kl]at this;simp at this;omega
theorem Ht{c:UInt8}{t:Bytes}(al:¬(c.toNat<32\/c.toNat=127)):fA (c::t)=(if(first (c::t)).2.2=true then(gS,0,2)else if(first (c::t)).1=65533/\(c::t).take (first (c::t)).2.1≠[239,191,189]then(cQ ((c::t).take (first (c::t)).2.1),((first (c::t)).2.1:Nat),0)else(dq ((first (c::t)).1:Nat),((first (c::t)).2.1:Nat),0):aP×Int×Int):=by unfold fA;simp only [py];rw [ap al]
theorem Sa{s:Bytes}(hs:s≠[])(a:s.getD 0 0≠27):qL s (fA s):=by
 cases s with
 |nil=>exact absurd rfl hs
 |cons c t =>
  have a:c≠27:=a;have ag:ground zero c=hH zero c (λs1=>tell s1 (cQ s1.ai)):=by unfold ground;rw [ap a]
  by_cases al:c.toNat<32\/c.toNat=127
  .refine .inr (.inl ⟨1,?_,V,an,?_⟩)
   .show(if c.toNat<32\/c.toNat=127 then _ else _)=_;unfold fA;simp only [py];rw [aE al];rfl
   .rw [A7,ag];unfold hH;rw [aE al];unfold fA;simp only [py];rw [aE al];rfl
  .have e0:bY zero (c::t)=lC .ground [] (λs1=>tell s1 (cQ s1.ai)) c t:=by rw [A7,ag];unfold hH;rw [ap al];rfl
   rw [Ht al];unfold qL;rw [e0];cases begun (s:=c::t) an with
   |more h =>
    rw [aE h];exact .inl ⟨_,rfl,A6 h,rfl,an,rfl⟩
   |whole r n e b ae az =>
    rw [e,ap an,ap (Hs ae)];exact .inr (.inl ⟨n,rfl,az.1,az.2,Hp (.inl rfl) V V b ae az⟩)
   |lone e aI aa =>
    rw [e,ap an,aE ⟨rfl,wR (.inr rfl)⟩];exact .inr (.inl ⟨1,rfl,V,an,Hq (.inl rfl) aI⟩)
   |broken n aa h2 e o aI =>
    rw [e,ap an,aE ⟨rfl,wR (.inl o)⟩];exact .inr (.inl ⟨n,rfl,aa,V,Hr (.inl rfl) a aa h2 o aI⟩)
def lD(x:aP×Int×Int):aP×Int×Int :=
 if x.2.2=2 then(x.1,0,2)else(if x.1.kind=7 then {x.1 with text:=27::x.1.text} else {x.1 with eJ:=x.1.eJ+2},x.2.1+1,0)
theorem Sb(c:Nat):(control c).kind≠7:=by
 unfold control cY dq
 repeat' split
 all_goals (intro h;cases h)
theorem Hu(c:UInt8)(t:Bytes)(a:c≠27)(d:c≠91)(b:c≠79):bY zero (27::c::t)=((bY (plain ⟨.cH,[27],[],[]⟩ c).1 t).1,(plain ⟨.cH,[27],[],[]⟩ c).2++(bY (plain ⟨.cH,[27],[],[]⟩ c).1 t).2):=by
 rw [QI,bY]
 have:step ⟨.cH,[27],[],[]⟩ c=plain ⟨.cH,[27],[],[]⟩ c:=by show cH _ c=_;unfold cH;rw [ap a,ap d,ap b]
 rw [this]
theorem Sc{c:UInt8}{t:Bytes}(a:c≠27)(d:c≠91)(b:c≠79):qL (27::c::t) (lD (fA (c::t))):=by
 by_cases al:c.toNat<32\/c.toNat=127
 .have e:fA (c::t)=(control c.toNat,1,0):=by unfold fA;simp only [py];rw [aE al]
  rw [e];refine .inr (.inl ⟨2,?_,V,an,?_⟩)
  .unfold lD;rw [ap an];rfl
  .rw [Hu c t a d b];unfold plain hH lD;rw [aE al,ap an,ap (Sb _)];rfl
 .have e0:bY zero (27::c::t)=lC .cH [27] (λs1=>bad s1 c) c t:=by rw [Hu c t a d b];unfold plain hH;rw [ap al]
  rw [Ht al];unfold qL;rw [e0];cases begun (s:=c::t) an with
  |more h =>
   rw [aE h];exact .inl ⟨_,rfl,A6 h,rfl,an,rfl⟩
  |whole r n e f ae az =>
   rw [e,ap an,ap (Hs ae)];refine .inr (.inl ⟨n+1,rfl,V,by simp only [b']at az⊢; omega,?_⟩);rw [Hp (.inr rfl) V V f ae az];rfl
  |lone e aI aa =>
   rw [e,ap an,aE ⟨rfl,wR (.inr rfl)⟩];exact .inr (.inl ⟨2,rfl,V,an,Hq (.inr rfl) aI⟩)
  |broken n aa h2 e o aI =>
   rw [e,ap an,aE ⟨rfl,wR (.inl o)⟩];exact .inr (.inl ⟨n+1,rfl,V,by simp only [b']at h2⊢; omega,Hr (.inr rfl) a aa h2 o aI⟩)
theorem A8(sep:UInt8)(w:Bytes):splitAt sep w≠[]:=by
 cases w with
 |nil=>simp [splitAt]
 |cons b r =>
  unfold splitAt;split
  .simp
  .split<;>simp
theorem Hv{sep:UInt8} :∀{w a:Bytes},splitAt sep w=[a]->a=w
 |[],a,h=>by simpa [splitAt]using h.symm
 |b ::r,a,h=>by
  unfold splitAt at h;split at h
  .rw [fT]at h;exact absurd h.2 (A8 _ _)
  .split at h
   .rename_i w t e;rw [fT]at h;rw [h.2]at e;rw [<-h.1,Hv e]
   .rename_i e;exact absurd e (A8 _ _)
theorem Hw:∀(l:Bytes)(a:Nat),a<=l.foldl (λn b=>10*n+(b.toNat-48)) a
 |[],a=>Nat.le_refl _
 |b::r,a=>by rw [hB];exact Nat.le_trans V (Hw r (10*a+(b.toNat-48)))
theorem wS{b:UInt8} :digit b=true↔48<=b.toNat/\b.toNat<=57:=by simp [digit]
theorem Hx:∀(w:Bytes),w.all digit=true->number w=200->w.dropWhile (· == 48)=[50,48,48]
 |[],_,h=>by cases h
 |b ::r,e,h=>by
  rw [hY,cS]at e;by_cases g:b=48
  .subst g;have aI:(48::r).dropWhile (· == (48:UInt8))=r.dropWhile (· == 48):=by simp [List.dropWhile]
   rw [aI];exact Hx r e.2 h
  .have aI:(b::r).dropWhile (· == (48:UInt8))=b::r:=by rw [List.dropWhile_cons,ap (by simpa using g)]
   rw [aI];have i:b.toNat≠48:=λq=>g (fq.1 q)
   have d0:=wS.1 e.1;have a:=e.2
   match r,h,a with
   |[],h,_ =>
    have h:10*0+(b.toNat-48)=200:=h;omega
   |[c],h,a =>
    have h:10* (10*0+(b.toNat-48))+(c.toNat-48)=200:=h;simp only [hY,List.all_nil,Bool.and_true]at a;have:=wS.1 a;omega
   |[c,d],h,a =>
    have h:10* (10* (10*0+(b.toNat-48))+(c.toNat-48))+(d.toNat-48)=200:=h;simp only [hY,List.all_nil,Bool.and_true,cS]at a;have d1:=wS.1 a.1;have d2:=wS.1 a.2;rw [show b=50 from fq.1 (by show b.toNat=50;omega),show c=48 from fq.1 (by show c.toNat=48;omega),show d=48 from fq.1 (by show d.toNat=48;omega)]
   |c::d::f::t,h,_ =>
    exfalso;have h:t.foldl (λn b=>10*n+(b.toNat-48)) (10* (10* (10* (10*0+(b.toNat-48))+(c.toNat-48))+(d.toNat-48))+(f.toNat-48))=200:=h;have:=Hw t (10* (10* (10* (10*0+(b.toNat-48))+(c.toNat-48))+(d.toNat-48))+(f.toNat-48));omega
theorem Hy(w:Bytes):h' w=true↔numbers w=some [200]:=by
 constructor
 .intro h;obtain⟨aa,h2⟩:=QH h;have b:w≠[]:=by rintro rfl;cases h2
  have c:w.length<=9:=by
   unfold h' at h;simp only [fI,cS,kh,gx]at h;rcases h with h|h
   .rw [h];simp
   .exact h.2
  unfold numbers;rw [ap b,QA aa];unfold fN;rw [ap (by rintro (q|q|q);exact b q;omega;rw [aa]at q;cases q),h2];rfl
 .intro h;unfold numbers at h;split at h
  .cases h
  .rename_i b;cases hs:splitAt 59 w with
   |nil=>exact absurd hs (A8 _ _)
   |cons a tl =>
    rw [hs]at h;unfold fN at h;split at h
    .cases h
    .rename_i al;cases tl with
     |cons x y =>
      exfalso;unfold fN at h;split at h
      .cases h
      .cases d:fN y with
       |none=>rw [d]at h;cases h
       |some z=>rw [d]at h;simp at h
     |nil =>
      have e:=Hv hs;subst e;have az:number a=200:=by simpa [fN]using h
      have f:a.all digit=true:=by
       cases q:a.all digit with
       |true=>rfl
       |false=>exact absurd (.inr (.inr q)) al
      have c:a.length<=9:=by
       rcases gg 9 a.length with q|q
       .exact absurd (.inr (.inl q)) al
       .exact q
      unfold h';simp [Hx a f az,c]
theorem Sd{w:Bytes}{c:Nat}{e:aP}(h:dj w c=some e):e.kind≠7:=by
 unfold dj at h
 repeat' split at h
 all_goals (first|(cases h;done)|skip)
 all_goals (dsimp only at h;repeat' split at h)
 all_goals (first|(cases h;done)|(simp only [a6]at h;subst h;intro q;cases q))
theorem Se{c:Nat}{m:Int}{e:aP}(h:cT c m=some e):e.kind≠7:=by
 unfold cT cY dq at h
 repeat' split at h
 all_goals (first|(cases h;done)|(simp only [a6]at h;subst h;intro q;cases q))
theorem Sf{w:Bytes}{c:UInt8}{e:aP}(h:told w c=some e):e.kind≠7:=by
 unfold told cY at h;split at h
 .simp only [a6]at h;subst h;intro q;cases q
 split at h
 .exact Sd h
 split at h
 .cases h
 .repeat' split at h
  all_goals (first|(cases h;done)|(simp only [a6]at h;subst h;intro q;cases q))
 .dsimp only at h
  repeat' split at h
  all_goals (first|(exact Se h)|(cases h;done)|(simp only [a6]at h;subst h;intro q;cases q))
def ka(s:Bytes)(c:UInt8):aP×Int :=
 if c=126/\numbers s=some [200]then(gS,1)else((told s c).getD (cQ []),0)
def o6(s:Bytes):Nat->Bool->Bytes->aP×Int×Int
 |_,_,[]=>(gS,0,2)
 |i,sn,c::r =>
  if 64<=c.toNat/\c.toNat<=126 then
   (if(ka ((s.take i).drop 2) c).1.kind=7 then { (ka ((s.take i).drop 2) c).1 with text:=s.take (i+1)} else(ka ((s.take i).drop 2) c).1,(i:Int)+1,(ka ((s.take i).drop 2) c).2)
  else if c.toNat<32\/63<c.toNat\/(sn=true/\48<=c.toNat)then(cQ (s.take i),i,0)
  else if i+1=64 then(cQ (s.take (i+1)),(i:Int)+1,0)
  else o6 s (i+1) (sn || decide (c.toNat<48)) r
def A9(s:Bytes)(i:Nat)(d0:bq)(x:aP×Int×Int):Prop :=
 (∃d,x=(x.1,0,2)/\bY d0 (s.drop i)=(d,[])/\d.ai=s/\d.nx≠ .cb/\d.aw=[]) \/
 (∃n:Nat,x=(x.1,(n:Int),0)/\1<=n/\n<=s.length/\bY d0 (s.drop i)=mB x.1 (bY zero (s.drop n))) \/
 (∃n:Nat,x=(x.1,(n:Int),1)/\1<=n/\n<=s.length/\bY d0 (s.drop i)=bY ⟨.cb,[],[],[]⟩ (s.drop n))
theorem Sg{s:Bytes} :∀(k i:Nat)(sn:Bool),s.length-i<=k->i<=s.length->2<=i->i<64->sn=decide (((s.take i).getLastD 0).toNat<48)->A9 s i ⟨.sequence,s.take i,[],[]⟩ (o6 s i sn (s.drop i)):=by
 intro k;induction k with
 |zero =>
  intro i sn r ah h2 o a;obtain rfl:i=s.length:= V;unfold A9;rw [lO];exact .inl ⟨_,rfl,rfl,jH,an,rfl⟩
 |succ k ih =>
  intro i sn r ah h2 o a;by_cases al:i<s.length
  .have j :s.drop i=s[i]::s.drop (i+1):=iS al;have l:s.take (i+1)=s.take i++[s[i]]:=(w8 al).symm;have z:(s.take i).length=i:=by rw [kl];omega
   have f:=ih (i+1) (sn || decide (s[i].toNat<48)) V V V;unfold A9 at f⊢;rw [j];rw [l]at f
   have u:∀sn,o6 s i sn (s[i]::s.drop (i+1))=if 64<=s[i].toNat/\s[i].toNat<=126 then
    (if(ka ((s.take i).drop 2) s[i]).1.kind=7 then { (ka ((s.take i).drop 2) s[i]).1 with text:=s.take (i+1)} else(ka ((s.take i).drop 2) s[i]).1,(i:Int)+1,(ka ((s.take i).drop 2) s[i]).2)
    else if s[i].toNat<32\/63<s[i].toNat\/(sn=true/\48<=s[i].toNat)then(cQ (s.take i),i,0)
    else if i+1=64 then(cQ (s.take (i+1)),(i:Int)+1,0)
    else o6 s (i+1) (sn || decide (s[i].toNat<48)) (s.drop (i+1)):=λ_=>rfl
   rw [u,l];have e0:∀t,bY ⟨.sequence,s.take i,[],[]⟩ (s[i]::t)=((bY (sequence ⟨.sequence,s.take i,[],[]⟩ s[i]).1 t).1,(sequence ⟨.sequence,s.take i,[],[]⟩ s[i]).2++(bY (sequence ⟨.sequence,s.take i,[],[]⟩ s[i]).1 t).2):=λ_=>rfl
   rw [e0];have w:∀x,bY zero (s.drop i)=x->bY zero (s[i]::s.drop (i+1))=x:=λx h=>by rw [<-j];exact h
   generalize s[i]=c at *;generalize y:s.take i=K at *;by_cases aa:64<=c.toNat/\c.toNat<=126
   .rw [aE aa]
    have es:sequence ⟨.sequence,K,[],[]⟩ c=done ⟨.sequence,K++[c],[],[]⟩ (K.drop 2) c:=by unfold sequence;rw [aE aa]
    rw [es];unfold done;by_cases ae:c=126/\h' (K.drop 2)=true
    .have g:ka (K.drop 2) c=(gS,1):=by unfold ka;rw [aE ⟨ae.1,(Hy _).1 ae.2⟩]
     rw [aE ae,g];exact .inr (.inr ⟨i+1,rfl,V,V,rfl⟩)
    .have g:ka (K.drop 2) c=((told (K.drop 2) c).getD (cQ []),0):=by unfold ka;rw [ap (λq=>ae ⟨q.1,(Hy _).2 q.2⟩)]
     rw [ap ae,g];refine .inr (.inl ⟨i+1,rfl,V,V,?_⟩);cases v:told (K.drop 2) c with
     |none=>rfl
     |some e =>
      have:=Sf v;simp only [ob];rw [ap this];rfl
   .rw [ap aa];by_cases b:c.toNat<32\/63<c.toNat\/48<=c.toNat/\(K.getLastD 0).toNat<48
    .have d:c.toNat<32\/63<c.toNat\/sn=true/\48<=c.toNat:=by rw [a];simp only [gx];omega
     rw [aE d]
     have es:sequence ⟨.sequence,K,[],[]⟩ c=mB (cQ K) (ground zero c):=by unfold sequence;rw [ap aa,aE b];rfl
     rw [es];refine .inr (.inl ⟨i,rfl,V,ah,?_⟩);rw [<-w _ rfl];rfl
    .have d:¬(c.toNat<32\/63<c.toNat\/sn=true/\48<=c.toNat):=by rw [a];simp only [gx];omega
     rw [ap d];by_cases m:i+1=64
     .rw [aE m]
      have es:sequence ⟨.sequence,K,[],[]⟩ c=(zero,[cQ (K++[c])]):=by unfold sequence;rw [ap aa,ap b,aE (by show K.length+1=64;omega)];rfl
      rw [es];exact .inr (.inl ⟨i+1,rfl,V,V,rfl⟩)
     .rw [ap m]
      have es:sequence ⟨.sequence,K,[],[]⟩ c=(⟨.sequence,K++[c],[],[]⟩,[]):=by unfold sequence;rw [ap aa,ap b,ap (by show ¬K.length+1=64;omega)]
      rw [es];simp only [eg];refine f V ?_;rw [QB,a];by_cases n:c.toNat<48
      .simp [n]
      .have p:¬(K.getLastD 0).toNat<48:= V;rw [gi n,gi p];rfl
  .exact ih i sn V ah h2 o a
def o7:Bytes->aP×Int×Int
 |[]=>(gS,0,2)
 |d::_=>if 0<dC d.toNat then(cY (dC d.toNat),3,0)else if 80<=d.toNat/\d.toNat<=83 then(cY (21+(d.toNat-80)),3,0)else if d.toNat=77 then(cY 1,3,0)else(dq 79 2,2,0)
def dS(s:Bytes):aP×Int×Int :=
 match s with
 |[]=>(gS,0,2)
 |b ::r =>
  if b=27 then
   match r with
   |[]=>(gS,0,2)
   |c::t =>
    if c=27 then(cY 4,1,0)
    else if c=91 then o6 s 2 false t
    else if c=79 then o7 t
    else lD (fA (c::t))
  else fA s
theorem wT{s:Bytes}(hs:s≠[]):qL s (dS s):=by
 cases s with
 |nil=>exact absurd rfl hs
 |cons b r =>
  by_cases j:b=27
  .subst j;cases r with
   |nil=>exact .inl ⟨⟨.cH,[27],[],[]⟩,rfl,rfl,rfl,an,rfl⟩
   |cons c t =>
    by_cases f:c=27
    .subst f;exact .inr (.inl ⟨1,rfl,V,an,rfl⟩)
    by_cases i:c=91
    .subst i;have h:=Sg (s:=27::91::t) t.length 2 false an an V V (by rfl);exact h
    by_cases g:c=79
    .subst g;have e:dS (27::79::t)=o7 t:=rfl;rw [e];have k:bY zero (27::79::t)=bY ⟨.single,[27,79],[],[]⟩ t:=rfl;cases t with
     |nil=>exact .inl ⟨⟨.single,[27,79],[],[]⟩,rfl,rfl,rfl,an,rfl⟩
     |cons d t =>
      have es:bY ⟨.single,[27,79],[],[]⟩ (d::t)=((bY (single ⟨.single,[27,79],[],[]⟩ d).1 t).1,(single ⟨.single,[27,79],[],[]⟩ d).2++(bY (single ⟨.single,[27,79],[],[]⟩ d).1 t).2):=rfl;unfold qL;rw [k,es];unfold single o7;simp only;by_cases aa:0<dC d.toNat
      .rw [aE aa,aE aa];exact .inr (.inl ⟨3,rfl,V,an,rfl⟩)
      rw [ap aa,ap aa];by_cases h2:80<=d.toNat/\d.toNat<=83
      .rw [aE h2,aE h2];exact .inr (.inl ⟨3,rfl,V,an,rfl⟩)
      rw [ap h2,ap h2];by_cases a:d.toNat=77
      .rw [aE a,aE a];exact .inr (.inl ⟨3,rfl,V,an,rfl⟩)
      rw [ap a,ap a];exact .inr (.inl ⟨2,rfl,V,an,rfl⟩)
    .have e:dS (27::c::t)=lD (fA (c::t)):=by unfold dS;simp only;rw [aE trivial,ap f,ap i,ap g]
     rw [e];exact Sc f i g
  .have e:dS (b::r)=fA (b::r):=by unfold dS;simp only;rw [ap j]
   rw [e];exact Sa an j
def fQ:Nat->Bytes->Option Nat
 |_,[]=>none
 |j,b::r=>if c6.isPrefixOf (b::r)=true then some j else fQ (j+1) r
def gr(x:Bytes):Nat->Nat
 |0=>0
 |k+1=>if x.drop (x.length- (k+1))=c6.take (k+1)then k+1 else gr x k
theorem wU(x:Bytes)(h:c6 <+: x):6<=x.length:=h.length_le
theorem Hz:∀(x:Bytes)(j i:Nat),c6 <+: x.drop i->(∀k,k<i-> ¬c6 <+: x.drop k)->fQ j x=some (j+i)
 |[],j,i,h,_=>by have:=wU _ h;simp at this
 |b::r,j,0,h,_=>by unfold fQ;rw [aE (show List.isPrefixOf c6 (b::r)=true from kk.2 h)];rfl
 |b::r,j,i+1,h,az=>by
  unfold fQ;rw [ap (λq:List.isPrefixOf c6 (b::r)=true=>az 0 V (kk.1 q)),Hz r (j+1) i h (λk a=>az (k+1) V)]
  congr 1;omega
theorem A':∀(x:Bytes)(j:Nat),(∀k,¬c6 <+: x.drop k)->fQ j x=none
 |[],j,_=>rfl
 |b::r,j,az=>by unfold fQ;rw [ap (λq:List.isPrefixOf c6 (b::r)=true=>az 0 (kk.1 q))];exact A' r (j+1) λk=>az (k+1)
theorem HA{x:Bytes}{k:Nat}(h:x.drop (x.length-k)=c6.take k):∀m,k<=m->(∀k',k<k'->k'<=m->x.drop (x.length-k')≠c6.take k')->gr x m=k
 |0, hm, _ => by have:k=0:= V
                 subst this;rfl
 |m +1,hm,az=>by
  unfold gr;by_cases c:k=m+1
  .subst c;rw [aE h]
  .rw [ap (az (m+1) V (Nat.le_refl _))];exact HA h m V λk' a b=>az k' a V
theorem HB(P y:Bytes)(M:Nat):(P.take M++y).take M=(P++y).take M:=by
 rcases Nat.le_total P.length M with h|h
 .rw [kX h]
 .rw [tE (by rw [kl];omega),tE h,List.take_take,Nat.min_self]
theorem HC:∀(b S P:Bytes)(d:bq),lr S P d->(∃f,lr (S++b) f (bY d b).1/\(bY d b).2=[]) \/
 ∃aH b2 f,b=aH++b2/\S++aH=f++c6/\bY d aH=(zero,[hP (f.take 65536)])/\∀i,i<f.length->Div ((S++aH).drop i)
 |[],S,P,d,h=> .inl ⟨P,by rw [fV];exact h,rfl⟩
 |c ::r,S,P,d,h=>by
  rcases QL h c with ⟨aa,g,h2⟩|⟨f,aa,h2,j⟩
  .have e:S++c::r=(S++[c])++r:= an;rcases HC r (S++[c]) g (step d c).1 h2 with ⟨f,a,b⟩|⟨aH,b2,f,cq,cn,ei,hE⟩
   .refine .inl ⟨f,?_,?_⟩
    .rw [e];exact a
    .show(step d c).2++_=_;rw [aa,b];rfl
   .refine .inr ⟨c::aH,b2,f,by rw [cq];rfl,by rw [<-cn];simp,?_,?_⟩
    .show((bY (step d c).1 aH).1,(step d c).2++(bY (step d c).1 aH).2)=_;rw [ei,aa];rfl
    .intro i ah;have:=hE i ah;simpa using this
  .exact .inr ⟨[c],r,f,rfl,aa,by rw [Gn];exact h2,j⟩
def d':Nat->Bool->Bytes->Bytes->List aP×Bool×Bytes×Bytes
 |0,n,t,s=>([],n,t,s)
 |f+1,true,t,s =>
  match fQ 0 s with
  |some i=>(hP ((t++s.take i).take 65536)::(d' f false [] (s.drop (i+6))).1,(d' f false [] (s.drop (i+6))).2)
  |none=>([],true,(t++s.take (s.length-gr s (min s.length 5))).take 65536,s.drop (s.length-gr s (min s.length 5)))
 |f+1,false,t,s =>
  if s=[]then([],false,t,[])
  else if(dS s).2.2=2 then([],false,t,s)
  else if(dS s).2.2=1 then d' f true t (s.drop (dS s).2.1.toNat)
  else((dS s).1::(d' f false t (s.drop (dS s).2.1.toNat)).1,(d' f false t (s.drop (dS s).2.1.toNat)).2)
def qM(x:bq×List aP):List aP×Bool×Bytes×Bytes:=(x.2,decide (x.1.nx=.cb),x.1.aw,x.1.ai)
def kb(d:bq):Prop:=(d.nx≠ .cb/\d.aw=[]/\bY zero d.ai=(d,[]))\/ ∃S P,lr S P d
theorem HD{x k b P S:Bytes}{d:bq}(h:lr S P d)(n:x=d.ai++b) :
 (∃a,lr (S++b) a (bY d b).1/\(bY d b).2=[]/\fQ 0 x=none/\x.drop (x.length-gr x (min x.length 5))=(bY d b).1.ai/\(d.aw++x.take (x.length-gr x (min x.length 5))).take 65536=(bY d b).1.aw) \/
 ∃(aH b2:Bytes)(i:Nat)(a:Bytes),b=aH++b2/\fQ 0 x=some i/\(d.aw++x.take i).take 65536=a.take 65536/\x.drop (i+6)=b2/\6+b2.length<=x.length/\bY d aH=(zero,[hP (a.take 65536)]):=by
 have l:S++b=P++x:=by rw [h.all,n,ik]
 have hle:P.length<=S.length:=by rw [h.all,dt];omega
 rcases HC b S P d h with ⟨a,aa,h2⟩|⟨aH,b2,a,aa,h2,s,t⟩
 .left;refine⟨a,aa,h2,?_⟩;have m:=aa.all
  have hlen:P.length<=a.length:=by
   rcases gg a.length P.length with q|q
   .exfalso;have:=wF (h.div _ q) b;rw [<-mJ V,m,pw]at this;exact this.1 aa.pre
   .exact q
  have aI:=m;rw [l]at aI
  have c:x.drop (a.length-P.length)=(bY d b).1.ai:=by have:=dW (List.drop a.length) aI;rw [pw,tG,px hlen]at this;exact this
  have e:P++x.take (a.length-P.length)=a:=by have:=dW (List.take a.length) aI;rw [List.take_left,qZ,kX hlen]at this;exact this
  have el:x.length=(a.length-P.length)+(bY d b).1.ai.length:=by have:=dW List.length aI;simp only [dt]at this;omega
  have v:=aa.short
  have j:∀i,P.length+i<a.length->Div (x.drop i):=λi ah=>by have:=aa.div _ ah;rw [l,tG,px V,show P.length+i-P.length=i by omega]at this;exact this
  have p:gr x (min x.length 5)=(bY d b).1.ai.length:=by
   refine HA ?_ _ V ?_
   .rw [show x.length- (bY d b).1.ai.length=a.length-P.length by omega,c];exact(tD.1 aa.pre)
   .intro k' cq cn ei;have:=j (x.length-k') V;rw [ei]at this;exact this.1 (List.take_prefix _ _)
  refine⟨A' x 0 λk q=> ?_,?_,?_⟩
  .rcases gg (P.length+k) a.length with g|g
   .exact(j k g).2 q
   .have:=wU _ q;rw [ep]at this;omega
  .rw [p,show x.length- (bY d b).1.ai.length=a.length-P.length by omega,c]
  .rw [p,show x.length- (bY d b).1.ai.length=a.length-P.length by omega,h.aw,HB,e,aa.aw]
 .right;have f:S++aH=P++(d.ai++aH):=by rw [h.all,ik]
  obtain⟨y,o⟩:∃y,y=d.ai++aH:=⟨_,rfl⟩
  rw [<-o]at f
  have hlen:P.length<=a.length:=by
   rcases gg a.length P.length with q|q
   .exfalso;have:=wF (h.div _ q) aH;rw [<-mJ V,h2,pw]at this;exact this.1 (List.prefix_refl _)
   .exact q
  have aI:P++y=a++c6:=by rw [<-f,h2]
  have c:y.drop (a.length-P.length)=c6:=by have:=dW (List.drop a.length) aI;rw [pw,tG,px hlen]at this;exact this
  have e:P++y.take (a.length-P.length)=a:=by have:=dW (List.take a.length) aI;rw [List.take_left,qZ,kX hlen]at this;exact this
  have el:y.length=(a.length-P.length)+6:=by have:=dW List.length aI;rw [dt,dt]at this;have u:c6.length=6:=rfl;omega
  have ex:x=y++b2:=by rw [n,aa,o,ik]
  refine⟨aH,b2,a.length-P.length,a,aa,?_,?_,?_,?_,s⟩
  .have:=Hz x 0 (a.length-P.length) ?_ ?_
   .rw [this,eM]
   .rw [ex,mJ V,c];exact tF _ _
   .intro k g q;have:=wF (t (P.length+k) V) b2;rw [f,tG,px V,show P.length+k-P.length=k by omega,eg,<-mJ V,<-ex]at this;exact this.2 q
  .have r:x.take (a.length-P.length)=y.take (a.length-P.length):=by rw [ex,tE V]
   rw [h.aw,HB,r,e]
  .rw [ex,<-el,pw]
  .rw [ex,dt];omega
theorem HE:∀n:Nat,(∀s:Bytes,s.length<=n->d' (n+1) false [] s=qM (bY zero s)/\kb (bY zero s).1) /\
 (∀(d:bq)(S P b:Bytes),lr S P d->(d.ai++b).length<=n->d' (n+1) true d.aw (d.ai++b)=qM (bY d b)/\kb (bY d b).1):=by
 intro n;induction n with
 |zero =>
  refine⟨λs hs=> ?_,λd S P b h o=> ?_⟩
  .obtain rfl:s=[]:=mI V;exact⟨rfl,.inl ⟨aA,rfl,rfl⟩⟩
  .rcases HD (k:=[]) h rfl with ⟨f,aa,h2,c,a,e⟩|⟨aH,b2,i,f,aa,h2,c,a,e,j⟩
   .refine⟨?_,.inr ⟨_,_,aa⟩⟩;unfold d' qM;rw [c];simp only;rw [a,e,h2,aa.nx];rfl
   .omega
 |succ n ih =>
  refine⟨λs hs=> ?_,λd S P b h o=> ?_⟩
  .by_cases aN:s=[]
   .subst aN;exact⟨rfl,.inl ⟨aA,rfl,rfl⟩⟩
   .rcases wT aN with ⟨d,aa,h2,c,a,e⟩|⟨m,aa,h2,c,a⟩|⟨m,aa,h2,c,a⟩
    .have aO:(dS s).2.2=2:=by rw [aa]
     refine⟨?_,.inl ?_⟩
     .unfold d' qM;rw [ap aN,aE aO,h2];simp only [c,e,gi a]
     .rw [h2];exact⟨a,e,by rw [c];exact h2⟩
    .have aO:(dS s).2.2=0:=by rw [aa]
     have g:(dS s).2.1=m:=by rw [aa]
     obtain⟨i1,i2⟩:=ih.1 (s.drop m) (by rw [ep];omega);rw [a];refine⟨?_,i2⟩;unfold d';rw [ap aN,ap (by rw [aO];decide),ap (by rw [aO];decide),g,fU,i1];rfl
    .have aO:(dS s).2.2=1:=by rw [aa]
     have g:(dS s).2.1=m:=by rw [aa]
     have ae:lr [] [] ⟨.cb,[],[],[]⟩:=⟨rfl,rfl,rfl,rfl,an,List.nil_prefix,λi ah=>absurd ah an⟩
     obtain⟨i1,i2⟩:=ih.2 ⟨.cb,[],[],[]⟩ [] [] (s.drop m) ae (by simp only [eg,ep];omega);rw [a];refine⟨?_,i2⟩;unfold d';rw [ap aN,ap (by rw [aO];decide),aE aO,g,fU];exact i1
  .rcases HD (k:=[]) h rfl with ⟨f,aa,h2,c,a,e⟩|⟨aH,b2,i,f,aa,h2,c,a,e,j⟩
   .refine⟨?_,.inr ⟨_,_,aa⟩⟩;unfold d' qM;rw [c];simp only;rw [a,e,h2,aa.nx];rfl
   .obtain⟨i1,i2⟩:=ih.1 b2 V
    have l:bY d b=((bY zero b2).1,hP (f.take 65536)::(bY zero b2).2):=by rw [aa,uW,j];rfl
    rw [l];refine⟨?_,i2⟩;unfold d';rw [h2];simp only;rw [c,a,i1];rfl
theorem HF{d:bq}(h:kb d)(b:Bytes):d' ((d.ai++b).length+1) (decide (d.nx=.cb)) d.aw (d.ai++b)=qM (bY d b)/\kb (bY d b).1:=by
 rcases h with ⟨aa,h2,a⟩|⟨S,P,h⟩
 .have:=(HE (d.ai++b).length).1 (d.ai++b) (Nat.le_refl _);rw [uW,a]at this;rw [gi aa,h2];exact this
 .rw [gj h.nx];exact(HE (d.ai++b).length).2 d S P b h (Nat.le_refl _)
theorem inv_zero:kb zero:= .inl ⟨aA,rfl,rfl⟩
theorem Sh{d:bq}(h:kb d)(a:Good d):kb (flush d).1:=by
 unfold flush;split
 .exact h
 .rename_i az
  have ae:d.aw=[]:=by
   rcases h with h|⟨S,P,h⟩
   .exact h.2.1
   .exact absurd (.inl h.nx) az
  have:∀e,kb (tell {d with ax:=[]} e).1:=λe=>by unfold tell;simp only [ae];exact inv_zero
  split
  .exact this _
  .split
   .exact this _
   .exact this _
end Go.Keys
namespace Go.Proofs.YtddnafghiejcoaaGreatDoor
open Go.bh Go.Keys Go.Lib
set_option maxRecDepth 1000000
def kc(b:Nat)(r:en):Bool:=Nat.ble r.aD b&&Nat.ble b r.ah
theorem HG{s:Bytes}{r:en}(h:kc (bP s 0) r=false):db s r=0:=by
 refine QX ?_;unfold kc at h;rw [Bool.and_eq_false_iff]at h;rcases h with h|h
 .left;rcases gg (bP s 0) r.aD with q|q
  .exact q
  .rw [Nat.ble_eq_true_of_le q]at h;cases h
 .right;rcases gg r.ah (bP s 0)with q|q
  .exact q
  .rw [Nat.ble_eq_true_of_le q]at h;cases h
theorem HH(s:Bytes):∀l:List en,ju s l=(l.filter (kc (bP s 0))).any (gR s)
 |[]=>rfl
 |r ::l=>by
  have ih:=HH s l;show _root_.cond (gR s r) true (ju s l)=_;rw [List.filter_cons,ih];cases h:kc (bP s 0) r with
  |true=>rw [aE rfl,List.any_cons];cases gR s r<;>rfl
  |false =>
   have:gR s r=false:=by unfold gR;rw [HG h];rfl
   rw [ap an,this];rfl
theorem Ba(s:Bytes)(r:en):∀(t k:Nat),k<=fo s r t k
 |0,k=>Nat.le_refl _
 |t +1,k=>by
  unfold fo;split
  .split
   .exact Nat.le_refl _
   .exact Nat.le_trans (Nat.le_succ k) (Ba s r t (k+1))
  .exact Nat.le_refl _
theorem HI{s:Bytes}{r:en}(hs:s≠[])(h:kc (bP s 0) r=true):db s r=fo s r 4 1:=by unfold kc at h;rw [cS,Nat.ble_eq,Nat.ble_eq]at h;have:=fS.2 hs;unfold db;rw [ap V]
def td(s:Bytes)(r:en):Int×Int:=if db s r<r.n then(65533,(db s r:Nat))else(hQ s (db s r) 3 1 ((bP s 0:Nat)- (r.off:Nat)),(db s r:Nat))
def Si(s:Bytes):List en->Int×Int
 |[]=>(65533,1)
 |r::_=>td s r
theorem HJ{s:Bytes}(hs:s≠[]):∀l:List en,ga s l=Si s (l.filter (kc (bP s 0)))
 |[]=>rfl
 |r ::l=>by
  have ih:=HJ hs l;show(if db s r=0 then ga s l else _)=_;rw [List.filter_cons,ih];cases h:kc (bP s 0) r with
  |true =>
   have:=Ba s r 4 1;rw [aE rfl,ap (by rw [HI hs h];omega)];rfl
  |false=>rw [aE (HG h),ap an]
def HK(b:Nat):Bool :=
 match da.filter (kc b)with
 |[]=>Nat.beq (lead b).1 0
 |[r]=>Nat.beq (lead b).1 r.n&&Nat.ble 1 r.n&&Nat.ble r.n 4&&Nat.ble r.off b&&(Nat.beq r.n 1&&Nat.beq r.off 0 || Nat.ble 2 r.n&&Nat.beq (lead b).2.1 r.c' && Nat.beq (lead b).2.2 r.cL&&Nat.beq (b-r.off) (b%2^(7-r.n))&&Nat.ble 128 r.c' && Nat.ble r.cL 191)
 |_=>false
theorem Sj:∀b:Fin 256,HK b.val=true:= aA
theorem Sk(s:Bytes)(r:en)(h2:128<=r.c'/\r.cL<=191):∀(m k v t a aD ah:Nat),r.n=k+m->m<=t->m<=a->1<=k->k<=s.length->(k=1->aD=r.c'/\ah=r.cL)->(k≠1->aD=128/\ah=191) ->
 (fo s r t k<r.n/\fo s r t k=s.length/\tail m k aD ah v (s.drop k)=(65533,fo s r t k,true)) \/
 (fo s r t k<r.n/\fo s r t k≠s.length/\tail m k aD ah v (s.drop k)=(65533,fo s r t k,false)) \/
 (fo s r t k=r.n/\∃d:Nat,tail m k aD ah v (s.drop k)=(d,r.n,false)/\hQ s r.n a k (v:Nat)=(d:Nat)):=by
 intro m;induction m with
 |zero =>
  intro k v t a aD ah az _ _ aa l _ _;right;right
  have aI:fo s r t k=k:=by
   cases t with
   |zero=>rfl
   |succ t=>unfold fo;rw [ap V]
  have aO:hQ s r.n a k (v:Nat)=(v:Nat):=by
   cases a with
   |zero=>rfl
   |succ t=>unfold hQ;rw [ap V]
  exact⟨V,v,by rw [qB];congr 2;omega,aO⟩
 |succ m ih =>
  intro k v t a aD ah az o p aa l h i;obtain⟨t,rfl⟩:∃x,t=x+1:=⟨t-1,V⟩
  obtain⟨a,rfl⟩:∃x,a=x+1:=⟨a-1,V⟩
  by_cases c:k<s.length
  .have f:s.drop k=s[k]::s.drop (k+1):=iS c;have g:bP s k=s[k].toNat:=by unfold bP;rw [gf,c7 c];rfl
   have hm:my s r k=decide (s[k].toNat<aD\/ah<s[k].toNat):=by
    unfold my;rw [g];by_cases q:k=1
    .obtain⟨rfl,rfl⟩:=h q;rw [show Nat.beq k 1=true by rw [iT];exact q];rw [Bool.eq_iff_iff];simp [eH]
    .obtain⟨rfl,rfl⟩:=i q;rw [show Nat.beq k 1=false by rw [kZ];intro e;exact q (by rwa [iT]at e)];rw [Bool.eq_iff_iff];simp [eH]
   by_cases al:s[k].toNat<aD\/ah<s[k].toNat
   .right;left
    have b:fo s r (t+1) k=k:=by unfold fo;rw [aE ⟨V,c⟩,hm,gj al,aE rfl]
    rw [b,f];refine⟨V,V,?_⟩;unfold tail;rw [aE al]
   .have b:fo s r (t+1) k=fo s r t (k+1):=by
     conv=>lhs;unfold fo
     rw [aE ⟨V,c⟩,hm,gi al,ap an]
    have j:tail (m+1) k aD ah v (s.drop k)=tail m (k+1) 128 191 (v*64+s[k].toNat%64) (s.drop (k+1)):=by rw [f];exact j8 V V
    have b3:hQ s r.n (a+1) k (v:Nat)=hQ s r.n a (k+1) ((v*64+s[k].toNat%64:Nat):Int):=by
     conv=>lhs;unfold hQ
     rw [aE V,g]
     congr 1
     have:128<=s[k].toNat/\s[k].toNat<=191:=by
      by_cases q:k=1
      .obtain⟨rfl,rfl⟩:=h q;omega
      .obtain⟨rfl,rfl⟩:=i q;omega
     omega
    rw [b,j,b3];exact ih (k+1) _ t a 128 191 V V V V V (λq=>absurd q V) (λ_=>⟨rfl,rfl⟩)
  .left
   have b:fo s r (t+1) k=k:=by unfold fo;rw [ap V]
   rw [b,px V];exact⟨V,V,rfl⟩
theorem Sl{s:Bytes}(hs:s≠[]):ju s da=(first s).2.2/\((first s).2.2=false->ga s da=(((first s).1:Int),((first s).2.1:Int))):=by
 rw [HH,HJ hs];have B:=fS.2 hs;have a:=Sj ⟨bP s 0,nR s 0⟩;unfold HK at a;simp only at a;have i:∀r,r∈da.filter (kc (bP s 0))->kc (bP s 0) r=true:=λr h=>(lM.1 h).2
 generalize da.filter (kc (bP s 0))=l at *
 obtain⟨b,t,rfl⟩:∃b t,s=b::t:=by
  cases s with
  |nil=>exact absurd rfl hs
  |cons b t=>exact⟨b,t,rfl⟩
 have f:bP (b::t) 0=b.toNat:=rfl;rw [f]at a
 match l,a,i with
 |[],a,_ =>
  rw [iT]at a;have c:first (b::t)=(65533,1,false):=by simp [first,a]
  rw [c];exact⟨rfl,λ_=>rfl⟩
 |[r],a,i =>
  simp only [cS,fI,iT,Nat.ble_eq]at a;obtain⟨⟨⟨⟨aI,aO⟩,z⟩,A⟩,m⟩:=a;have g:=HI hs (i r an);rcases m with ⟨k,w⟩|⟨⟨⟨⟨⟨n2,v⟩,l2⟩,x⟩,g1⟩,g2⟩
  .have c:first (b::t)=(b.toNat,1,false):=by simp [first,aI,k]
   have b6:db (b::t) r=1:=by rw [g];unfold fo;rw [ap V]
   rw [c];refine⟨?_,λ_=> ?_⟩
   .show(gR (b::t) r || false)=false;unfold gR;rw [b6,k,show Nat.blt 1 1=false from rfl];simp
   .show td (b::t) r=_;unfold td;rw [b6,k,ap V,f,w];show(hQ (b::t) 1 3 1 _,_)=_;unfold hQ;rw [ap V];simp
  .have c:first (b::t)=tail (r.n-1) 1 r.c' r.cL (b.toNat-r.off) ((b::t).drop 1):=by simp only [first,aI];rw [ap V,ap V,v,l2,x];rfl
   have key:=Sk (b::t) r ⟨g1,g2⟩ (r.n-1) 1 (b.toNat-r.off) 4 3 r.c' r.cL V V V V an (λ_=>⟨rfl,rfl⟩) (λq=>absurd rfl q);rw [<-c,<-g]at key;have p:=Ba (b::t) r 4 1;rw [<-g]at p;have o:([r].any (gR (b::t)))=gR (b::t) r:= an;rw [o];show _/\(_->td (b::t) r=_);unfold td;rw [f];rcases key with ⟨d,j,e⟩|⟨d,j,e⟩|⟨d,y,e,u⟩
   .rw [e];refine⟨?_,λq=>by cases q⟩;unfold gR;rw [show Nat.blt 0 (db (b::t) r)=true by rw [eH];omega,show Nat.beq (db (b::t) r) (b::t).length=true by rw [iT];exact j,show Nat.blt (db (b::t) r) r.n=true by rw [eH];exact d];rfl
   .rw [e];refine⟨?_,λ_=>by rw [aE d];rfl⟩;unfold gR;rw [show Nat.beq (db (b::t) r) (b::t).length=false by rw [kZ];intro q;exact j (by rwa [iT]at q)];simp
   .rw [e];refine⟨?_,λ_=> ?_⟩
    .unfold gR;rw [show Nat.blt (db (b::t) r) r.n=false by rw [kZ];intro q;rw [eH]at q;omega];simp
    .rw [ap V,d];rw [show((b.toNat:Nat):Int)- ((r.off:Nat):Int)=((b.toNat-r.off:Nat):Int)by omega,u]
theorem HL{s:Bytes}(hs:s≠[])(b:bP s 0≠27):wN s=fA s:=by
 obtain⟨aa,h2⟩:=Sl hs;have c:(s.getD 0 0).toNat=bP s 0:=rfl;unfold wN fA;rw [c,aa];by_cases al:bP s 0<32\/bP s 0=127
 .rw [aE al,aE al,Q' al b]
 .rw [ap al,ap al];cases d:(first s).2.2 with
  |true=>rfl
  |false =>
   rw [h2 d];simp only [ew,ey,fU];by_cases a:(first s).1=65533/\s.take (first s).2.1≠[239,191,189]
   .rw [aE a,aE ⟨V,a.2⟩]
   .rw [ap a,ap (λq=>a ⟨V,q.2⟩)]
theorem HM(s:Bytes):∀(l:Bytes)(i:Nat)(sn:Bool),hT s i sn l=o6 s i sn l
 |[],i,sn=>rfl
 |c::r,i,sn=>by unfold hT o6;rw [HM s r];rfl
abbrev cz(k:Bytes)(n:Bool)(t:Bytes):ac:=ac.aj [.agg [.str k,.bool n,.str t]] 3 true (some (29,3))
theorem Sm(a b:Bytes)(c:bm)(d:ec env.D 9 (.str a) none (some (.int .i64 (if 65536<(↑a.length:Int)then 65536 else(↑a.length:Int)))) none=some (J.str b)/\c (.str b) (T.af 7 [])) :
 bC 91 [.str a] (⟨0,.nil⟩) c :=
 bI bT (.ak (.val 1004 (.str b)) .nil) d
theorem HN(b g d f:Bytes)(a:Nat)(c:bW->a8->T->Prop)(i:(-9223372036854775808<=(a:Int)+6/\(a:Int)+6<=9223372036854775807)/\((a:Int)+6<=(↑b.length:Int)->(-9223372036854775808<=(a:Int)+6/\(a:Int)+6<=9223372036854775807)/\ec env.D 9 (.str b) (some (.int .i64 (a:Int))) (some (.int .i64 ((a:Int)+6))) none=some (J.str g)/\some (J.bool (g == Array.toList #[27,91,50,48,49,126]))=some (J.bool false)/\(-9223372036854775808<=(a:Int)+1/\(a:Int)+1<=9223372036854775807)/\c .normal [(0,.ptr (cB 0)),(1,.str b),(4,.ptr (ba 50)),(7,.int .i64 ((a:Int)+1))] (T.af 74 [(0,(ac.aj ([.agg [.str d,.bool true,.str f]]) 3 true (some (29,3)))),(50,df)]))/\(¬(a:Int)+6<=(↑b.length:Int)->c (.exit 0) [(0,.ptr (cB 0)),(1,.str b),(4,.ptr (ba 50)),(7,.int .i64 (a:Int))] (T.af 65 [(0,(ac.aj ([.agg [.str d,.bool true,.str f]]) 3 true (some (29,3)))),(50,df)]))) :
 ∃e h aa,bR 1 80 (br 61 0) [(0,.ptr (cB 0)),(1,.str b),(4,.ptr (ba 50)),(7,.int .i64 (a:Nat))] (T.rows 60 [(0,cz d true f),(50,cR (cV 0 0 0 0 0 []))]) e h aa/\c e h aa :=
 di cP mixed bT (hs:=ag 2001 (.aq 2004 (ag 4003 (.ak (.val 4004 (.str g)) (.ak (.val 4005 (.bool false)) (ag 3001 .nil)))) .nil)) (keep:=[0,1,4,5,6,7]) ar i
abbrev Sn(a b:Bytes):J:=J.agg [.str a,.bool true,.str b]
abbrev HO(a:Bytes):J:=J.agg [.int .i8 4,.int .i32 0,.int .u8 0,.int .i64 0,.int .i64 0,.str a]
abbrev lE(a b:Bytes):ac:=(ac.aj ([(Sn a b)]) 3 true (some (29,3)))
abbrev wV(a b:Bytes):T:=(T.af 83 [(0,(lE a b)),(50,df)])
theorem So(c k d b g f j:Bytes)(a:Nat)(i:bW->a8->T->Prop)(m:(-9223372036854775808<=(a:Int)+6/\(a:Int)+6<=9223372036854775807)/\((a:Int)+6<=(↑c.length:Int)->(-9223372036854775808<=(a:Int)+6/\(a:Int)+6<=9223372036854775807)/\ec env.D 9 (.str c) (some (.int .i64 (a:Int))) (some (.int .i64 ((a:Int)+6))) none=some (J.str k)/\some (J.bool (k == Array.toList #[27,91,50,48,49,126]))=some (J.bool true)/\ec env.D 9 (.str c) none (some (.int .i64 (a:Int))) none=some (J.str g)/\Nat.le (Nat.succ (List.length b+g.length)) (2^62)/\bM 91 [.str (b++g)] (wV d b) (.str f) (wV d b)/\(wV d b)=(wV d b)/\(∀(h:T),bM 91 [.str (b++g)] h (.str f) h)/\(-9223372036854775808<=(a:Int)+6/\(a:Int)+6<=9223372036854775807)/\ec env.D 9 (.str c) (some (.int .i64 ((a:Int)+6))) none none=some (J.str j)/\i .ret [(0,.ptr (cB 0)),(1,.str c),(4,.ptr (ba 50)),(5,.str j),(6,.bool true),(7,.int .i64 (a:Int))] (T.af 99 [(0,(ac.aj ([.agg [.str d,.bool false,.str []]]) 3 true (some (29,3)))),(50,(ac.aj ([(HO f)]) 6 true (some (42,6)))),(81,(ac.aj ([(HO f)]) 6 true (some (42,6))))]))/\(¬(a:Int)+6<=(↑c.length:Int)->i (.exit 0) [(0,.ptr (cB 0)),(1,.str c),(4,.ptr (ba 50)),(7,.int .i64 (a:Int))] (T.af 65 [(0,(lE d b)),(50,df)]))) :
 ∃e l aa,bR 1 80 (br 61 0) [(0,.ptr (cB 0)),(1,.str c),(4,.ptr (ba 50)),(7,.int .i64 (a:Nat))] (T.rows 60 [(0,cz d true b),(50,cR (cV 0 0 0 0 0 []))]) e l aa/\i e l aa :=
 di cP mixed bT (hs:=ag 2001 (.aq 2004 (ag 4003 (.ak (.val 4004 (.str k)) (.ak (.val 4005 (.bool true)) (.ak (.val 5006 (.str g)) (ag 5007 (.ak (.val 5008 (.str f)) (ag 8003 (.ak (.val 8004 (.str j)) .nil)))))))) .nil)) (keep:=[0,1,4,5,6,7]) ar m
theorem HP(b c d g h:Bytes)(a:Nat)(f:bW->a8->T->Prop)(j:(-9223372036854775808<=(↑b.length:Int)- (a:Int)/\(↑b.length:Int)- (a:Int)<=9223372036854775807)/\ec env.D 9 (.str b) (some (.int .i64 ((↑b.length:Int)- (a:Int)))) none none=some (J.str c)/\ec env.D 9 (.str [27,91,50,48,49,126]) none (some (.int .i64 (a:Int))) none=some (J.str d)/\(c=d->f (.exit 2) [(0,.ptr (cB 0)),(1,.str b),(4,.ptr (ba 50)),(9,.int .i64 (a:Int))] (T.af 69 [(0,(lE g h)),(50,df)]))/\(¬c=d->(-9223372036854775808<=(a:Int)-1/\(a:Int)-1<=9223372036854775807)/\f .normal [(0,.ptr (cB 0)),(1,.str b),(4,.ptr (ba 50)),(9,.int .i64 ((a:Int)-1))] (T.af 72 [(0,(lE g h)),(50,df)]))) :
 ∃e i aa,bR 1 80 (br 61 1) [(0,.ptr (cB 0)),(1,.str b),(4,.ptr (ba 50)),(9,.int .i64 (a:Nat))] (T.rows 60 [(0,cz g true h),(50,cR (cV 0 0 0 0 0 []))]) e i aa/\f e i aa :=
 di cP mixed bT (hs:=ag 10004 (.ak (.val 10005 (.str c)) (.ak (.val 10007 (.str d)) (.aq 10008 .nil (ag 11001 .nil))))) (keep:=[0,1,4,5,6,9]) ar j
abbrev HQ(a:Bytes):J:=J.agg [.int .i8 4,.int .i32 0,.int .u8 0,.int .i64 0,.int .i64 0,.str a]
theorem Sp(h g i b e d a:Bytes)(c:Bool)(f:bm)(j:bR 1 80 (Code.loop (br 61 0)) [(0,.ptr (cB 0)),(1,.str h),(4,.ptr (ba 1)),(5,.str []),(6,.bool false),(7,.int .i64 0)] (T.af 5 [(0,(lE g i)),(1,bx)]) .ret [(4,.ptr (ba 50)),(5,.str d),(6,.bool true)] (T.af 90 [(0,cz b c e),(50,cR (cV 4 0 0 0 0 a))])/\f (.tuple [(HQ a),.str d,.bool true]) (T.af 90 [(0,(ac.aj ([.agg [.str b,.bool c,.str e]]) 3 true (some (29,3)))),(50,(ac.aj ([(HQ a)]) 6 true (some (42,6))))])) :
 bC 61 [.ptr (cB 0),.str h] (T.of [cz g true i]) f :=
 bI bT (.ak (.keep [0,1,4,5,6,7]) (.ak (.loop [(4,.ptr (ba 50)),(5,.str d),(6,.bool true)] (T.af 90 [(0,cz b c e),(50,cR (cV 4 0 0 0 0 a))]) .ret) .nil)) j
theorem Sq(a c b e f g:Bytes)(i:J)(d:Nat)(h:bm)(j:bR 1 80 (Code.loop (br 61 0)) [(0,.ptr (cB 0)),(1,.str a),(4,.ptr (ba 1)),(5,.str []),(6,.bool false),(7,.int .i64 0)] (T.af 5 [(0,(lE c b)),(1,bx)]) (.exit 0) [(0,.ptr (cB 0)),(1,.str a),(4,.ptr (ba 50)),(7,i)] (T.af 60 [(0,cz c true b),(50,cR (cV 0 0 0 0 0 []))])/\bR 1 80 (Code.loop (br 61 1)) [(0,.ptr (cB 0)),(1,.str a),(4,.ptr (ba 50)),(9,.int .i64 (if 5<(↑a.length:Int)then 5 else(↑a.length:Int)))] (T.af 64 [(0,(lE c b)),(50,df)]) (.exit 2) [(0,.ptr (cB 0)),(1,.str a),(4,.ptr (ba 50)),(9,.int .i64 (d:Int))] (T.af 90 [(0,cz c true b),(50,cR (cV 0 0 0 0 0 []))])/\(-9223372036854775808<=(↑a.length:Int)- (d:Int)/\(↑a.length:Int)- (d:Int)<=9223372036854775807)/\ec env.D 9 (.str a) none (some (.int .i64 ((↑a.length:Int)- (d:Int)))) none=some (J.str e)/\Nat.le (Nat.succ (List.length b+e.length)) (2^62)/\bM 91 [.str (b++e)] (T.af 106 [(0,(lE c b)),(50,df)]) (.str f) (T.af 106 [(0,(lE c b)),(50,df)])/\(-9223372036854775808<=(↑a.length:Int)- (d:Int)/\(↑a.length:Int)- (d:Int)<=9223372036854775807)/\ec env.D 9 (.str a) (some (.int .i64 ((↑a.length:Int)- (d:Int)))) none none=some (J.str g)/\h (.tuple [fF,.str g,.bool false]) (T.af 116 [(0,(ac.aj ([.agg [.str c,.bool true,.str f]]) 3 true (some (29,3)))),(50,df)])) :
 bC 61 [.ptr (cB 0),.str a] (T.of [cz c true b]) h :=
 bI bT (.ak (.keep [0,1,4,5,6,7]) (.ak (.loop [(0,.ptr (cB 0)),(1,.str a),(4,.ptr (ba 50)),(7,i)] (T.af 60 [(0,cz c true b),(50,cR (cV 0 0 0 0 0 []))]) (.exit 0)) (.ak (.keep [0,1,4,5,6,9]) (.ak (.loop [(0,.ptr (cB 0)),(1,.str a),(4,.ptr (ba 50)),(9,.int .i64 (d:Int))] (T.af 90 [(0,cz c true b),(50,cR (cV 0 0 0 0 0 []))]) (.exit 2)) (ag 12009 (.ak (.val 12010 (.str e)) (ag 12011 (.ak (.val 12012 (.str f)) (ag 13005 (.ak (.val 13006 (.str g)) .nil)))))))))) j
theorem Sr(b c:Bytes)(a:bm)(d:a (.slice none 0 0) (T.af 18 [(0,(lE b c))])) :
 bC 32 [.ptr (cB 0)] (T.of [cz b true c]) a :=
 bI bT (.nil) d
theorem Ss(b:Bytes)(a:bm)(c:a (.slice none 0 0) (T.af 18 [(0,(ac.aj ([.agg [.str [],.bool false,.str b]]) 3 true (some (29,3))))])) :
 bC 32 [.ptr (cB 0)] (T.of [cz [] false b]) a :=
 bI bT (.nil) c
abbrev St(a:Bytes):J:=J.agg [.str [],.bool false,.str a]
abbrev wW(a:Bytes):ac:=(ac.aj ([(St a)]) 3 true (some (29,3)))
theorem Su(a c:Bytes)(b:bm)(d:some (J.bool (a == Array.toList #[]))=some (J.bool false)/\(a=[(27:UInt8)]->b (.slice (ba 30) 1 1) (T.af 32 [(0,(wW c)),(30,ac.aj [oS] 6 true)]))/\(¬a=[(27:UInt8)]->(a=[(27:UInt8),(91:UInt8)]->b (.slice (ba 32) 1 1) (T.af 34 [(0,(wW c)),(32,ac.aj [.agg [.int .i8 1,.int .i32 91,.int .u8 2,.int .i64 0,.int .i64 0,.str []]] 6 true)]))/\(¬a=[(27:UInt8),(91:UInt8)]->(a=[(27:UInt8),(79:UInt8)]->b (.slice (ba 34) 1 1) (T.af 36 [(0,(wW c)),(34,ac.aj [nE] 6 true)]))/\(¬a=[(27:UInt8),(79:UInt8)]->b (.slice (ba 35) 1 1) (T.af 37 [(0,(wW c)),(35,ac.aj [.agg [.int .i8 7,.int .i32 0,.int .u8 0,.int .i64 0,.int .i64 0,.str a]] 6 true)]))))) :
 bC 32 [.ptr (cB 0)] (T.of [cz a false c]) b :=
 bI bT (.ak (.val 1013 (.bool false)) (.aq 6000 .nil (.aq 8000 .nil (.aq 10000 .nil .nil)))) d
theorem Sv(c g h a i j:T)(d e f:Nat)(q m:Bytes)(b p l k:J)(o:bW->a8->T->Prop)(r:aW d (c.Y) (a1 env.D 4 ⟨e,0,0,1,3⟩ (aY c 4)=some (J.bool true)/\aW d (c.Y+4) (bM 61 [.ptr (cB e),.str q] (aY c 15) (.tuple [b,.str m,.bool true]) g/\bd env cr (c.Y+11) (bf []) g (Op.alloc 42)=some (J.ptr (ba f),h)/\bd env cr (c.Y+12) (bf [(7,.ptr (ba f)),(30,b)]) h (Op.store 42 (Operand.tmp 7) (Operand.tmp 30))=some (J.tuple [],a)/\aW d (a.Y) (aW d (a.Y+2) (aW d (a.Y+4) (a1 env.D 42 ⟨f,0,0,0,6⟩ (aY a 9)=some b/\bd env cr (a.Y+6) (bf [(37,b)]) (aY a 9) (Op.buildSlice 56 1 {toList:=[(0,Operand.tmp 37)]})=some (k,i)/\eB env Builtin.append {toList:=[56,56]} [p,k] (a.Y+7) i=some (l,j)/\o .normal [(0,.ptr (cB e)),(5,.str m),(6,l)] j)))))) :
 ∃b n aa,bR d 67 (br 31 0) [(0,.ptr (cB e)),(5,.str q),(6,p)] c b n aa/\o b n aa :=
 di cP mixed bT (hs:= .ak (.val 5003 (.bool true)) (.ak (.act 6002 (.tuple [b,.str m,.bool true]) λx=>g) (.ak (.act 6007 (.ptr (ba f)) λx=>h) (.ak (.act 6008 (.tuple []) λx=>a) (.ak (.val 9001 b) (.ak (.act 9002 k λx=>i) (.ak (.act 9003 l λx=>j) .nil))))))) (keep:=[0,5,6]) ar r
theorem Sw(a f g b:T)(d e i:Nat)(m h:Bytes)(c l:J)(k:bW->a8->T->Prop)(n:aW d (a.Y) (a1 env.D 4 ⟨e,0,0,1,3⟩ (aY a 4)=some (J.bool true)/\aW d (a.Y+4) (bM 61 [.ptr (cB e),.str m] (aY a 15) (.tuple [c,.str h,.bool false]) f/\bd env cr (a.Y+11) (bf []) f (Op.alloc 42)=some (J.ptr (ba i),g)/\bd env cr (a.Y+12) (bf [(7,.ptr (ba i)),(30,c)]) g (Op.store 42 (Operand.tmp 7) (Operand.tmp 30))=some (J.tuple [],b)/\aW d (b.Y) (aW d (b.Y+2) (k (.exit 0) [(0,.ptr (cB e)),(5,.str h),(6,l)] (T.mk (b.Y+2+2) (T.ay (aY b 2)))))))) :
 ∃c j aa,bR d 67 (br 31 0) [(0,.ptr (cB e)),(5,.str m),(6,l)] a c j aa/\k c j aa :=
 di cP mixed bT (hs:= .ak (.val 5003 (.bool true)) (.ak (.act 6002 (.tuple [c,.str h,.bool false]) λx=>f) (.ak (.act 6007 (.ptr (ba i)) λx=>g) (.ak (.act 6008 (.tuple []) λx=>b) .nil)))) (keep:=[0,5,6]) ar n
theorem HR(b l m a n o p:T)(c e k:Nat)(f j:Bytes)(d:J)(s g:Int)(i r q:J)(h:bW->a8->T->Prop)(u:aW c (b.Y) (a1 env.D 4 ⟨e,0,0,1,3⟩ (aY b 4)=some (J.bool false)/\aW c (b.Y+4) ((f=[]->h (.exit 0) [(0,.ptr (cB e)),(5,.str f),(6,i)] (T.mk (b.Y+4+2) (T.ay (aY b 4))))/\(¬f=[]->aW c (b.Y+6) (bM 39 [.str f] (aY b 16) (.tuple [d,.int .i64 s,.int .i64 g]) l/\bd env cr (b.Y+12) (bf []) l (Op.alloc 42)=some (J.ptr (ba k),m)/\bd env cr (b.Y+13) (bf [(10,.ptr (ba k)),(45,d)]) m (Op.store 42 (Operand.tmp 10) (Operand.tmp 45))=some (J.tuple [],a)/\aW c (a.Y) ((g=2->h (.exit 0) [(0,.ptr (cB e)),(5,.str f),(6,i)] (aY a 2))/\(¬g=2->aW c (a.Y+2) (ec env.D 9 (.str f) (some (.int .i64 s)) none none=some (J.str j)/\aW c (a.Y+6) ((g=1->aW c (a.Y+8) (bd env cr (a.Y+11) (bf [(57,.ptr (some ⟨e,0,0,1,3⟩))]) (aY a 12) (Op.store 4 (Operand.tmp 57) (Operand.const (Value.bool true)))=some (J.tuple [],p)/\h .normal [(0,.ptr (cB e)),(5,.str j),(6,i)] p))/\(¬g=1->aW c (a.Y+8) (a1 env.D 42 ⟨k,0,0,0,6⟩ (aY a 13)=some d/\bd env cr (a.Y+10) (bf [(59,d)]) (aY a 13) (Op.buildSlice 56 1 {toList:=[(0,Operand.tmp 59)]})=some (q,n)/\eB env Builtin.append {toList:=[56,56]} [i,q] (a.Y+11) n=some (r,o)/\h .normal [(0,.ptr (cB e)),(5,.str j),(6,r)] o))))))))))) :
 ∃d t aa,bR c 67 (br 31 0) [(0,.ptr (cB e)),(5,.str f),(6,i)] b d t aa/\h d t aa :=
 di cP mixed bT (hs:= .ak (.val 5003 (.bool false)) (.aq 10001 .nil (.ak (.act 11001 (.tuple [d,.int .i64 s,.int .i64 g]) λx=>l) (.ak (.act 11006 (.ptr (ba k)) λx=>m) (.ak (.act 11007 (.tuple []) λx=>a) (.aq 12001 .nil (.ak (.val 13002 (.str j)) (.aq 14001 (.ak (.act 15003 (.tuple []) λx=>p) .nil) (.ak (.val 16001 d) (.ak (.act 16002 q λx=>n) (.ak (.act 16003 r λx=>o) .nil))))))))))) (keep:=[0,5,6]) ar u
theorem Sx(s:Bytes)(hs:s≠[])(c:bP s 0≠27):0<=(fA s).1.eJ/\(fA s).1.eJ<=4/\0<=(fA s).2.1/\(fA s).2.1<=(s.length:Nat)/\((fA s).2.2=2->(fA s).2.1=0):=by
 have a:=fS.2 hs
 have al:0<=(Keys.control (s.getD 0 0).toNat).eJ/\(Keys.control (s.getD 0 0).toNat).eJ<=4:=by
  unfold Keys.control cY dq
  repeat' split
  all_goals (simp only;omega)
 unfold fA;split
 .exact⟨al.1,al.2,by show(0:Int)<=1;decide,by show(1:Int)<=_;omega,λh=>by cases h⟩
 .split
  .exact⟨aA,aA,aA,by show(0:Int)<=_;omega,λ_=>rfl⟩
  .rename_i b
   have az:(first s).2.1<=s.length:=by
    cases Keys.begun hs with
    |more h=>exact absurd h b
    |whole r n e _ _ az=>rw [e];exact az.2
    |lone e _ _=>rw [e];exact a
    |broken n _ h2 e _ _=>rw [e];exact Nat.le_of_lt h2
   split
   .exact⟨(show(0:Int)<=0 by decide),(show(0:Int)<=4 by decide),by show(0:Int)<=((first s).2.1:Nat);omega,by show(((first s).2.1:Nat):Int)<=_;omega,λh=>by cases h⟩
   .exact⟨(show(0:Int)<=0 by decide),(show(0:Int)<=4 by decide),by show(0:Int)<=((first s).2.1:Nat);omega,by show(((first s).2.1:Nat):Int)<=_;omega,λh=>by cases h⟩
theorem wX(d:UInt8)(t:Bytes):o7 (d::t)=if 0<Keys.dC d.toNat then(cY (Keys.dC d.toNat),3,0)else if 80<=d.toNat/\d.toNat<=83 then(cY (21+(d.toNat-80)),3,0)else if d.toNat=77 then(cY 1,3,0)else(dq 79 2,2,0):=rfl
def mC(c:Nat):Int:=if 80<=c/\c<=83 then(c:Int)-80 else-1
theorem Sy:∀c:Fin 256,(match nd Tryz.prog env 100 68 [.str [80,81,82,83],.int .u8 (c.val:Nat)] ⟨0,.nil⟩with|some (v,_)=>J.iW [v] [.int .i64 (mC c.val)]|none=>false)=true:=by decide+kernel
theorem Sz{c:Nat}(al:c<256)(H:T):bu 68 [.str [80,81,82,83],.int .u8 (c:Nat)] H (.int .i64 (mC c)) H:=by
 have h:=Sy ⟨c,al⟩;simp only at h;split at h
 .rename_i v ad d;have:=J.mX h;simp only [fT,h0]at this;subst this;rw [rI]at d;exact(bl.pP cP mixed d).bare (by intro a b;simp only [cM,ff,ea]at b;rcases b with rfl|rfl;exact ci.of rfl;exact ci.int _ _) (ci.of rfl) H
 .cases h
theorem SA{s:Bytes}(hs:s.length<2^40)(aN:s≠[])(H:T):bu 39 [.str s] H (hR (dS s)) H:=by
 have G:=fS.2 aN;have a0:c8 (a'.D env) 9 (.str s) (.int .i64 0)=some (.int .u8 (bP s 0:Nat)):=jt (k:=0) G;by_cases l:bP s 0=27
 .obtain ⟨r,rfl⟩:∃r,s=27::r:=by
   cases s with
   |nil=>exact absurd rfl aN
   |cons a r=>exact⟨r,by rw [show a=27 from fq.1 l]⟩
  rw [l]at a0;cases r with
  |nil=>exact bl.cm (qK [27] 0 0 0 0 0 0 0 0 0 0 0 [] (λv _=>v=hR (dS [27])) ⟨a0,λ_=>rfl,λh=>absurd rfl h⟩) rfl rfl H
  |cons c t =>
   have ao:c8 (a'.D env) 9 (.str (27::c::t)) (.int .i64 1)=some (.int .u8 (c.toNat:Nat)):=jt (s:=27::c::t) (k:=1) an;have i:¬(((27::c::t:Bytes).length:Nat):Int)=1:=by simp only [b'];omega
   have al:=c.toNat_lt;by_cases j:c=27
   .subst j;exact bl.cm (qK (27::27::t) (27:Nat) 0 0 0 0 0 0 0 0 0 0 [] (λv _=>v=hR (dS (27::27::t))) ⟨a0,λh=>absurd h i,λ_=>⟨ao,λ_=>rfl,λh=>absurd rfl h⟩⟩) rfl rfl H
   have K:¬((c.toNat:Nat):Int)=27:=λh=>j (fq.1 (by show c.toNat=27;omega))
   by_cases c91:c=91
   .subst c91;have w:=λh=>R6 (s:=27::91::t) hs an h
    have e:dS (27::91::t)=hT (27::91::t) 2 false t:=(HM _ _ _ _).symm;have aO:(27::91::t:Bytes).drop 2=t:=rfl;rw [aO]at w;rw [e];generalize hT (27::91::t) 2 false t=x at w;obtain⟨⟨k,d,m,a,b,y⟩,p,q⟩:=x;exact bl.cm (qK (27::91::t) (91:Nat) 0 0 0 k d m a b p q y (λv _=>v=hR (⟨k,d,m,a,b,y⟩,p,q)) ⟨a0,λh=>absurd h i,λ_=>⟨ao,λh=>absurd h V,λ_=>⟨λ_=>⟨⟨w _⟩,rfl⟩,λh=>absurd rfl h⟩⟩⟩) rfl rfl H
   have M:¬((c.toNat:Nat):Int)=91:=λh=>c91 (fq.1 (by show c.toNat=91;omega))
   by_cases o:c=79
   .subst o;have e:dS (27::79::t)=o7 t:=rfl;rw [e];cases t with
    |nil=>exact bl.cm (qK [27,79] (79:Nat) 0 0 0 0 0 0 0 0 0 0 [] (λv _=>v=hR (o7 [])) ⟨a0,λh=>absurd h i,λ_=>⟨ao,λh=>absurd h V,λ_=>⟨λh=>absurd h V,λ_=>⟨λ_=>⟨λ_=>rfl,λh=>absurd rfl h⟩,λh=>absurd rfl h⟩⟩⟩⟩) rfl rfl H
    |cons d t =>
     have a2:c8 (a'.D env) 9 (.str (27::79::d::t)) (.int .i64 2)=some (.int .u8 (d.toNat:Nat)):=jt (s:=27::79::d::t) (k:=2) an;have N:¬(((27::79::d::t:Bytes).length:Nat):Int)=2:=by simp only [b'];omega
     have F:=d.toNat_lt;refine bl.cm (qK (27::79::d::t) (79:Nat) (d.toNat:Nat) (Keys.dC d.toNat) (mC d.toNat) 0 0 0 0 0 0 0 [] (λv _=>v=hR (o7 (d::t))) ⟨a0,λh=>absurd h i,λ_=>⟨ao,λh=>absurd h V,λ_=>⟨λh=>absurd h V,λ_=>⟨λ_=>⟨λh=>absurd h N,λ_=>⟨a2,⟨AR d.toNat _⟩,λg=> ?_,λg=>⟨a2,⟨Sz F _⟩,λae=>⟨?_,?_,?_⟩,λae=>⟨a2,λE=> ?_,λE=> ?_⟩⟩⟩⟩,λh=>absurd rfl h⟩⟩⟩⟩) rfl rfl H
     .rw [wX];rw [aE g];rfl
     .unfold mC;split<;>omega
     .unfold mC;split<;>omega
     .have f:80<=d.toNat/\d.toNat<=83:=by
       unfold mC at ae;split at ae
       .assumption
       .omega
      rw [wX];rw [ap g,aE f];unfold mC;rw [aE f];rfl
     .have f:¬(80<=d.toNat/\d.toNat<=83):=by intro q;unfold mC at ae;rw [aE q]at ae;omega
      rw [wX];rw [ap g,ap f,aE V];rfl
     .have f:¬(80<=d.toNat/\d.toNat<=83):=by intro q;unfold mC at ae;rw [aE q]at ae;omega
      rw [wX];rw [ap g,ap f,ap V];rfl
   have L:¬((c.toNat:Nat):Int)=79:=λh=>o (fq.1 (by show c.toNat=79;omega))
   have e:dS (27::c::t)=lD (fA (c::t)):=by unfold dS;simp only;rw [aE trivial,ap j,ap c91,ap o]
   rw [e];have z:bP (c::t) 0≠27:=λh=>j (fq.1 h)
   have pl:=λh=>GS (s:=c::t) an h
   rw [HL an z]at pl;obtain⟨m0,m4,A,C,B⟩:=Sx (c::t) an z;have O:(c::t:Bytes).length<2^40:=by simp only [b']at hs⊢; omega
   generalize I:fA (c::t)=x at pl m0 m4 A C B;obtain⟨⟨k,d,m,a,b,y⟩,p,q⟩:=x;simp only at m0 m4 A C B
   have P :y.length<2^41:=by
    have aI:=dW (λx=>x.1.text.length) I;simp only at aI;rw [<-aI];unfold fA
    have c0:∀n,(Keys.control n).text=[]:=λn=>by
     unfold Keys.control cY dq
     repeat' split
     all_goals rfl
    split
    .show(Keys.control _).text.length<_;rw [c0];decide
    .split
     .decide
     .split
      .show(List.take _ _).length<_;rw [kl];omega
      .show(0:Nat)<_;decide
   refine bl.cm (qK (27::c::t) (c.toNat:Nat) 0 0 0 k d m a b p q y (λv _=>v=hR (lD (⟨k,d,m,a,b,y⟩,p,q))) ⟨a0,λh=>absurd h i,λ_=>⟨ao,λh=>absurd h K,λ_=>⟨λh=>absurd h M,λ_=>⟨λh=>absurd h L,λ_=>⟨⟨V,by simp only [b'];omega⟩,⟨pl _⟩,λh=> ?_,λh=>⟨λu=>⟨?_,⟨V,V⟩,?_⟩,λu=>⟨⟨V,V⟩,⟨V,V⟩,?_⟩⟩⟩⟩⟩⟩⟩) rfl rfl H
   .unfold lD;rw [aE h];rfl
   .show Nat.succ (1+y.length)<=2^62;omega
   .unfold lD;rw [ap h];simp only;rw [aE u];rfl
   .unfold lD;rw [ap h];simp only;rw [ap u];rfl
 .have e:dS s=fA s:=by
   cases s with
   |nil=>exact absurd rfl aN
   |cons b r =>
    unfold dS;simp only;rw [ap (λq=>l (by rw [q];rfl))]
  rw [e];have pl:=λh=>GS aN h
  rw [HL aN l]at pl;generalize fA s=x at pl;obtain⟨⟨k,d,m,a,b,y⟩,p,q⟩:=x
  exact bl.cm (R7 s (bP s 0:Nat) k d m a b p q y (λv _=>v=hR (⟨k,d,m,a,b,y⟩,p,q)) ⟨a0,by
   have:(((bP s 0:Nat):Int) != 27)=true:=by rw [bne_iff_ne];omega
   rw [this],⟨pl _⟩,rfl⟩) rfl rfl H
end Go.Proofs.YtddnafghiejcoaaGreatDoor
