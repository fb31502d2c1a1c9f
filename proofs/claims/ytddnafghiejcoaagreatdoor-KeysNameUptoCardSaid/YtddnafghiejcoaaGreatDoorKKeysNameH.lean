/-
  Parts of the proof of KeysName.
-/
import Derived.Test.YtddnafghiejcoaaGreatDoorKKeysNameG
set_option maxRecDepth 1000000
set_option linter.unusedVariables false
set_option linter.defProp false
set_option linter.unusedSimpArgs false
namespace Go.Proofs.zz
open Go.br Go.Keys Go.Lib
structure ev where
 aD:Nat
 ah:Nat
 n:Nat
 df:Nat
 cS:Nat
 off:Nat
def ev.v(r:ev):J:=qf r.aD r.ah r.n r.df r.cS r.off
def dh:List ev:=[⟨0,127,1,0,0,0⟩,⟨194,223,2,128,191,192⟩,⟨224,224,3,160,191,224⟩,⟨225,236,3,128,191,224⟩,⟨238,239,3,128,191,224⟩,⟨237,237,3,128,159,224⟩,⟨240,240,4,144,191,240⟩,⟨241,243,4,128,191,240⟩,⟨244,244,4,128,143,240⟩]
def bV(s:Bytes)(k:Nat):Nat:=(s.getD k 0).toNat
def nw(s:Bytes)(r:ev)(k:Nat):Bool:=_root_.cond (Nat.beq k 1) (Nat.blt (bV s k) r.df || Nat.blt r.cS (bV s k)) (Nat.blt (bV s k) 128 || Nat.blt 191 (bV s k))
def fx(s:Bytes)(r:ev):Nat->Nat->Nat
 |0,k=>k
 |t+1,k=>if k<r.n/\k<s.length then if nw s r k=true then k else fx s r t (k+1)else k
def di(s:Bytes)(r:ev):Nat:=if s.length=0\/bV s 0<r.aD\/r.ah<bV s 0 then 0 else fx s r 4 1
variable {i k:Nat}{s:Bytes}
def j'(h:k<s.length):c' (bi.D env) 9 (.str s) (.V (k:Nat))=some (.ac (bV s k:Nat)):=by have a:(bi.D env 9).map (λd=>d.kind)=some .string:= ao;obtain⟨x,Y,ag⟩:=cb.1 a;unfold c';rw [Y];simp only [ag];rw [az A,fS,ds h];simp [bV,h]
def oN(s:Bytes)(k:Nat):bV s k<256:=(s.getD k 0).toNat_lt
abbrev oO(s:Bytes)(v:J):bc:=[(0,.str s),(3,.ptr (some ⟨0,0,0,0,6⟩)),(5,v)]
abbrev lr(r:ev):aa:=aa.an [r.v] 6 true (some (120,6))
def yo(r:ev)(s:Bytes)(i:Int)(h:T)(ab:h.get 0=some (lr r)):bW 0 60 (oO s (.V i)) h (oO s (.V i)) (T.bO 30 [(0,lr r)]):=by
 have aQ:T.rows 30 [(0,lr r)]=T.bO 30 [(0,lr r)]:= ao;rw [<-aQ]
 exact bW.drop (K:=30) (l:=[(0,lr r)]) (by simp only [ei,hS,ab]) (by rfl) (by rfl) (by rfl) (aX.cons trivial (aX.cons (by simp [bR,Go.br.b3]) (aX.cons trivial aX.nil))) (aX.cons (by
  intro e he;obtain rfl:e=r.v:=by simpa [aa.an]using he
  exact(b0.of rfl).dj _) aX.nil)
def Kk(r:ev)(s:Bytes)(k q:Nat):Prop:= ∃H',
 dd 0 60 (bu 80 0) (oO s (.int .i64 (k:Nat))) (T.bO 30 [(0,lr r)]) (.exit 0) (oO s (.int .i64 (q:Nat))) H' \/
 ∃x,dd 0 60 (bu 80 0) (oO s (.int .i64 (k:Nat))) (T.bO 30 [(0,lr r)]) .ret [(0,.str s),(3,.ptr (some ⟨0,0,0,0,6⟩)),(4,.int .i64 (q:Nat)),(5,x)] H'
def WW(r:ev)(s:Bytes)(aw:r.n<=4):∀(t k:Nat),4-k<=t->1<=k->k<=4->Kk r s k (fx s r t k):=by
 have fin:∀k,k<=4-> ¬(k<r.n/\k<s.length)->Kk r s k k:=by intro k p h;obtain⟨e,a,Y,b,rfl,rfl⟩:=Ki k s r.aD r.ah r.n r.df r.cS r.off 0 (λe a Y=>e=.exit 0/\a=oO s (.V (k:Nat))) ⟨λY=>⟨λag=>absurd ⟨A,A⟩ h,λ_=>⟨rfl,rfl⟩⟩,λ_=>⟨rfl,rfl⟩⟩;exact⟨_,.inl (b2.last au b)⟩
 intro t;induction t with
 |zero=>intro k Y ag d;exact fin k d A
 |succ t ih =>
  intro k Y ag d;unfold fx;by_cases aj:k<r.n/\k<s.length
  .rw [az aj];have u:=oN s k;have m:((k:Int)+1)=((k+1:Nat):Int):= A
   have l:∃e a Y,bN 0 60 (bu 80 0) (oO s (.V (k:Nat))) (T.bO 30 [(0,lr r)]) e a Y/\((nw s r k=false/\e=.normal/\a=oO s (.V ((k:Int)+1))/\Y.get 0=some (lr r))\/(nw s r k=true/\e=.ret/\a=[(0,.str s),(3,.ptr (some ⟨0,0,0,0,6⟩)),(4,.V (k:Nat)),(5,.V (k:Nat))])):=by
    have c:(k=1/\(bV s k<r.df\/r.cS<bV s k)\/k≠1/\(bV s k<128\/191<bV s k))->nw s r k=true:=by
     intro h;unfold nw;rcases h with ⟨h,q⟩|⟨h,q⟩
     .rw [show Nat.beq k 1=true by rw [jC];exact h];simpa [eG]using q
     .rw [show Nat.beq k 1=false by rw [gL];intro e;exact h (by rwa [jC]at e)];simpa [eG]using q
    have i:¬(k=1/\(bV s k<r.df\/r.cS<bV s k)\/k≠1/\(bV s k<128\/191<bV s k))->nw s r k=false:=by
     intro h;rw [gL];intro q;apply h;unfold nw at q;by_cases e:k=1
     .rw [show Nat.beq k 1=true by rw [jC];exact e]at q;exact .inl ⟨e,by simpa [eG]using q⟩
     .rw [show Nat.beq k 1=false by rw [gL];intro e';exact e (by rwa [jC]at e')]at q;exact .inr ⟨e,by simpa [eG]using q⟩
    exact Ki k s r.aD r.ah r.n r.df r.cS r.off (bV s k:Nat) _
     ⟨λ_=>⟨λ_=>⟨j' aj.2,⟨A,A⟩,
      λe=>⟨λq=> .inr ⟨c A,rfl,rfl⟩,λcw=>⟨λq=> .inr ⟨c A,rfl,rfl⟩,λcy=>⟨⟨A,A⟩,.inl ⟨i A,rfl,rfl,rfl⟩⟩⟩⟩,
      λe=>⟨λq=> .inr ⟨c A,rfl,rfl⟩,λcw=>⟨λq=> .inr ⟨c A,rfl,rfl⟩,λcy=>⟨⟨A,A⟩,.inl ⟨i A,rfl,rfl,rfl⟩⟩⟩⟩⟩,λh=>absurd A h⟩,λh=>absurd A h⟩
   obtain⟨e,a,o,b,⟨g,rfl,rfl,ab⟩|⟨g,rfl,rfl⟩⟩:=l
   .rw [g,ai aC];obtain⟨H',j⟩:=ih (k+1) A A A;rw [m]at b;rcases j with f|⟨x,f⟩
    .exact⟨H',.inl (b2.round b (yo r s _ _ ab) f)⟩
    .exact⟨H',.inr ⟨x,b2.round b (yo r s _ _ ab) f⟩⟩
   .rw [g,az rfl];exact⟨_,.inr ⟨_,b2.last au b⟩⟩
  .rw [ai aj];exact fin k d aj
def Kl(r:ev)(s:Bytes)(aw:r.n<=4)(H:T):be 80 [.str s,r.v] H (.V (di s r:Nat)) H:=by
 have fin:(∃v Y,be 80 [.str s,qf r.aD r.ah r.n r.df r.cS r.off] ⟨0,.nil⟩ v Y/\v=.V (di s r:Nat))->be 80 [.str s,r.v] H (.V (di s r:Nat)) H:=λh=>bj.bU h rfl rfl H
 refine fin ?_;have d:=oN s 0;have z:(s.length=0\/bV s 0<r.aD\/r.ah<bV s 0)->(J.V 0:J)=.V (di s r:Nat):=by intro h;unfold di;rw [az h];rfl
 have c:¬(s.length=0\/bV s 0<r.aD\/r.ah<bV s 0)->di s r=fx s r 4 1:=by intro h;unfold di;rw [ai h]
 have a0:¬((s.length:Nat):Int)=0->c' (bi.D env) 9 (.str s) (.V 0)=some (.ac (bV s 0:Nat)):=λh=>j' (k:=0) A
 obtain⟨H',b|⟨x,b⟩⟩:=WW r s aw 4 1 A A A
 .have a:=(cO.dn b).pre (show bW 0 60 _ (T.bO 22 [(0,lr r)]) _ _ from yo r s 1 _ rfl)
  exact WU s r.aD r.ah r.n r.df r.cS r.off (bV s 0:Nat) H' _ (λv _=>v=.V (di s r:Nat))
   ⟨λh=>z A,λh=>⟨a0 h,⟨A,A⟩,λq=>z A,λcw=>⟨a0 h,⟨A,A⟩,λq=>z A,λcy=>⟨a,by rw [c A]⟩⟩⟩⟩
 .have a:=(cO.dn b).pre (show bW 0 60 _ (T.bO 22 [(0,lr r)]) _ _ from yo r s 1 _ rfl)
  exact WV s r.aD r.ah r.n r.df r.cS r.off (bV s 0:Nat) H' x _ (λv _=>v=.V (di s r:Nat))
   ⟨λh=>z A,λh=>⟨a0 h,⟨A,A⟩,λq=>z A,λcw=>⟨a0 h,⟨A,A⟩,λq=>z A,λcy=>⟨a,by rw [c A]⟩⟩⟩⟩
def Km(a b:Nat)(d:Bytes)(c:aa)(n l f o m g i j:Int)(q:J)(k:T)(h:b8->bc->T->Prop)(r:((a:Int)<9->(0<=(a:Int)/\(a:Int)<9)/\a6 env.D 120 ⟨17,0,0+(a:Int).toNat,0,6⟩ (af 71 [(17,c)])=some ((j9 n l f o m g))/\bk 80 [.str d,(j9 n l f o m g)] (af 71 [(17,c)]) (.V b) (af 71 [(17,c)])/\((b:Int)=0->(bd ((a:Int)+1))/\h .normal [(0,.str d),(4,.slice (k1 17) 9 9),(5,.V ((a:Int)+1))] (af 76 [(17,c)]))/\(¬(b:Int)=0->(0<=(a:Int)/\(a:Int)<9)/\a6 env.D 3 ⟨17,0,0+(a:Int).toNat,2,6⟩ (af 80 [(17,c)])=some (.V f)/\((b:Int)<f->h .ret [(0,.str d),(2,.av 65533),(3,.V b),(4,.slice (k1 17) 9 9),(5,.V a)] (af 83 [(17,c)]))/\(¬(b:Int)<f->c' env.D 9 (.str d) (.V 0)=some (.ac i)/\(bd (i))/\(0<=(a:Int)/\(a:Int)<9)/\a6 env.D 3 ⟨17,0,0+(a:Int).toNat,5,6⟩ (af 90 [(17,c)])=some (.V g)/\(bd (i-g))/\bN 0 60 (Code.loop (bu 52 1)) [(0,.str d),(6,.V b),(7,.V (i-g)),(8,.V 1)] (af 91 [(17,c)]) (.exit 2) [(0,.str d),(6,.V b),(7,.V j),(8,q)] k/\(cf j)/\h .ret [(0,.str d),(2,.av j),(3,.V b)] (bf k 5))))/\(¬(a:Int)<9->h (.exit 0) [(0,.str d),(4,.slice (k1 17) 9 9),(5,.V a)] (af 64 [(17,c)]))) :
 ∃e p Y,bN 0 60 (bu 52 0) [(0,.str d),(4,.slice (k1 17) 9 9),(5,.V (a:Nat))] (af 60 [(17,c)]) e p Y/\h e p Y :=
 dD c6 mixed bL (hs:= .al 5003 (ab 7003 (ap 7004 (qf n l f o m g) (ap 7005 (.V b) (.al 8001 (ab 6001 .nil) (ab 9003 (ap 9005 (.V f) (.al 9006 .nil (ap 11001 (.ac i) (ab 11002 (ab 11005 (ap 11007 (.V g) (ab 11008 (.aG (.keep [0,6,7,8]) (.aG (.loop [(0,.str d),(6,.V b),(7,.V j),(8,q)] k (.exit 2)) (ab 16001 .nil))))))))))))))) .nil) (keep:=[0,2,3,4,5]) ao r
def WX(a:Bytes)(b:T)(d:J)(c:aU)(e:((↑(a.length):Int)=0->c (.tuple [.av 0,.V 0]) (af 7 []))/\(¬(↑(a.length):Int)=0->bN 0 60 (Code.loop (bu 52 0)) [(0,.str a),(4,.slice (k1 17) 9 9),(5,.V 0)] (af 20 [(17,aa.an [.agg [.V 0,.V 127,.V 1,.V 0,.V 0,.V 0],.agg [.V 194,.V 223,.V 2,.V 128,.V 191,.V 192],.agg [.V 224,.V 224,.V 3,.V 160,.V 191,.V 224],.agg [.V 225,.V 236,.V 3,.V 128,.V 191,.V 224],.agg [.V 238,.V 239,.V 3,.V 128,.V 191,.V 224],.agg [.V 237,.V 237,.V 3,.V 128,.V 159,.V 224],.agg [.V 240,.V 240,.V 4,.V 144,.V 191,.V 240],.agg [.V 241,.V 243,.V 4,.V 128,.V 191,.V 240],.agg [.V 244,.V 244,.V 4,.V 128,.V 143,.V 240]] 6 true)]) (.exit 0) [(0,.str a),(4,.slice (k1 17) 9 9),(5,d)] b/\c (.tuple [.av 65533,.V 1]) (bf b 2))) :
 bl 52 [.str a] bG c :=
 bm bL (.al 1002 .nil<|he 3000<|.aG (.keep [0,4,5])<|.aG (.loop [(0,.str a),(4,.slice (k1 17) 9 9),(5,d)] b (.exit 0)) .nil) e
def WY(a:Bytes)(b:T)(d e:J)(c:aU)(f:((↑(a.length):Int)=0->c (.tuple [.av 0,.V 0]) (af 7 []))/\(¬(↑(a.length):Int)=0->bN 0 60 (Code.loop (bu 52 0)) [(0,.str a),(4,.slice (k1 17) 9 9),(5,.V 0)] (af 20 [(17,aa.an [.agg [.V 0,.V 127,.V 1,.V 0,.V 0,.V 0],.agg [.V 194,.V 223,.V 2,.V 128,.V 191,.V 192],.agg [.V 224,.V 224,.V 3,.V 160,.V 191,.V 224],.agg [.V 225,.V 236,.V 3,.V 128,.V 191,.V 224],.agg [.V 238,.V 239,.V 3,.V 128,.V 191,.V 224],.agg [.V 237,.V 237,.V 3,.V 128,.V 159,.V 224],.agg [.V 240,.V 240,.V 4,.V 144,.V 191,.V 240],.agg [.V 241,.V 243,.V 4,.V 128,.V 191,.V 240],.agg [.V 244,.V 244,.V 4,.V 128,.V 143,.V 240]] 6 true)]) .ret [(0,.str a),(2,d),(3,e)] b/\c (.tuple [d,e]) b)) :
 bl 52 [.str a] bG c :=
 bm bL (.al 1002 .nil<|he 3000<|.aG (.keep [0,4,5])<|.aG (.loop [(0,.str a),(2,d),(3,e)] b .ret) .nil) f
def iz(s:Bytes)(k:Nat):Nat->Nat->Int->Int
 |0,_,n=>n
 |t+1,j,n=>if j<k then iz s k t (j+1) (n*64+bV s j-128)else n
def oP:Nat->Int
 |1=>256
 |2=>16512
 |3=>1056896
 |_=>67641472
abbrev oQ(s:Bytes)(k:Nat)(n v:J):bc:=[(0,.str s),(6,.int .i64 (k:Nat)),(7,n),(8,v)]
def Kn(k:Nat)(s:Bytes)(n i:Int)(h:T):bW 0 60 (oQ s k (.V n) (.V i)) h (oQ s k (.V n) (.V i)) (T.bO 60 []):=by have aQ:T.rows 60 []=T.bO 60 []:= ao;rw [<-aQ];exact bW.drop (K:=60) (l:=[]) rfl (by rfl) (by rfl) (by rfl) (aX.cons trivial (aX.cons trivial (aX.cons trivial (aX.cons trivial aX.nil)))) aX.nil
def Ko(j:Nat):oP j<=67641472:=by unfold oP;split<;>decide
def WZ(s:Bytes)(k:Nat)(o:k<=s.length)(i:k<=4):∀(t j:Nat)(n:Int),4-j<=t->1<=j->j<=4-> -oP j<=n->n<=oP j-> ∃y H',dd 0 60 (bu 52 1) (oQ s k (.V n) (.V (j:Nat))) (T.bO 60 []) (.exit 2) (oQ s k (.V (iz s k t j n)) y) H'/\ -67641472<=iz s k t j n/\iz s k t j n<=67641472:=by
 have fin:∀(j:Nat)(n:Int),¬j<k-> -oP j<=n->n<=oP j-> ∃y H',dd 0 60 (bu 52 1) (oQ s k (.V n) (.V (j:Nat))) (T.bO 60 []) (.exit 2) (oQ s k (.V n) y) H'/\ -67641472<=n/\n<=67641472:=by intro j n h aN bx;have:=Ko j;obtain⟨e,a,Y,b,rfl,rfl⟩:=Kj j k s n 0 (λe a Y=>e=.exit 2/\a=oQ s k (.V n) (.V (j:Nat))) ⟨λY=>absurd A h,λ_=>⟨rfl,rfl⟩⟩;exact⟨_,_,b2.last au b,A,A⟩
 intro t;induction t with
 |zero=>intro j n Y ag c aN bx;exact fin j n A aN bx
 |succ t ih =>
  intro j n Y ag c aN bx;unfold iz;by_cases aj:j<k
  .rw [az aj];have l:=oN s j;have m:=Ko j;have f:((j:Int)+1)=((j+1:Nat):Int):= A
   have p:64*oP j+128<=oP (j+1):=by have:j=1\/j=2\/j=3:= A;rcases this with rfl|rfl|rfl<;>decide
   obtain⟨e,a,g,b,rfl,rfl⟩:=Kj j k s n (bV s j:Nat) (λe a Y=>e=.normal/\a=oQ s k (.V (n*64+bV s j-128)) (.V ((j:Int)+1))) ⟨λ_=>⟨⟨A,A⟩,j' A,⟨A,A⟩,⟨A,A⟩,⟨A,A⟩,⟨A,A⟩,rfl,rfl⟩,λh=>absurd A h⟩;obtain⟨y,H',d,cw,cy⟩:=ih (j+1) (n*64+bV s j-128) A A A A A;rw [f]at b;exact⟨y,H',b2.round b (Kn k s _ _ _) d,cw,cy⟩
  .rw [ai aj];exact fin j n aj aN bx
def gr(s:Bytes):List ev->Int×Int
 |[]=>(65533,1)
 |r::l=>if di s r=0 then gr s l else if di s r<r.n then(65533,(di s r:Nat))else(iz s (di s r) 3 1 ((bV s 0:Nat)- (r.off:Nat)),(di s r:Nat))
def Du(s:Bytes)(r:ev)(a:Nat)(b:r.n<=a\/s.length<=a):∀(t k:Nat),k<=a->fx s r t k<=a
 |0,k,h=>h
 |t +1,k,h=>by
  unfold fx;split
  .split
   .exact h
   .exact Du s r a b t (k+1) A
  .exact h
def Kp(s:Bytes)(r:ev)(Y:1<=r.n):di s r<=r.n/\di s r<=s.length:=by
 unfold di;split
 .exact⟨A,A⟩
 .exact⟨Du s r _ (.inl (Nat.le_refl _)) 4 1 Y,Du s r _ (.inr (Nat.le_refl _)) 4 1 A⟩
def Kq:∀i:Fin 9,1<=(dh[i.val]'(by exact i.isLt)).n/\(dh[i.val]'(by exact i.isLt)).n<=4/\(dh[i.val]'(by exact i.isLt)).off<=240:= aC
abbrev eg:aa:=aa.an (dh.map ev.v) 6 true
def yp(ah:i<9):eg.elem? 0 (0+i)=some ((dh[i]'ah).v):=by have a:i<(dh.map ev.v).length:=ah;simp [aa.elem?,aa.b6,aa.an,eg,a];exact⟨ah,_,ds ah,rfl⟩
def Kr{h:T}(ab:h.get 17=some eg)(ah:i<9):a6 (bi.D env) 120 ⟨17,0,0+Int.toNat (i:Nat),0,6⟩ h=some ((dh[i]'ah).v):=by have a:(bi.D env 120).map (λd=>(d.kind.isAgg,d.size))=some (true,6):= ao;obtain⟨x,Y,ag⟩:=cb.1 a;simp only [bC]at ag;unfold a6;rw [Y,ab,fS];simp only [yp ah,eK,ag.1,ag.2];simp [ev.v]
def Ks{h:T}(ab:h.get 17=some eg)(ah:i<9):a6 (bi.D env) 3 ⟨17,0,0+Int.toNat (i:Nat),2,6⟩ h=some (.V ((dh[i]'ah).n:Nat))/\a6 (bi.D env) 3 ⟨17,0,0+Int.toNat (i:Nat),5,6⟩ h=some (.V ((dh[i]'ah).off:Nat)):=by have a:(bi.D env 3).map (λd=>d.kind.isAgg)=some false:= ao;obtain⟨x,Y,ag⟩:=cb.1 a;unfold a6;rw [Y,ab,fS];simp only [yp ah,eK,ag];exact⟨by simp [ev.v],by simp [ev.v]⟩
abbrev oR(s:Bytes)(v:J):bc:=[(0,.str s),(4,.slice (some ⟨17,0,0,0,6⟩) 9 9),(5,v)]
def yq(s:Bytes)(i:Int)(h:T)(ab:h.get 17=some eg):bW 0 60 (oR s (.V i)) h (oR s (.V i)) (T.bO 60 [(17,eg)]):=by
 have aQ:T.rows 60 [(17,eg)]=T.bO 60 [(17,eg)]:= ao;rw [<-aQ]
 exact bW.drop (K:=60) (l:=[(17,eg)]) (by simp only [ei,hS,ab]) (by rfl) (by rfl) (by rfl) (aX.cons trivial (aX.cons (by simp [bR,Go.br.b3]) (aX.cons trivial aX.nil))) (aX.cons (by
  intro e he;obtain⟨r,_,rfl⟩:=dV.1 (show e∈dh.map ev.v from he)
  exact(b0.of rfl).dj _) aX.nil)
abbrev Kt(s:Bytes)(x:Int×Int):bc:=[(0,.str s),(2,.int .i32 x.1),(3,.int .i64 x.2)]
def Ku(s:Bytes)(i:Nat):Prop:= ∃H',
 (∃v,dd 0 60 (bu 52 0) (oR s (.int .i64 (i:Nat))) (T.bO 60 [(17,eg)]) (.exit 0) (oR s v) H'/\gr s (dh.drop i)=(65533,1)) \/
 ∃a,dd 0 60 (bu 52 0) (oR s (.int .i64 (i:Nat))) (T.bO 60 [(17,eg)]) .ret a H'/\bc.le (Kt s (gr s (dh.drop i))) a
def W0(s:Bytes)(hs:s≠[]):∀(t i:Nat),9-i<=t->i<=9->Ku s i:=by
 have hlen:0<s.length:=gk.2 hs
 have fin:∀i,i=9->Ku s i:=by intro i ah;obtain⟨e,a,Y,b,rfl,rfl⟩:=Km i 0 s eg 0 0 0 0 0 0 0 0 .undef ⟨0,.nil⟩ (λe a Y=>e=.exit 0/\a=oR s (.V (i:Nat))) ⟨λY=>absurd Y A,λ_=>⟨rfl,rfl⟩⟩;exact⟨_,.inl ⟨_,b2.last au b,by subst ah;rfl⟩⟩
 intro t;induction t with
 |zero=>exact λi Y ag=>fin i A
 |succ t ih =>
  intro i Y ag;by_cases aj:i<9
  .obtain⟨g,j,u⟩:=Kq ⟨i,aj⟩;simp only at g j u;have m:dh.drop i=dh[i]'aj::dh.drop (i+1):=ki aj;have I:=λ{n:Nat} =>Kr (h:=T.bO n [(17,eg)]) (i:=i)
   have o:a6 (bi.D env) 120 ⟨17,0,0+Int.toNat (i:Nat),0,6⟩ (T.bO 71 [(17,eg)])=some ((dh[i]'aj).v):=Kr rfl aj;have p:=(Ks (h:=T.bO 80 [(17,eg)]) rfl aj).1;have q:=(Ks (h:=T.bO 90 [(17,eg)]) rfl aj).2;generalize dh[i]'aj=r at g j u m o p q;obtain⟨f1,f2⟩:=Kp s r g;have C:=Kl r s j;have H:=oN s 0;have F:((i:Int)+1)=((i+1:Nat):Int):= A;have c:gr s (dh.drop i)=if di s r=0 then gr s (dh.drop (i+1))else if di s r<r.n then(65533,(di s r:Nat))else(iz s (di s r) 3 1 ((bV s 0:Nat)- (r.off:Nat)),(di s r:Nat)):=by rw [m];rfl
   obtain⟨y,H1,B,cw,cy⟩:=WZ s (di s r) f2 A 3 1 ((bV s 0:Nat)- (r.off:Nat)) A A A (by show-(256:Int)<=_;omega) (by show _<=(256:Int);omega);have x:=(cO.dn B).pre (show bW 0 60 _ (T.bO 91 [(17,eg)]) _ _ from Kn _ s _ 1 _)
   have E:∃e a Y,bN 0 60 (bu 52 0) (oR s (.V (i:Nat))) (T.bO 60 [(17,eg)]) e a Y/\((di s r=0/\e=.normal/\a=oR s (.V ((i:Int)+1))/\Y.get 17=some eg)\/(¬di s r=0/\e=.ret/\bc.le (Kt s (gr s (dh.drop i))) a)):=by
    refine Km i (di s r) s eg r.aD r.ah r.n r.df r.cS r.off (bV s 0:Nat) _ y H1 _
     ⟨λ_=>⟨⟨A,A⟩,o,⟨C _⟩,λz=>⟨⟨A,A⟩,.inl ⟨A,rfl,rfl,rfl⟩⟩,
      λz=>⟨⟨A,A⟩,p,λl=> .inr ⟨A,rfl,?_⟩,λl=>⟨j' (k:=0) hlen,⟨A,A⟩,⟨A,A⟩,q,⟨A,A⟩,x,⟨A,A⟩,.inr ⟨A,rfl,?_⟩⟩⟩⟩,λh=>absurd A h⟩
    .rw [c,ai A,az A];exact bc.qY [(0,.str s),(2,.av 65533),(3,.V (di s r:Nat)),(4,.slice (some ⟨17,0,0,0,6⟩) 9 9),(5,.V (i:Nat))] [0,2,3]
    .rw [c,ai A,ai A];exact λt v h=>h
   obtain⟨e,a,G,b,⟨z,rfl,rfl,ab⟩|⟨z,rfl,hle⟩⟩:=E
   .rw [F]at b;obtain⟨H',⟨v,d,f⟩|⟨w,d,f⟩⟩:=ih (i+1) A A
    .exact⟨H',.inl ⟨v,b2.round b (yq s _ _ ab) d,by rw [c,az z];exact f⟩⟩
    .exact⟨H',.inr ⟨w,b2.round b (yq s _ _ ab) d,by rw [c,az z];exact f⟩⟩
   .exact⟨_,.inr ⟨_,b2.last au b,hle⟩⟩
  .exact fin i A
def W1(hs:s≠[])(H:T):be 52 [.str s] H (.tuple [.av (gr s dh).1,.V (gr s dh).2]) H:=by
 have hlen:0<s.length:=gk.2 hs;have d:¬((s.length:Nat):Int)=0:= A;obtain⟨H',⟨v,c,a⟩|⟨e,c,a⟩⟩:=W0 s hs 9 0 A A
 .have b:=(cO.dn c).pre (show bW 0 60 _ (T.bO 20 [(17,eg)]) _ _ from yq s 0 _ rfl);have a:gr s dh=(65533,1):=a;rw [a];exact bj.bU (WX s H' v (λv _=>v=.tuple [.av 65533,.V 1]) ⟨λh=>absurd h d,λ_=>⟨b,rfl⟩⟩) rfl rfl H
 .have b:=((cO.dn c).pre (show bW 0 60 _ (T.bO 20 [(17,eg)]) _ _ from yq s 0 _ rfl)).post (bW.facts a);exact bj.bU (WY s H' _ _ (λv _=>v=.tuple [.av (gr s dh).1,.V (gr s dh).2]) ⟨λh=>absurd h d,λ_=>⟨b,rfl⟩⟩) rfl rfl H
def W2{r:ev}(h:bV s 0<r.aD\/r.ah<bV s 0):di s r=0:=by unfold di;rw [az (.inr h)]
abbrev qg:J:=J.slice (k1 13) 9 9
def Kv(a d:Nat)(c:Bytes)(b:aa)(j h f k i l:Int)(g:b8->bc->T->Prop)(n:((a:Int)<9->(0<=(a:Int)/\(a:Int)<9)/\a6 env.D 120 ⟨13,0,0+(a:Int).toNat,0,6⟩ (af 71 [(13,b)])=some ((j9 j h f k i l))/\bk 80 [.str c,(j9 j h f k i l)] (af 71 [(13,b)]) (.V d) (af 71 [(13,b)])/\(0<(d:Int)->((d:Int)=(↑(c.length):Int)->(0<=(a:Int)/\(a:Int)<9)/\a6 env.D 3 ⟨13,0,0+(a:Int).toNat,2,6⟩ (af 88 [(13,b)])=some (.V f)/\((d:Int)<f->g .ret [(0,.str c),(2,.aK),(3,qg),(4,.V a)] (af 89 [(13,b)]))/\(¬(d:Int)<f->(bd ((a:Int)+1))/\g .normal [(0,.str c),(3,qg),(4,.V ((a:Int)+1))] (af 91 [(13,b)])))/\(¬(d:Int)=(↑(c.length):Int)->(bd ((a:Int)+1))/\g .normal [(0,.str c),(3,qg),(4,.V ((a:Int)+1))] (af 91 [(13,b)])))/\(¬0<(d:Int)->(bd ((a:Int)+1))/\g .normal [(0,.str c),(3,qg),(4,.V ((a:Int)+1))] (af 91 [(13,b)])))/\(¬(a:Int)<9->g (.exit 0) [(0,.str c),(3,qg),(4,.V a)] (af 64 [(13,b)]))) :
 ∃e m Y,bN 0 36 (bu 92 0) [(0,.str c),(3,.slice (k1 13) 9 9),(4,.V (a:Nat))] (af 60 [(13,b)]) e m Y/\g e m Y :=
 dD c6 mixed bL (hs:= .al 3003 (ab 5003 (ap 5004 (qf j h f k i l) (ap 5005 (.V d) (.al 6001 (.al 6006 (ab 6012 (ap 6014 (.V f) (.al 6015 .nil (ab 4001 .nil)))) (ab 4001 .nil)) (ab 4001 .nil))))) .nil) (keep:=[0,2,3,4]) ao n
def W3(a:Bytes)(b:T)(c:aU)(d:bN 0 36 (Code.loop (bu 92 0)) [(0,.str a),(3,qg),(4,.V 0)] (af 16 [(13,aa.an [.agg [.V 0,.V 127,.V 1,.V 0,.V 0,.V 0],.agg [.V 194,.V 223,.V 2,.V 128,.V 191,.V 192],.agg [.V 224,.V 224,.V 3,.V 160,.V 191,.V 224],.agg [.V 225,.V 236,.V 3,.V 128,.V 191,.V 224],.agg [.V 238,.V 239,.V 3,.V 128,.V 191,.V 224],.agg [.V 237,.V 237,.V 3,.V 128,.V 159,.V 224],.agg [.V 240,.V 240,.V 4,.V 144,.V 191,.V 240],.agg [.V 241,.V 243,.V 4,.V 128,.V 191,.V 240],.agg [.V 244,.V 244,.V 4,.V 128,.V 143,.V 240]] 6 true)]) (.exit 0) [(0,.str a)] b/\c .aJ (bf b 1)) :
 bl 92 [.str a] bG c :=
 bm bL (he 1000<|.aG (.keep [0,3,4])<|.aG (.loop [(0,.str a)] b (.exit 0)) .nil) d
def W4(a:Bytes)(b:T)(c:aU)(d:bN 0 36 (Code.loop (bu 92 0)) [(0,.str a),(3,qg),(4,.V 0)] (af 16 [(13,aa.an [.agg [.V 0,.V 127,.V 1,.V 0,.V 0,.V 0],.agg [.V 194,.V 223,.V 2,.V 128,.V 191,.V 192],.agg [.V 224,.V 224,.V 3,.V 160,.V 191,.V 224],.agg [.V 225,.V 236,.V 3,.V 128,.V 191,.V 224],.agg [.V 238,.V 239,.V 3,.V 128,.V 191,.V 224],.agg [.V 237,.V 237,.V 3,.V 128,.V 159,.V 224],.agg [.V 240,.V 240,.V 4,.V 144,.V 191,.V 240],.agg [.V 241,.V 243,.V 4,.V 128,.V 191,.V 240],.agg [.V 244,.V 244,.V 4,.V 128,.V 143,.V 240]] 6 true)]) .ret [(0,.str a),(2,.aK)] b/\c .aK b) :
 bl 92 [.str a] bG c :=
 bm bL (he 1000<|.aG (.keep [0,3,4])<|.aG (.loop [(0,.str a),(2,.aK)] b .ret) .nil) d
abbrev Dv(a c b d:Int):b7:=(ap 2001 (.ac a)<|ap 2002 (bb c b d 0 0 []) .nil)
abbrev r4:T:=(af 11 [(0,bF)])
abbrev r5:T:=(af 17 [(0,bF)])
abbrev Dw(b a c:Int):T:=(af 17 [(0,(aL (nf b a c)))])
abbrev Dx(b a c:Int):J:=J.tuple [(nf b a c),.V 1,.V 0]
def W5(e:Bytes)(a c b d:Int)(f:aU)(g:c' env.D 9 (.str e) (.V 0)=some (.ac a)/\(a<32->bt env cr 10 (ba [(13,.tuple []),(10,.aK)]) r4 (Op.pick (Operand.tmp 10) (Operand.const (Value.bool true)) (Operand.tmp 13))=some (J.bool true,r4)/\c' env.D 9 (.str e) (.V 0)=some (.ac a)/\bk 62 [.ac a] r5 ((nf c b d)) r5/\f ((Dx c b d)) (Dw c b d))/\(¬a<32->c' env.D 9 (.str e) (.V 0)=some (.ac a)/\(a=127->bt env cr 10 (ba [(13,.aK),(10,.aJ)]) r4 (Op.pick (Operand.tmp 10) (Operand.const (Value.bool true)) (Operand.tmp 13))=some (J.bool true,r4)/\c' env.D 9 (.str e) (.V 0)=some (.ac a)/\bk 62 [.ac a] r5 ((nf c b d)) r5/\f ((Dx c b d)) (Dw c b d))/\(¬a=127->bt env cr 10 (ba [(13,.aJ),(10,.aJ)]) r4 (Op.pick (Operand.tmp 10) (Operand.const (Value.bool true)) (Operand.tmp 13))=some (J.bool true,r4)/\c' env.D 9 (.str e) (.V 0)=some (.ac a)/\bk 62 [.ac a] r5 ((nf c b d)) r5/\f ((Dx c b d)) (Dw c b d)))) :
 bl 66 [.str e] bG f :=
 bm bL (ap 1001 (.ac a)<|.al 1002 (ap 1007 .aK (Dv a c b d))<|ap 1005 (.ac a)<|.al 1006 (ap 1007 .aK (Dv a c b d))<|ap 1007 .aK (Dv a c b d)) g
def W6(b:Bytes)(a:Int)(c:aU)(d:c' env.D 9 (.str b) (.V 0)=some (.ac a)/\(bz (decide (a<32)))/\c' env.D 9 (.str b) (.V 0)=some (.ac a)/\(bz (a == 127))/\bk 92 [.str b] (af 13 [(0,bF)]) .aK (af 13 [(0,bF)])/\c (.tuple [fE,.V 0,.V 2]) (af 17 [(0,dk)])) :
 bl 66 [.str b] bG c :=
 bm bL (ap 1001 (.ac a)<|ap 1002 .aJ<|ap 1005 (.ac a)<|ap 1006 .aJ<|ap 3001 .aK .nil) d
abbrev yr(a:Int):J:=J.agg [.bA 1,.av a,.ac 0,.V 0,.V 0,.str []]
abbrev Kw(a:Bytes):J:=J.agg [.bA 7,.av 0,.ac 0,.V 0,.V 0,.str a]
def Kx(d b:Bytes)(e a c:Int)(f:aU)(g:c' env.D 9 (.str d) (.V 0)=some (.ac e)/\(bz (decide (e<32)))/\c' env.D 9 (.str d) (.V 0)=some (.ac e)/\(bz (e == 127))/\bk 92 [.str d] (af 13 [(0,bF)]) .aJ (af 13 [(0,bF)])/\bk 52 [.str d] (af 20 [(0,bF)]) (.tuple [.av a,.V c]) (af 20 [(0,bF)])/\(a=65533->dW env.D 9 (.str d) none (some (.V c)) none=some (J.str b)/\(b=[(239:UInt8),191,189]->f (.tuple [(yr a),.V c,.V 0]) (af 34 [(0,(aL (yr a)))]))/\(¬b=[(239:UInt8),191,189]->dW env.D 9 (.str d) none (some (.V c)) none=some (J.str b)/\f (.tuple [(Kw b),.V c,.V 0]) (af 36 [(0,(aL (Kw b)))])))/\(¬a=65533->f (.tuple [(yr a),.V c,.V 0]) (af 34 [(0,(aL (yr a)))]))) :
 bl 66 [.str d] bG f :=
 bm bL (ap 1001 (.ac e)<|ap 1002 .aJ<|ap 1005 (.ac e)<|ap 1006 .aJ<|ap 3001 .aJ<|ap 5001 (.tuple [.av a,.V c])<|.al 6001 (ap 6005 (.str b) (.al 6006 .nil (ap 7002 (.str b) .nil))) .nil) g
abbrev e8:J:=J.agg [.bA 7,.av 0,.ac 0,.V 0,.V 0,.str []]
abbrev bE:aa:=(aL e8)
def W7(a b:Int)(c:aU)(d:(a=13->c ((tW b)) (af 7 [(0,(aL (tW b)))]))/\(¬a=13->(a=9->c ((tX b)) (af 9 [(0,(aL (tX b)))]))/\(¬a=9->(a=127->c ((tY b)) (af 11 [(0,(aL (tY b)))]))/\(¬a=127->(a=27->c ((tZ b)) (af 13 [(0,(aL (tZ b)))]))/\(¬a=27->(a<32->c (e8) (af 24 [(0,bE)]))/\(¬a<32->(1114111<a->c (e8) (af 24 [(0,bE)]))/\(¬1114111<a->(cf a)/\(0<=a->(a<=1114111->(a<55296->(cf a)/\c ((eN a b)) (af 43 [(0,(l9 a b))]))/\(¬a<55296->(57343<a->(cf a)/\c ((eN a b)) (af 43 [(0,(l9 a b))]))/\(¬57343<a->c (e8) (af 40 [(0,bE)]))))/\(¬a<=1114111->c (e8) (af 40 [(0,bE)])))/\(¬0<=a->c (e8) (af 40 [(0,bE)]))))))))) :
 bl 113 [.V a,.ac b] bG c :=
 bm bL (.al 2000 .nil<|.al 4000 .nil<|.al 6000 .nil<|.al 8000 .nil<|.al 10001 .nil<|.al 10004 .nil<|ab 10008<|he 10009<|.al 1001 (.al 1004 (.al 1008 (ab 12001 .nil) (.al 1011 (ab 12001 .nil) .nil)) .nil) .nil) d
def W8(a:Int)(b:aU)(c:(65=a->b (.av 5) (af 26 [(1,aa.an [.av 5,.av 6,.av 7,.av 8,.av 9,.av 10] 1 true)]))/\(¬65=a->(66=a->b (.av 6) (af 38 [(1,aa.an [.av 5,.av 6,.av 7,.av 8,.av 9,.av 10] 1 true)]))/\(¬66=a->(67=a->b (.av 7) (af 50 [(1,aa.an [.av 5,.av 6,.av 7,.av 8,.av 9,.av 10] 1 true)]))/\(¬67=a->(68=a->b (.av 8) (af 62 [(1,aa.an [.av 5,.av 6,.av 7,.av 8,.av 9,.av 10] 1 true)]))/\(¬68=a->(72=a->b (.av 9) (af 74 [(1,aa.an [.av 5,.av 6,.av 7,.av 8,.av 9,.av 10] 1 true)]))/\(¬72=a->(70=a->b (.av 10) (af 86 [(1,aa.an [.av 5,.av 6,.av 7,.av 8,.av 9,.av 10] 1 true)]))/\(¬70=a->b (.av 0) (af 88 [(1,aa.an [.av 5,.av 6,.av 7,.av 8,.av 9,.av 10] 1 true)])))))))) :
 bl 64 [.ac a] bG b :=
 bm bL (he 2001<|.aG (.rounds 300)<|.al 4004 .nil<|.al 4004 .nil<|.al 4004 .nil<|.al 4004 .nil<|.al 4004 .nil<|.al 4004 .nil .nil) c
def W9(a:Int)(b:aU)(c:(a=1->b (.av 9) (af 5 []))/\(¬a=1->(a=7->b (.av 9) (af 7 []))/\(¬a=7->(a=2->b (.av 11) (af 9 []))/\(¬a=2->(a=3->b (.av 12) (af 11 []))/\(¬a=3->(a=4->b (.av 10) (af 13 []))/\(¬a=4->(a=8->b (.av 10) (af 15 []))/\(¬a=8->(a=5->b (.av 13) (af 17 []))/\(¬a=5->(a=6->b (.av 14) (af 19 []))/\(¬a=6->(11=a->b (.av 21) (af 35 [(18,aa.an [.V 11,.V 12,.V 13,.V 14,.V 15,.V 17,.V 18,.V 19,.V 20,.V 21,.V 23,.V 24] 1 true)]))/\(¬11=a->(12=a->b (.av 22) (af 48 [(18,aa.an [.V 11,.V 12,.V 13,.V 14,.V 15,.V 17,.V 18,.V 19,.V 20,.V 21,.V 23,.V 24] 1 true)]))/\(¬12=a->(13=a->b (.av 23) (af 61 [(18,aa.an [.V 11,.V 12,.V 13,.V 14,.V 15,.V 17,.V 18,.V 19,.V 20,.V 21,.V 23,.V 24] 1 true)]))/\(¬13=a->(14=a->b (.av 24) (af 74 [(18,aa.an [.V 11,.V 12,.V 13,.V 14,.V 15,.V 17,.V 18,.V 19,.V 20,.V 21,.V 23,.V 24] 1 true)]))/\(¬14=a->(15=a->b (.av 25) (af 87 [(18,aa.an [.V 11,.V 12,.V 13,.V 14,.V 15,.V 17,.V 18,.V 19,.V 20,.V 21,.V 23,.V 24] 1 true)]))/\(¬15=a->(17=a->b (.av 26) (af 100 [(18,aa.an [.V 11,.V 12,.V 13,.V 14,.V 15,.V 17,.V 18,.V 19,.V 20,.V 21,.V 23,.V 24] 1 true)]))/\(¬17=a->(18=a->b (.av 27) (af 113 [(18,aa.an [.V 11,.V 12,.V 13,.V 14,.V 15,.V 17,.V 18,.V 19,.V 20,.V 21,.V 23,.V 24] 1 true)]))/\(¬18=a->(19=a->b (.av 28) (af 126 [(18,aa.an [.V 11,.V 12,.V 13,.V 14,.V 15,.V 17,.V 18,.V 19,.V 20,.V 21,.V 23,.V 24] 1 true)]))/\(¬19=a->(20=a->b (.av 29) (af 139 [(18,aa.an [.V 11,.V 12,.V 13,.V 14,.V 15,.V 17,.V 18,.V 19,.V 20,.V 21,.V 23,.V 24] 1 true)]))/\(¬20=a->(21=a->b (.av 30) (af 152 [(18,aa.an [.V 11,.V 12,.V 13,.V 14,.V 15,.V 17,.V 18,.V 19,.V 20,.V 21,.V 23,.V 24] 1 true)]))/\(¬21=a->(23=a->b (.av 31) (af 165 [(18,aa.an [.V 11,.V 12,.V 13,.V 14,.V 15,.V 17,.V 18,.V 19,.V 20,.V 21,.V 23,.V 24] 1 true)]))/\(¬23=a->(24=a->b (.av 32) (af 178 [(18,aa.an [.V 11,.V 12,.V 13,.V 14,.V 15,.V 17,.V 18,.V 19,.V 20,.V 21,.V 23,.V 24] 1 true)]))/\(¬24=a->b (.av 0) (af 182 [(18,aa.an [.V 11,.V 12,.V 13,.V 14,.V 15,.V 17,.V 18,.V 19,.V 20,.V 21,.V 23,.V 24] 1 true)])))))))))))))))))))))) :
 bl 65 [.V a] bG b :=
 bm bL (.al 2000 .nil<|.al 3000 .nil<|.al 5000 .nil<|.al 7000 .nil<|.al 9000 .nil<|.al 10000 .nil<|.al 12000 .nil<|.al 14000 .nil<|.aG (.rounds 300)<|.al 20005 .nil<|.al 20005 .nil<|.al 20005 .nil<|.al 20005 .nil<|.al 20005 .nil<|.al 20005 .nil<|.al 20005 .nil<|.al 20005 .nil<|.al 20005 .nil<|.al 20005 .nil<|.al 20005 .nil<|.al 20005 .nil .nil) c
end Go.Proofs.zz
namespace Go.Proofs.zz
open Go.br Go.Keys
open Go.Lib
variable {i k m n q u:Nat}
def mc{t:Bytes}(h:n<=t.length):dW (bi.D env) 9 (.str t) none (some (.V (n:Nat))) none=some (.str (t.take n))/\dW (bi.D env) 9 (.str t) (some (.V (n:Nat))) none none=some (.str (t.drop n)):=by
 have a:(bi.D env 9).map (λd=>d.kind)=some .string:= ao;obtain⟨x,Y,ag⟩:=cb.1 a;unfold dW;rw [Y];simp only [ag];constructor
 .simp [eI,h]
 .simp [eI,h]
def hf(s:Bytes)(r:ev):Bool:=Nat.blt 0 (di s r)&&Nat.beq (di s r) s.length&&Nat.blt (di s r) r.n
def ka(s:Bytes):List ev->Bool
 |[]=>false
 |r::l=>_root_.cond (hf s r) true (ka s l)
abbrev oS(s:Bytes)(v:J):bc:=[(0,.str s),(3,.slice (some ⟨13,0,0,0,6⟩) 9 9),(4,v)]
def Ky{h:T}(ab:h.get q=some eg)(ah:i<9):a6 (bi.D env) 120 ⟨q,0,0+Int.toNat (i:Nat),0,6⟩ h=some ((dh[i]'ah).v)/\a6 (bi.D env) 3 ⟨q,0,0+Int.toNat (i:Nat),2,6⟩ h=some (.V ((dh[i]'ah).n:Nat)):=by
 have c:(bi.D env 120).map (λd=>(d.kind.isAgg,d.size))=some (true,6):= ao;obtain⟨x,Y,ag⟩:=cb.1 c;simp only [bC]at ag;have e:(bi.D env 3).map (λd=>d.kind.isAgg)=some false:= ao;obtain⟨bD,a,b⟩:=cb.1 e;constructor
 .unfold a6;rw [Y,ab,fS];simp only [yp ah,eK,ag.1,ag.2];simp [ev.v]
 .unfold a6;rw [a,ab,fS];simp only [yp ah,eK,b];simp [ev.v]
def yt(s:Bytes)(i:Int)(h:T)(ab:h.get 13=some eg):bW 0 36 (oS s (.V i)) h (oS s (.V i)) (T.bO 60 [(13,eg)]):=by
 have aQ:T.rows 60 [(13,eg)]=T.bO 60 [(13,eg)]:= ao;rw [<-aQ]
 exact bW.drop (K:=60) (l:=[(13,eg)]) (by simp only [ei,hS,ab]) (by rfl) (by rfl) (by rfl) (aX.cons trivial (aX.cons (by simp [bR,Go.br.b3]) (aX.cons trivial aX.nil))) (aX.cons (by
  intro e he;obtain⟨r,_,rfl⟩:=dV.1 (show e∈dh.map ev.v from he)
  exact(b0.of rfl).dj _) aX.nil)
def Kz(s:Bytes)(i:Nat):Prop:= ∃H',
 (∃v,dd 0 36 (bu 92 0) (oS s (.int .i64 (i:Nat))) (T.bO 60 [(13,eg)]) (.exit 0) (oS s v) H'/\ka s (dh.drop i)=false) \/
 ∃a,dd 0 36 (bu 92 0) (oS s (.int .i64 (i:Nat))) (T.bO 60 [(13,eg)]) .ret a H'/\bc.le [(0,.str s),(2,.bool true)] a/\ka s (dh.drop i)=true
def W'(s:Bytes):∀(t i:Nat),9-i<=t->i<=9->Kz s i:=by
 have fin:∀i,i=9->Kz s i:=by intro i ah;obtain⟨e,d,Y,f,rfl,rfl⟩:=Kv i 0 s eg 0 0 0 0 0 0 (λe d Y=>e=.exit 0/\d=oS s (.V (i:Nat))) ⟨λY=>absurd Y A,λ_=>⟨rfl,rfl⟩⟩;exact⟨_,.inl ⟨_,b2.last au f,by subst ah;rfl⟩⟩
 intro t;induction t with
 |zero=>exact λi Y ag=>fin i A
 |succ t ih =>
  intro i Y ag;by_cases aj:i<9
  .obtain⟨w,m,x⟩:=Kq ⟨i,aj⟩;simp only at w m x;have o:dh.drop i=dh[i]'aj::dh.drop (i+1):=ki aj;have p:=(Ky (q:=13) (h:=T.bO 71 [(13,eg)]) rfl aj).1;have u:=(Ky (q:=13) (h:=T.bO 88 [(13,eg)]) rfl aj).2;generalize dh[i]'aj=r at w m x o p u;have B:=Kl r s m;have D:((i:Int)+1)=((i+1:Nat):Int):= A;have l:ka s (dh.drop i)=_root_.cond (hf s r) true (ka s (dh.drop (i+1))):=by rw [o];rfl
   have E:0<di s r->di s r=s.length->di s r<r.n->hf s r=true:=by intro a b c;simp only [hf,cC,eG,jC];exact⟨⟨a,b⟩,c⟩
   have g:¬(0<di s r/\di s r=s.length/\di s r<r.n)->hf s r=false:=by intro h;rw [gL];intro q;simp only [hf,cC,eG,jC]at q;exact h ⟨q.1.1,q.1.2,q.2⟩
   have C:∃e d Y,bN 0 36 (bu 92 0) (oS s (.V (i:Nat))) (T.bO 60 [(13,eg)]) e d Y/\((hf s r=false/\e=.normal/\d=oS s (.V ((i:Int)+1))/\Y.get 13=some eg)\/(hf s r=true/\e=.ret/\bc.le [(0,.str s),(2,.bool true)] d)):=by
    refine Kv i (di s r) s eg r.aD r.ah r.n r.df r.cS r.off _
     ⟨λ_=>⟨⟨A,A⟩,p,⟨B _⟩,λa=>⟨λb=>⟨⟨A,A⟩,u,λc=> .inr ⟨E A A A,rfl,?_⟩,λc=>⟨⟨A,A⟩,.inl ⟨g A,rfl,rfl,rfl⟩⟩⟩,
      λb=>⟨⟨A,A⟩,.inl ⟨g A,rfl,rfl,rfl⟩⟩⟩,λa=>⟨⟨A,A⟩,.inl ⟨g A,rfl,rfl,rfl⟩⟩⟩,λh=>absurd A h⟩
    exact bc.qY [(0,.str s),(2,.bool true),(3,.slice (some ⟨13,0,0,0,6⟩) 9 9),(4,.V (i:Nat))] [0,2]
   obtain⟨e,d,F,f,⟨z,rfl,rfl,ab⟩|⟨z,rfl,hle⟩⟩:=C
   .rw [D]at f;obtain⟨H',⟨v,j,k⟩|⟨y,j,k,he⟩⟩:=ih (i+1) A A
    .exact⟨H',.inl ⟨v,b2.round f (yt s _ _ ab) j,by rw [l,z];exact k⟩⟩
    .exact⟨H',.inr ⟨y,b2.round f (yt s _ _ ab) j,k,by rw [l,z];exact he⟩⟩
   .exact⟨_,.inr ⟨_,b2.last au f,hle,by rw [l,z];rfl⟩⟩
  .exact fin i A
def KA(s:Bytes)(H:T):be 92 [.str s] H (.bool (ka s dh)) H:=by
 obtain⟨H',⟨v,c,a⟩|⟨d,c,a,he⟩⟩:=W' s 9 0 A A
 .have a:ka s dh=false:=a;have b:=((cO.dn c).pre (show bW 0 36 _ (T.bO 16 [(13,eg)]) _ _ from yt s 0 _ rfl)).post (bW.facts (bc.qY _ [0]));rw [a];exact bj.bU (W3 s H' (λv _=>v=.bool false) ⟨b,rfl⟩) rfl rfl H
 .have he:ka s dh=true:=he;have b:=((cO.dn c).pre (show bW 0 36 _ (T.bO 16 [(13,eg)]) _ _ from yt s 0 _ rfl)).post (bW.facts a);rw [he];exact bj.bU (W4 s H' (λv _=>v=.bool true) ⟨b,rfl⟩) rfl rfl H
def Dy(c:Nat)(H:T):be 64 [.ac (c:Nat)] H (.av (Keys.dJ c)) H:=by
 refine bj.bU (W8 (c:Nat) (λv _=>v=.av (Keys.dJ c)) ⟨λh=> ?_,λY=>⟨λh=> ?_,λag=>⟨λh=> ?_,λa=>⟨λh=> ?_,λb=>⟨λh=> ?_,λd=>⟨λh=> ?_,λe=> ?_⟩⟩⟩⟩⟩⟩) rfl rfl H
 .obtain rfl:c=65:= A;rfl
 .obtain rfl:c=66:= A;rfl
 .obtain rfl:c=67:= A;rfl
 .obtain rfl:c=68:= A;rfl
 .obtain rfl:c=72:= A;rfl
 .obtain rfl:c=70:= A;rfl
 .unfold Keys.dJ;rw [ai A,ai A,ai A]
def Xa(n:Nat)(H:T):be 65 [.V (n:Nat)] H (.av (Keys.gQ n)) H:=by
 have t:∀k:Nat,n=k-> ∀z:Int,Keys.gQ k=z->(J.av z:J)=.av (Keys.gQ n):=λk e z h=>by rw [e,h]
 refine bj.bU (W9 (n:Nat) (λv _=>v=.av (Keys.gQ n)) ⟨λh=>t 1 A _ rfl,λY=>⟨λh=>t 7 A _ rfl,λag=>⟨λh=>t 2 A _ rfl,λp=>⟨λh=>t 3 A _ rfl,λq=>⟨λh=>t 4 A _ rfl,λr=>⟨λh=>t 8 A _ rfl,λs=>⟨λh=>t 5 A _ rfl,λu=>⟨λh=>t 6 A _ rfl,
  λw=>⟨λh=>t 11 A _ rfl,λx=>⟨λh=>t 12 A _ rfl,λa=>⟨λh=>t 13 A _ rfl,λb=>⟨λh=>t 14 A _ rfl,λc=>⟨λh=>t 15 A _ rfl,λd=>⟨λh=>t 17 A _ rfl,λf=>⟨λh=>t 18 A _ rfl,λg=>⟨λh=>t 19 A _ rfl,λi=>⟨λh=>t 20 A _ rfl,λj=>⟨λh=>t 21 A _ rfl,λl=>⟨λh=>t 23 A _ rfl,λm=>⟨λh=>t 24 A _ rfl,λo=> ?_⟩⟩⟩⟩⟩⟩⟩⟩⟩⟩⟩⟩⟩⟩⟩⟩⟩⟩⟩⟩) rfl rfl H
 unfold Keys.gQ;rw [ai A,ai A,ai A,ai A,ai A,ai A,ai A]
def me(c:Nat)(m:Int):aP:=(Keys.c1 c m).getD (dc [])
def Xb(c m:Nat)(H:T):be 113 [.V (c:Nat),.ac (m:Nat)] H (bp (me c m)) H:=by
 have bad:c≠13->c≠9->c≠127->c≠27->shown (c:Nat)=false->me c m=dc []:=by intro Y ag b d a;unfold me Keys.c1;rw [ai Y,ai ag,ai b,ai d,az (.inr a)];rfl
 have i:c≠13->c≠9->c≠127->c≠27->shown (c:Nat)=true->me c m=eb c m:=by
  intro Y ag b d a
  have p:¬(2097152<c\/shown (c:Nat)=false):=by
   rintro (h|h)
   .simp [shown]at a;omega
   .rw [h]at a;cases a
  unfold me Keys.c1;rw [ai Y,ai ag,ai b,ai d,ai p];rfl
 have g:¬(32<=c/\c≠127/\c<=1114111/\(c<55296\/57343<c))->shown (c:Nat)=false:=by intro h;rw [gL];intro q;apply h;simp [shown]at q;omega
 have ff:32<=c->c≠127->c<=1114111->(c<55296\/57343<c)->shown (c:Nat)=true:=by intro Y ag b d;simp [shown];omega
 have f:∀k:Nat,k=13\/k=9\/k=127\/k=27->c=k-> ∀z:Int,Keys.c1 k m=some (dp z m)->(bb 2 z (m:Nat) 0 0 [])=bp (me c m):=λk _ e z h=>by rw [e];unfold me;rw [h];rfl
 refine bj.bU (W7 (c:Nat) (m:Nat) (λv _=>v=bp (me c m)) ⟨λh=>f 13 (.inl rfl) A _ rfl,λY=>⟨λh=>f 9 (.inr (.inl rfl)) A _ rfl,λag=>⟨λh=>f 127 (.inr (.inr (.inl rfl))) A _ rfl,λb=>⟨λh=>f 27 (.inr (.inr (.inr rfl))) A _ rfl,
  λd=>⟨λh=>by rw [bad A A A A (g A)];rfl,λa=>⟨λh=>by rw [bad A A A A (g A)];rfl,λr=>⟨⟨A,A⟩,λj=>⟨λl=>⟨λo=>⟨⟨A,A⟩,by rw [i A A A A (ff A A A A)];rfl⟩,
   λo=>⟨λn=>⟨⟨A,A⟩,by rw [i A A A A (ff A A A A)];rfl⟩,λn=>by rw [bad A A A A (g A)];rfl⟩⟩,λl=>absurd A l⟩,λj=>absurd A j⟩⟩⟩⟩⟩⟩⟩) rfl rfl H
def mf(c:Nat):aP:=if c=127 then⟨2,3,0,0,0,[]⟩else rZ c
def Xc:(match hY Tryz.prog env 100 62 [.ac 127] ⟨0,.nil⟩with|some (v,_)=>J.jd [v] [bb 2 3 0 0 0 []]|none=>false)=true:=by decide+kernel
def Xd{c:Nat}(aj:c<32\/c=127)(H:T):be 62 [.ac (c:Nat)] H (bp (mf c)) H:=by
 unfold mf;rcases aj with h|rfl
 .rw [ai A];exact JM h H
 .rw [az rfl];have h:=Xc;split at h
  .rename_i v Z b;have:=J.mC h;simp only [fJ,hE]at this;subst this;rw [mF]at b;exact(bj.lG c6 mixed b).bare (by intro a d;rw [cF.1 d];exact b0.int _ _) (b0.of rfl) H
  .cases h
def Xe{c:Nat}(aj:c<32\/c=127)(a:c≠27):mf c=Keys.control c:=by have:∀i:Fin 128,(i.val<32\/i.val=127)->i.val≠27->mf i.val=Keys.control i.val:= aC;exact this ⟨c,A⟩ aj a
def yu(s:Bytes):aP×Int×Int :=
 if bV s 0<32\/bV s 0=127 then(mf (bV s 0),1,0)
 else if ka s dh=true then(⟨0,0,0,0,0,[]⟩,0,2)
 else if(gr s dh).1=65533/\s.take (gr s dh).2.toNat≠[239,191,189]then(dc (s.take (gr s dh).2.toNat),(gr s dh).2,0)
 else(eb (gr s dh).1,(gr s dh).2,0)
variable {s:Bytes}
def KB(hs:0<s.length):∀l:List ev,(∀r∈l,1<=r.n)-> ∃n:Nat,(gr s l).2=n/\1<=n/\n<=s.length
 |[],_=>⟨1,rfl,A,hs⟩
 |r ::l,h=>by
  unfold gr;have:=Kp s r (h r au);split
  .exact KB hs l λx a=>h x (by simp [a])
  .split
   .exact⟨di s r,rfl,A,this.2⟩
   .exact⟨di s r,rfl,A,this.2⟩
def Xf:∀r∈dh,1<=r.n:= aC
abbrev iA(x:aP×Int×Int):J:= .tuple [bp x.1,.int .i64 x.2.1,.int .i64 x.2.2]
def KC(hs:s≠[])(H:T):be 66 [.str s] H (iA (yu s)) H:=by
 have hlen:0<s.length:=gk.2 hs;have j:=oN s 0;have a0:c' (bi.D env) 9 (.str s) (.V 0)=some (.ac (bV s 0:Nat)):=j' (k:=0) hlen;unfold yu;by_cases Y:bV s 0<32\/bV s 0=127
 .rw [az Y];have f:=Xd Y
  have g:(mf (bV s 0)).x=0/\(mf (bV s 0)).y=0/\(mf (bV s 0)).text=[]:=by
   unfold mf rZ
   repeat' split
   all_goals exact⟨rfl,rfl,rfl⟩
  generalize mf (bV s 0)=e at f g;obtain⟨k,c,m,x,y,t⟩:=e;simp only at g;obtain⟨rfl,rfl,rfl⟩:=g;exact bj.bU (W5 s (bV s 0:Nat) k c m (λv _=>v=iA (⟨k,c,m,0,0,[]⟩,1,0)) ⟨a0,λh=>⟨ao,a0,⟨f _⟩,rfl⟩,λh=>⟨a0,λe=>⟨ao,a0,⟨f _⟩,rfl⟩,λe=>absurd Y A⟩⟩) rfl rfl H
 .rw [ai Y];by_cases ag:ka s dh=true
  .rw [az ag];have a:=KA s;rw [ag]at a;exact bj.bU (W6 s (bV s 0:Nat) (λv _=>v=iA (⟨0,0,0,0,0,[]⟩,0,2)) ⟨a0,by simp;omega,a0,by simp;omega,⟨a _⟩,rfl⟩) rfl rfl H
  .rw [ai ag];have a:=KA s;rw [gL.2 ag]at a;obtain⟨n,aw,l,n2⟩:=KB hlen dh Xf;have d:=W1 hs;have i:=(mc n2).1;rw [aw,fS];rw [aw]at d;generalize (gr s dh).1=r at d;by_cases b:r=65533/\s.take n≠[239,191,189]
   .rw [az b];exact bj.bU (Kx s (s.take n) (bV s 0:Nat) r (n:Nat) (λv _=>v=iA (dc (s.take n),(n:Nat),0)) ⟨a0,by simp;omega,a0,by simp;omega,⟨a _⟩,⟨d _⟩,λe=>⟨i,λq=>absurd q b.2,λ_=>⟨i,rfl⟩⟩,λq=>absurd b.1 q⟩) rfl rfl H
   .rw [ai b];exact bj.bU (Kx s (s.take n) (bV s 0:Nat) r (n:Nat) (λv _=>v=iA (eb r,(n:Nat),0)) ⟨a0,by simp;omega,a0,by simp;omega,⟨a _⟩,⟨d _⟩,λe=>⟨i,λq=>rfl,λq=>absurd ⟨e,q⟩ b⟩,λq=>rfl⟩) rfl rfl H
abbrev kb(l:List J)(v w f:Nat):aa:= {bg:=l,es:=1,exact:=false,ro:=false,ad:=v,eH:=w,fo:=f,ty:=some (3,0)}
abbrev r6:J:=J.slice (b5 50) 1 1
abbrev Dz(a:Int):aa:=(aa.an ([.V a]) 1 true)
abbrev Xg:b7:=(ab 12014<|ab 12015<|ab 12016<|ab 13001<|ab 7001 .nil)
abbrev yv(a:Int):T:=(af 88 [(50,(Dz a))])
abbrev Xh(a:Int):b7:=(.al 11008 (.al 11012 (ab 12010 (ap 12013 (.ac a) Xg)) .nil) .nil)
abbrev Xi(e:Bytes)(b c:Nat)(a d:Int)(f:b8->bc->T->Prop):Prop:=((c:Int)<9->(bd (10*d))/\c' env.D 9 (.str e) (.V b)=some (.ac a)/\(0<=a-48/\a-48<=255)/\(bd (a-48))/\(bd (10*d+(a-48)))/\(bd ((c:Int)+1))/\(bd ((b:Int)+1))/\f .normal [(0,.str e),(4,r6),(5,.V ((c:Int)+1)),(6,.V ((b:Int)+1))] (af 111 [(50,(aa.an ([.V (10*d+(a-48))]) 1 true))]))
abbrev KD(a:Int):b7:=(ap 11002 (.ac a)<|.al 11003 (ap 11007 (.ac a) (Xh a)) .nil)
abbrev Xj(d:Bytes)(c a:Nat)(e:Int)(b:b8->bc->T->Prop):Prop:=(¬(a:Int)<9->b .ret [(0,.str d),(2,.slice none 0 0),(3,.aJ),(4,r6),(5,.V a),(6,.V c)] (yv e))
abbrev KE(c:Bytes)(b e:Nat)(a f:Int)(d:b8->bc->T->Prop):Prop:=(48<=a->c' env.D 9 (.str c) (.V b)=some (.ac a)/\(a<=57->(Xi c b e a f d)/\(Xj c b e f d))/\(¬a<=57->d .ret [(0,.str c),(2,.slice none 0 0),(3,.aJ),(4,r6),(5,.V e),(6,.V b)] (yv f)))
def KF(c:Bytes)(a d:Nat)(b f:Int)(g:b8->bc->T->Prop)(i:((a:Int)<(↑(c.length):Int)->c' env.D 9 (.str c) (.V a)=some (.ac b)/\(b=59->(0<(d:Int)->(bd ((a:Int)+1))/\g .normal [(0,.str c),(4,.slice (b5 74) 2 2),(5,.V 0),(6,.V ((a:Int)+1))] (af 80 [(50,(Dz f)),(73,aa.an [.V 0] 1 true),(74,aa.an [.V f,.V 0] 1 false (some (3,0)))]))/\(¬0<(d:Int)->c' env.D 9 (.str c) (.V a)=some (.ac b)/\(KE c a d b f g)/\(¬48<=b->g .ret [(0,.str c),(2,.slice none 0 0),(3,.aJ),(4,r6),(5,.V d),(6,.V a)] (yv f))))/\(¬b=59->c' env.D 9 (.str c) (.V a)=some (.ac b)/\(KE c a d b f g)/\(¬48<=b->g .ret [(0,.str c),(2,.slice none 0 0),(3,.aJ),(4,r6),(5,.V d),(6,.V a)] (yv f))))/\(¬(a:Int)<(↑(c.length):Int)->g (.exit 0) [(0,.str c),(4,r6),(5,.V d),(6,.V a)] (af 64 [(50,(Dz f))]))) :
 ∃e h Y,bN 0 64 (bu 111 0) [(0,.str c),(4,.slice (b5 50) 1 1),(5,.V (d:Nat)),(6,.V (a:Nat))] (T.rows 60 [(50,aa.an [.V f] 1 true)]) e h Y/\g e h Y :=
 dD c6 mixed bL (hs:= .al 6003 (ap 8002 (.ac b) (.al 8003 (.al 8006 (ab 7001 .nil) (KD b)) (KD b))) .nil) (keep:=[0,2,3,4,5,6]) ao i
abbrev r7(b a:Nat):J:=J.aB 50 b 0 a a
abbrev qh(b:List J)(c d a:Nat):aa:=⟨b,1,false,false,c,d,a,some (3,0)⟩
abbrev KG(c:List J)(a b:Nat):aa:=⟨c,1,false,false,a,a,b,some (3,0)⟩
noncomputable abbrev Xk(l2:List J)(v f:Nat):b7:=(ab 12016 (ab 12017 (.aG (.act 12018 .bZ λh=>T.set h 50 (kb l2 v v f)) (ab 13001 (ab 7001 .nil)))))
noncomputable abbrev Xl(b x:Int)(l2:List J)(v f:Nat):b7:=(ab 12008 (ap 12009 (.V x) (ab 12010 (ap 12013 (.ac b) (ab 12014 (ab 12015 (Xk l2 v f)))))))
abbrev Xm(j:Bytes)(f g:Nat)(c e:Int)(h i:List J)(b k d a:Nat)(l:b8->bc->T->Prop):Prop:=((g:Int)<9->(bd ((a:Int)-1))/\(bd ((a:Int)-1))/\(0<=(a:Int)-1/\(a:Int)-1<(a:Int))/\a6 env.D 3 ⟨50,b,0+((a:Int)-1).toNat,0,1⟩ (af 105 [(50,(qh h b k d))])=some (.V e)/\(bd (10*e))/\c' env.D 9 (.str j) (.V f)=some (.ac c)/\(0<=c-48/\c-48<=255)/\(bd (c-48))/\(bd (10*e+(c-48)))/\(0<=(a:Int)-1/\(a:Int)-1<(a:Int))/\bt env cr 104 (ba [(58,.ptr (some ⟨50,b,0+((a:Int)-1).toNat,0,1⟩)),(57,.V (10*e+(c-48)))]) (af 105 [(50,(qh h b k d))]) (Op.store 3 (Operand.tmp 58) (Operand.tmp 57))=some (J.tuple [],(af 105 [(50,(KG i b d))]))/\(bd ((g:Int)+1))/\(bd ((f:Int)+1))/\l .normal [(0,.str j),(4,(r7 b a)),(5,.V ((g:Int)+1)),(6,.V ((f:Int)+1))] (af 111 [(50,(KG i b d))]))
noncomputable abbrev KH(b x:Int)(l2:List J)(v f:Nat):b7:=(ap 11002 (.ac b) (.al 11003 (ap 11007 (.ac b) (.al 11008 (.al 11012 (ab 12003 (ab 12007 (Xl b x l2 v f))) .nil) .nil)) .nil))
abbrev KI(d:Bytes)(c e:Nat)(a l:Int)(h k:List J)(b j g i:Nat)(f:b8->bc->T->Prop):Prop:=(48<=a->c' env.D 9 (.str d) (.V c)=some (.ac a)/\(a<=57->(Xm d c e a l h k b j g i f)/\(¬(e:Int)<9->f .ret [(0,.str d),(2,.slice none 0 0),(3,.aJ),(4,(r7 b i)),(5,.V e),(6,.V c)] (af 88 [(50,(qh h b j g))])))/\(¬a<=57->f .ret [(0,.str d),(2,.slice none 0 0),(3,.aJ),(4,(r7 b i)),(5,.V e),(6,.V c)] (af 88 [(50,(qh h b j g))])))
def KJ(f:Bytes)(c i:Nat)(d m:Int)(g l:List J)(a j h b:Nat)(k:b8->bc->T->Prop)(o:((c:Int)<(↑(f.length):Int)->c' env.D 9 (.str f) (.V c)=some (.ac d)/\(d=59->(0<(i:Int)->(a=a/\0+b=g.length/\b<b+1/\(b+1+(b+1)/4+512)*8<=281474976710656/\b+1<4611686018427387904)/\(bd ((c:Int)+1))/\k .normal [(0,.str f),(4,.aB 50 (a+1) 0 (b+1) (b+1)),(5,.V 0),(6,.V ((c:Int)+1))] (af 80 [(50,⟨g++[.V 0],1,false,false,a+1,j,if j=a then g.length else min h (g.length),some (3,0)⟩),(73,aa.an [.V 0] 1 true)]))/\(¬0<(i:Int)->c' env.D 9 (.str f) (.V c)=some (.ac d)/\(KI f c i d m g l a j h b k)/\(¬48<=d->k .ret [(0,.str f),(2,.slice none 0 0),(3,.aJ),(4,(r7 a b)),(5,.V i),(6,.V c)] (af 88 [(50,(qh g a j h))]))))/\(¬d=59->c' env.D 9 (.str f) (.V c)=some (.ac d)/\(KI f c i d m g l a j h b k)/\(¬48<=d->k .ret [(0,.str f),(2,.slice none 0 0),(3,.aJ),(4,(r7 a b)),(5,.V i),(6,.V c)] (af 88 [(50,(qh g a j h))]))))/\(¬(c:Int)<(↑(f.length):Int)->k (.exit 0) [(0,.str f),(4,(r7 a b)),(5,.V i),(6,.V c)] (af 64 [(50,(qh g a j h))]))) :
 ∃e n Y,bN 0 64 (bu 111 0) [(0,.str f),(4,.aB 50 a 0 b b),(5,.V (i:Nat)),(6,.V (c:Nat))] (T.rows 60 [(50,kb g a j h)]) e n Y/\k e n Y :=
 dD c6 mixed bL (hs:= .al 6003 (ap 8002 (.ac d) (.al 8003 (.al 8006 (ab 9002 (ab 7001 .nil)) (KH d m l a h)) (KH d m l a h))) .nil) (keep:=[0,2,3,4,5,6]) ao o
def Xn(a:aU)(b:a (.tuple [.slice none 0 0,.aK]) (af 6 [])) :
 bl 111 [.str []] bG a :=
 bm bL (.nil) b
def Xo(b:Bytes)(d f:J)(e:Nat)(a:T)(c:aU)(g:(b=[]->c (.tuple [.slice none 0 0,.aK]) (af 6 []))/\(¬b=[]->bN 0 64 (Code.loop (bu 111 0)) [(0,.str b),(4,.slice (b5 4) 1 1),(5,.V 0),(6,.V 0)] (af 8 [(4,aa.an [.V 0] 1 true)]) (.exit 0) [(0,.str b),(4,d),(5,.V e),(6,f)] a/\(0<(e:Int)->c (.tuple [d,.aK]) (T.mk (a.M+5) (T.aF a)))/\(¬0<(e:Int)->c (.tuple [d,.aJ]) (T.mk (a.M+5) (T.aF a))))) :
 bl 111 [.str b] bG c :=
 bm bL (.al 1001 .nil<|.aG (.keep [0,4,5,6])<|.aG (.loop [(0,.str b),(4,d),(5,.V e),(6,f)] a (.exit 0))<|.al 15002 .nil .nil) g
def Xp(a:Bytes)(c:T)(b:aU)(d:(a=[]->b (.tuple [.slice none 0 0,.aK]) (af 6 []))/\(¬a=[]->bN 0 64 (Code.loop (bu 111 0)) [(0,.str a),(4,.slice (b5 4) 1 1),(5,.V 0),(6,.V 0)] (af 8 [(4,aa.an [.V 0] 1 true)]) .ret [(2,.slice none 0 0),(3,.aJ)] c/\b (.tuple [.slice none 0 0,.aJ]) c)) :
 bl 111 [.str a] bG b :=
 bm bL (.al 1001 .nil<|.aG (.keep [0,4,5,6])<|.aG (.loop [(2,.slice none 0 0),(3,.aJ)] c .ret) .nil) d
def kc:List Nat->Nat->Nat->Bytes->Option (List Nat×Nat)
 |L,x,u,[]=>some (L++[x],u)
 |L,x,u,b::r =>
  if b.toNat=59/\0<u then kc (L++[x]) 0 0 r
  else if 48<=b.toNat/\b.toNat<=57/\u<9 then kc L (10*x+(b.toNat-48)) (u+1) r else none
def jw(l:List Nat)(v:Nat)(B:aa):Prop:=(∃x:Nat,l=[x]/\v=0/\B=aa.an [.int .i64 x] 1 true)\/(∃w f,2<=l.length/\B=kb (bq l) v w f)
variable {B b:aa}
def jw.bare{l:List Nat}{v:Nat}(h:jw l v B):cu B:=by
 rcases h with ⟨x,_,_,rfl⟩|⟨w,f,_,rfl⟩
 .intro e he;rw [cF.1 he];exact b0.int _ _
 .exact xf l
def KK{h:T}{id v:Nat}{x:Int}(ab:h.get id=some b)(he:b.elem? v i=some (.V x)):a6 (bi.D env) 3 ⟨id,v,i,0,1⟩ h=some (.V x):=by have a:(bi.D env 3).map (λd=>d.kind.isAgg)=some false:= ao;obtain⟨d,Y,ag⟩:=cb.1 a;unfold a6;rw [Y,ab];simp only [he,eK,ag,ey,ez,dG]
def jw.load{l:List Nat}{v:Nat}(h:jw l v B)(ah:i<l.length){H:T}(ab:H.get k=some B):a6 (bi.D env) 3 ⟨k,v,i,0,1⟩ H=some (.V (l[i]:Nat)):=by
 refine KK ab ?_;rcases h with ⟨x,rfl,rfl,rfl⟩|⟨w,f,_,rfl⟩
 .obtain rfl:i=0:=by simp at ah;exact ah
  rfl
 .simp [aa.elem?,aa.b6,bq,ah]
def Xq{h:T}{id v w f:Nat}{l:List J}{x y:Int}(e:h.get id=some (kb l v w f))(ah:l[i]? =some (.V x)):gz (bi.D env) 3 ⟨id,v,i,0,1⟩ (.V y) h=some (h.set id (kb (l.set i (.V y)) v v f)):=by have a:(bi.D env 3).map (λd=>(d.kind.isAgg,d.size))=some (false,1):= ao;obtain⟨d,Y,ag⟩:=cb.1 a;simp only [bC]at ag;unfold gz;rw [Y,e];simp [J.fits,ag.1,ag.2,nN,ah,J.hV]
def Xr{t:TypeId}{F:bc}{H H1:T}{a:bB}{v:J}{nid:Nat}(b:ba F (.tmp k)=.ptr (some a))(hm:ba F (.tmp m)=v)(hs:gz (bi.D env) t a v H=some H1):bt env cr nid (ba F) H (Op.store t (Operand.tmp k) (Operand.tmp m))=some (.tuple [],H1):=by simp only [bt,b,hm,hs,eE]
abbrev hR(s:Bytes)(k v n u i:Nat):bc:=[(0,.str s),(4,.slice (some ⟨k,v,0,0,1⟩) n n),(5,.int .i64 (u:Nat)),(6,.int .i64 (i:Nat))]
def mg(s:Bytes)(L:List Nat)(x u i:Nat)(e:b8)(F:bc)(h:T):Prop :=
 (bV s i=59/\0<u/\e=.normal/\∃k v B,F=hR s k v (L.length+2) 0 (i+1)/\h.get k=some B/\jw (L++[x]++[0]) v B) \/
 (¬(bV s i=59/\0<u)/\(48<=bV s i/\bV s i<=57/\u<9)/\e=.normal/\∃k v B,F=hR s k v (L.length+1) (u+1) (i+1)/\h.get k=some B/\jw (L++[10*x+(bV s i-48)]) v B) \/
 (¬(bV s i=59/\0<u)/\¬(48<=bV s i/\bV s i<=57/\u<9)/\e=.ret/\∃c d g,F=[(0,.str s),(2,.slice none 0 0),(3,.bool false),(4,c),(5,d),(6,g)])
def cL(n:Nat):((n:Int)+1)=((n+1:Nat):Int):=rfl
def KL{x b:Nat}(h:48<=b):10* (x:Int)+((b:Int)-48)=((10*x+(b-48):Nat):Int):= A
def Xs{x:Nat}(ah:i<s.length)(hs:s.length<2^40)(q:x<10^u)(hu:u<=9) :
 ∃e F h,bN 0 64 (bu 111 0) (hR s 50 0 1 u i) (T.rows 60 [(50,aa.an [.V (x:Nat)] 1 true)]) e F h/\mg s [] x u i e F h:=by
 have fD:=j' ah;have r:=oN s i;have t:x<10^9:=kf q (vf aC hu)
 have j:48<=bV s i->bV s i<=57->u<9-> ¬(bV s i=59/\0<u)-> ∀n,mg s [] x u i .normal [(0,.str s),(4,.aB 50 0 0 1 1),(5,.V ((u:Int)+1)),(6,.V ((i:Int)+1))] (T.bO n [(50,aa.an [.V (10* (x:Int)+((bV s i:Int)-48))] 1 true)]):=by intro Y ag k l n;refine .inr (.inl ⟨l,⟨Y,ag,k⟩,rfl,50,0,_,rfl,rfl,.inl ⟨_,rfl,rfl,?_⟩⟩);rw [KL Y]
 have a:¬(bV s i=59/\0<u)-> ¬(48<=bV s i/\bV s i<=57/\u<9)-> ∀(c d g:J)(h:T),mg s [] x u i .ret [(0,.str s),(2,.slice none 0 0),(3,.bool false),(4,c),(5,d),(6,g)] h:=λY ag c d g h=> .inr (.inr ⟨Y,ag,rfl,c,d,g,rfl⟩)
 exact KF s i u (bV s i:Nat) (x:Nat) (mg s [] x u i) ⟨λ_=>⟨fD,λm=>⟨λo=>⟨⟨A,A⟩,.inl ⟨A,A,rfl,74,0,_,rfl,rfl,.inr ⟨0,0,au,rfl⟩⟩⟩,λo=>⟨fD,λf=>⟨fD,λb=>absurd b A,λb=>a A A _ _ _ _⟩,λf=>a A A _ _ _ _⟩⟩,
  λm=>⟨fD,λf=>⟨fD,λb=>⟨λp=>⟨⟨A,A⟩,fD,⟨A,A⟩,⟨A,A⟩,⟨A,A⟩,⟨A,A⟩,⟨A,A⟩,j A A A A _⟩,λp=>a A A _ _ _ _⟩,λb=>a A A _ _ _ _⟩,λf=>a A A _ _ _ _⟩⟩,λh=>absurd h A⟩
variable {L:List Nat}
def Xt{x v f:Nat}(c:L≠[])(Y:48<=bV s i)(ag:bV s i<=57)(a:u<9)(b:¬(bV s i=59/\0<u)):mg s L x u i .normal [(0,.str s),(4,.aB 50 v 0 (L.length+1) (L.length+1)),(5,.V ((u:Int)+1)),(6,.V ((i:Int)+1))] (T.bO n [(50,kb (bq L++[.V (10* (x:Int)+((bV s i:Int)-48))]) v v f)]):=by
 have d:1<=L.length:=gk.2 c;have e:bq L++[.V (10* (x:Int)+((bV s i:Int)-48))]=bq (L++[10*x+(bV s i-48)]):=by rw [KL Y];simp [bq]
 rw [e,cL,cL];exact .inr (.inl ⟨b,⟨Y,ag,a⟩,rfl,50,v,_,rfl,rfl,.inr ⟨v,f,by simp;omega,rfl⟩⟩)
def uQ{x:Nat}(Y:¬(bV s i=59/\0<u))(ag:¬(48<=bV s i/\bV s i<=57/\u<9))(c d g:J)(h:T):mg s L x u i .ret [(0,.str s),(2,.slice none 0 0),(3,.bool false),(4,c),(5,d),(6,g)] h:= .inr (.inr ⟨Y,ag,rfl,c,d,g,rfl⟩)
def Xu{x v w f n:Nat}{q:T}(Y:bV s i=59)(ag:0<u)(a:q.get 50=some (kb (bq (L++[x])++[.V 0]) (v+1) w f)):mg s L x u i .normal [(0,.str s),(4,.aB 50 (v+1) 0 (L.length+1+1) (L.length+1+1)),(5,.V 0),(6,.V ((i:Int)+1))] q:=by rw [cL];exact .inl ⟨Y,ag,rfl,50,v+1,_,rfl,a,.inr ⟨w,f,au,by simp [bq]⟩⟩
def Xv{x v w f:Nat}(g:L≠[])(z:L.length<2^40)(ah:i<s.length)(hs:s.length<2^40)(r:x<10^u)(hu:u<=9) :
 ∃e F h,bN 0 64 (bu 111 0) (hR s 50 v (L.length+1) u i) (T.rows 60 [(50,kb (bq (L++[x])) v w f)]) e F h/\mg s L x u i e F h:=by
 have fD:=j' ah;have y:=oN s i;have C:x<10^9:=kf r (vf aC hu);have B:1<=L.length:=gk.2 g;have j:0+Int.toNat (((L.length+1:Nat):Int)-1)=L.length:= A;have o:(bq (L++[x]))[L.length]? =some (.V (x:Nat)):=by simp [bq]
 have m:(bq (L++[x])).set L.length (.V (10* (x:Int)+((bV s i:Int)-48)))=bq L++[.V (10* (x:Int)+((bV s i:Int)-48))]:=by simp [bq]
 have eo:∀n,a6 (bi.D env) 3 ⟨50,v,0+Int.toNat (((L.length+1:Nat):Int)-1),0,1⟩ (T.bO n [(50,kb (bq (L++[x])) v w f)])=some (.V (x:Nat)):=λn=>by rw [j];exact KK (b:=kb (bq (L++[x])) v w f) rfl (by simp [aa.elem?,aa.b6,bq])
 have ff:∀n,gz (bi.D env) 3 ⟨50,v,0+Int.toNat (((L.length+1:Nat):Int)-1),0,1⟩ (.V (10* (x:Int)+((bV s i:Int)-48))) (T.bO n [(50,kb (bq (L++[x])) v w f)])=some (T.bO n [(50,kb (bq L++[.V (10* (x:Int)+((bV s i:Int)-48))]) v v f)]):=λn=>by rw [j,Xq (w:=w) (f:=f) (l:=bq (L++[x])) rfl o,m];rfl
 have t:(bq (L++[x])).length=L.length+1:=by simp [bq]
 refine KJ s i u (bV s i:Nat) (x:Nat) (bq (L++[x])) (bq L++[.V (10* (x:Int)+((bV s i:Int)-48))]) v w f (L.length+1) (mg s L x u i) ⟨λ_=>⟨fD,λk=>⟨λp=>⟨⟨rfl,?_,?_,?_,?_⟩,⟨A,A⟩,?_⟩,λp=>⟨fD,λd=>⟨fD,λc=>absurd c A,λc=> ?_⟩,λd=> ?_⟩⟩,
  λk=>⟨fD,λd=>⟨fD,λc=>⟨λq=>⟨⟨A,A⟩,⟨A,A⟩,⟨A,A⟩,eo _,⟨A,A⟩,fD,⟨A,A⟩,⟨A,A⟩,⟨A,A⟩,⟨A,A⟩,?_,⟨A,A⟩,⟨A,A⟩,?_⟩,λq=> ?_⟩,λc=> ?_⟩,λd=> ?_⟩⟩,λh=>absurd h A⟩
 .rw [t];omega
 .omega
 .omega
 .omega
 .exact Xu (n:=0) A A rfl
 .exact uQ A A _ _ _ _
 .exact uQ A A _ _ _ _
 .exact Xr (a:=⟨50,v,0+Int.toNat (((L.length+1:Nat):Int)-1),0,1⟩) (v:= .V (10* (x:Int)+((bV s i:Int)-48))) ao ao (ff _)
 .exact Xt g A A A A
 .exact uQ A A _ _ _ _
 .exact uQ A A _ _ _ _
 .exact uQ A A _ _ _ _
def DA{v:Nat}{h:T}(a:cu B)(ab:h.get k=some B):bW 0 64 (hR s k v n u i) h (hR s 50 v n u i) (T.rows 60 [(50,B)]):=by
 refine bW.move (K:=60) (l:=[(50,B)]) (λ_=>k) ?_ rfl ?_ rfl rfl ?_ rfl ?_ ?_
 .simp [ab,a.aO]
 .simp
 .simp [J.aO,bB.aO]
 .exact aX.cons trivial (aX.cons (xg au) (aX.cons trivial (aX.cons trivial aX.nil)))
 .exact aX.cons (λe he=>(a e he).dj _) aX.nil
def Xw{a c d g:J}{h:T} :bW 0 n [(0,a),(2,J.slice none 0 0),(3,J.bool false),(4,c),(5,d),(6,g)] h p0 h :=
 bW.facts (by
  intro j u hu;rw [gX]at hu;split at hu
  .rename_i b;subst b;rw [<-hu];rfl
  .rw [gX]at hu;split at hu
   .rename_i b;subst b;rw [<-hu];rfl
   .cases hu)
def Xx{x v:Nat}(c:jw (L++[x]) v B)(d:L.length<2^40)(ah:i<s.length)(hs:s.length<2^40)(b:x<10^u)(hu:u<=9) :
 ∃e F h,bN 0 64 (bu 111 0) (hR s 50 v (L.length+1) u i) (T.rows 60 [(50,B)]) e F h/\mg s L x u i e F h:=by
 rcases c with ⟨y,Y,rfl,rfl⟩|⟨w,f,Y,rfl⟩
 .cases L with
  |nil =>
   obtain rfl:x=y:=by simpa using Y
   exact Xs ah hs b hu
  |cons a r=>simp at Y
 .exact Xv (by rintro rfl;simp at Y) d ah hs b hu
def Xy{l:List Nat}{v:Nat}(b:jw l v B) :
 ∃h,bN 0 64 (bu 111 0) (hR s 50 v l.length u s.length) (T.rows 60 [(50,B)]) (.exit 0) (hR s 50 v l.length u s.length) h/\h.get 50=some B:=by
 rcases b with ⟨y,rfl,rfl,rfl⟩|⟨w,f,Y,rfl⟩
 .obtain⟨e,F,h,a,rfl,rfl,ab⟩:=KF s s.length u 0 (y:Nat) (λe F h=>e=.exit 0/\F=hR s 50 0 1 u s.length/\h.get 50=some (aa.an [.V (y:Nat)] 1 true)) ⟨λh=>absurd h A,λ_=>⟨rfl,rfl,rfl⟩⟩;exact⟨h,a,ab⟩
 .obtain⟨e,F,h,a,rfl,rfl,ab⟩:=KJ s s.length u 0 0 (bq l) [] v w f l.length (λe F h=>e=.exit 0/\F=hR s 50 v l.length u s.length/\h.get 50=some (kb (bq l) v w f)) ⟨λh=>absurd h A,λ_=>⟨rfl,rfl,rfl⟩⟩;exact⟨h,a,ab⟩
def Xz(hs:s.length<2^40):∀(k i:Nat)(L:List Nat)(x u v:Nat)(B:aa),s.length-i<=k->i<=s.length->L.length<=i->x<10^u->u<=9->jw (L++[x]) v B ->
 (∀a f,kc L x u (s.drop i)=some (a,f)-> ∃Z k' j b,dd 0 64 (bu 111 0) (hR s 50 v (L.length+1) u i) (T.rows 60 [(50,B)]) (.exit 0) (hR s k' j a.length f s.length) Z/\Z.get k'=some b/\jw a j b) /\
 (kc L x u (s.drop i)=none-> ∃Z,dd 0 64 (bu 111 0) (hR s 50 v (L.length+1) u i) (T.rows 60 [(50,B)]) .ret p0 Z):=by
 intro k;induction k with
 |zero =>
  intro i L x u v B C ah t o hu l;obtain rfl:i=s.length:= A;rw [nI];refine⟨λa f h=> ?_,λh=>by cases h⟩;simp only [kc,a8,bC]at h;obtain⟨rfl,rfl⟩:=h;obtain⟨h,m,ab⟩:=Xy (s:=s) (u:=u) l;rw [show L.length+1=(L++[x]).length by simp];exact⟨h,50,v,B,b2.last au m,ab,l⟩
 |succ k ih =>
  intro i L x u v B C ah t o hu l;by_cases aj:i<s.length
  .have z:s.drop i=s[i]::s.drop (i+1):=ki aj;have y:s[i].toNat=bV s i:=by unfold bV;rw [hC,ds aj];rfl
   rw [z];unfold kc;rw [y];obtain⟨e,F,h,m,w⟩:=Xx l A aj hs o hu;rcases w with ⟨Y,ag,rfl,k',j,b,rfl,ab,aw⟩|⟨Y,ag,rfl,k',j,b,rfl,ab,aw⟩|⟨Y,ag,rfl,c,d,g,rfl⟩
   .rw [az ⟨Y,ag⟩];obtain⟨i1,i2⟩:=ih (i+1) (L++[x]) 0 0 j b A A (by simp;omega) aC A aw;have el:(L++[x]).length+1=L.length+2:= au;rw [el]at i1 i2;have ff:=λ{e F Z} (q:dd 0 64 (bu 111 0) (hR s 50 j (L.length+2) 0 (i+1)) (T.rows 60 [(50,b)]) e F Z)=>b2.step (m.post (DA aw.bare ab)) q
    exact⟨λa f e=>by obtain⟨Z,p,v2,n,q,r⟩:=i1 a f e;exact⟨Z,p,v2,n,ff q,r⟩,λe=>by obtain⟨Z,q⟩:=i2 e;exact⟨Z,ff q⟩⟩
   .rw [ai Y,az ag];obtain⟨i1,i2⟩:=ih (i+1) L (10*x+(bV s i-48)) (u+1) j b A A A (by rw [Nat.pow_succ];omega) A aw;have ff:=λ{e F Z} (q:dd 0 64 (bu 111 0) (hR s 50 j (L.length+1) (u+1) (i+1)) (T.rows 60 [(50,b)]) e F Z)=>b2.step (m.post (DA aw.bare ab)) q
    exact⟨λa f e=>by obtain⟨Z,p,v2,n,q,r⟩:=i1 a f e;exact⟨Z,p,v2,n,ff q,r⟩,λe=>by obtain⟨Z,q⟩:=i2 e;exact⟨Z,ff q⟩⟩
   .rw [ai Y,ai ag];exact⟨λa f e=>(by cases e),λ_=>⟨h,b2.last au (m.post Xw)⟩⟩
  .exact ih i L x u v B A ah t o hu l
def XA(hs:s.length<2^40)(aM:s≠[]) :
 (∀b u,kc [] 0 0 s=some (b,u)-> ∃v B,jw b v B/\∀H,be 111 [.str s] H (.tuple [.aB H.M v 0 b.length b.length,.bool (decide (0<u))]) (H.dY [] [B])) /\
 (kc [] 0 0 s=none-> ∀H,be 111 [.str s] H (.tuple [.slice none 0 0,.bool false]) H):=by
 obtain⟨l,l2⟩:=Xz hs s.length 0 [] 0 0 0 (aa.an [.V (0:Nat)] 1 true) A A au aC A (.inl ⟨0,rfl,rfl,rfl⟩)
 have c:bW 0 64 (hR s 4 0 1 0 0) (T.bO 8 [(4,aa.an [.V (0:Nat)] 1 true)]) (hR s 50 0 1 0 0) (T.rows 60 [(50,aa.an [.V (0:Nat)] 1 true)]) :=
  DA (by intro e he;rw [cF.1 he];exact b0.int _ _) rfl
 refine⟨λb u d=> ?_,λd H=> ?_⟩
 .obtain⟨Z,k,v,B,f,ab,aw⟩:=l b u d;refine⟨v,B,aw,λH=> ?_⟩;obtain⟨y,g,c,rfl,j⟩:=Xo s (.aB k v 0 b.length b.length) (.V (s.length:Nat)) u Z (λy g=>y=.tuple [.aB k v 0 b.length b.length,.bool (decide (0<u))]/\g.get k=some B) ⟨λh=>absurd h aM,λ_=>⟨cO.dn (f.pre c),λh=>⟨by rw [iH (by omega:0<u)],ab⟩,λh=>⟨by rw [ie (by omega:¬0<u)],ab⟩⟩⟩;exact bj.HB c aw.bare j (λa i=>by rw [cF.1 i];exact b0.str s) H
 .obtain⟨Z,f⟩:=l2 d;exact bj.bU (Xp s Z (λy _=>y=.tuple [.slice none 0 0,.bool false]) ⟨λh=>absurd h aM,λ_=>⟨cO.dn (f.pre c),rfl⟩⟩) rfl rfl H
def XB(H:T):be 111 [.str []] H (.tuple [.slice none 0 0,.bool true]) H :=
 bj.bU (Xn (λy _=>y=.tuple [.slice none 0 0,.bool true]) rfl) rfl rfl H
abbrev KM(a:T):T:=(T.mk (a.M+2) (T.aF a))
abbrev yw:J:=J.tuple [.ac 0,.aJ]
abbrev DB(a:T):T:=(T.mk (a.M+2+4) (T.aF (KM a)))
abbrev uR(a:T):T:=(T.mk (a.M+6+19) (T.aF (DB a)))
def XC(a:T)(e f c:Nat)(b:Int)(d:aU)(g:aY (a.M) (a.M) (aY (a.M) (a.M+2) (((c:Int)=1->aY (a.M) (a.M+6) (cc (a.M) (a.M+8) (d (.tuple [.ac 0,.aK]) (T.mk (a.M+6+2) (T.aF (DB a))))))/\(¬(c:Int)=1->aY (a.M) (a.M+6) (((c:Int)=2->(fL 1 c)/\a6 env.D 3 ⟨e,f,1,0,1⟩ (bf a 25)=some (.V b)/\(b<1->aY (a.M) (a.M+25) (cc (a.M) (a.M+27) (d (yw) (T.mk (a.M+25+2) (T.aF (uR a))))))/\(¬b<1->(fL 1 c)/\a6 env.D 3 ⟨e,f,1,0,1⟩ (bf a 25)=some (.V b)/\(8<b->aY (a.M) (a.M+25) (cc (a.M) (a.M+27) (d (yw) (T.mk (a.M+25+2) (T.aF (uR a))))))/\(¬8<b->aY (a.M) (a.M+25) ((fL 1 c)/\a6 env.D 3 ⟨e,f,1,0,1⟩ (bf a 33)=some (.V b)/\(bd (b-1))/\(0<=b-1/\b-1<=255)/\cc (a.M) (a.M+33) (d (.tuple [.ac (b-1),.aK]) (T.mk (a.M+25+8) (T.aF (uR a))))))))/\(¬(c:Int)=2->aY (a.M) (a.M+25) (cc (a.M) (a.M+27) (d (yw) (T.mk (a.M+25+2) (T.aF (uR a))))))))))) :
 bl 112 [.aB e f 0 c c,.V 1] a d :=
 bm bL (.al 1003 .nil<|.al 3004 (ab 3008 (ap 3009 (.V b) (.al 3010 .nil (ab 3015 (ap 3016 (.V b) (.al 3017 .nil (ab 5002 (ap 5003 (.V b) (ab 5004 (ab 5005 .nil)))))))))) .nil) g
def KN(a:Bytes)(c d:Int)(b:aU)(e:(a=[]->b (e8) (af 13 [(0,bE),(2,bE)]))/\(¬a=[]->c' env.D 9 (.str a) (.V 0)=some (.ac c)/\(c=60->((0:Int)<=1/\1<=(↑(a.length):Int))/\bk 111 [.str (a.drop 1)] (af 19 [(0,bF),(2,bE)]) (.tuple [.slice none 0 0,.aJ]) (af 19 [(0,bF),(2,bE)])/\b (e8) (af 52 [(0,bE),(2,bE)]))/\(¬c=60->b (e8) (af 13 [(0,bE),(2,bE)])))) :
 bl 110 [.str a,.ac d] bG b :=
 bm bL (.al 2001 .nil<|ap 2004 (.ac c)<|.al 2005 (ab 4001 (ap 4002 (.tuple [.slice none 0 0,.aJ]) .nil)) .nil) e
def XD(a:Bytes)(c d:Int)(b:aU)(e:(a=[]->b (e8) (af 13 [(0,bE),(2,bE)]))/\(¬a=[]->c' env.D 9 (.str a) (.V 0)=some (.ac c)/\(c=60->((0:Int)<=1/\1<=(↑(a.length):Int))/\bk 111 [.str (a.drop 1)] (af 19 [(0,bF),(2,bE)]) (.tuple [.slice none 0 0,.aK]) (af 19 [(0,bF),(2,bE)])/\b (e8) (af 52 [(0,bE),(2,bE)]))/\(¬c=60->b (e8) (af 13 [(0,bE),(2,bE)])))) :
 bl 110 [.str a,.ac d] bG b :=
 bm bL (.al 2001 .nil<|ap 2004 (.ac c)<|.al 2005 (ab 4001 (ap 4002 (.tuple [.slice none 0 0,.aK]) .nil)) .nil) e
def XE(a:Bytes)(c g:Int)(d:Nat)(e:aa)(f:bB)(b:aU)(i:(a=[]->b (e8) (af 13 [(0,bE),(2,bE)]))/\(¬a=[]->c' env.D 9 (.str a) (.V 0)=some (.ac c)/\(c=60->((0:Int)<=1/\1<=(↑(a.length):Int))/\bk 111 [.str (a.drop 1)] (af 19 [(0,bF),(2,bE)]) (.tuple [.slice (some f) d d,.aJ]) (af 20 [(0,bF),(2,bE),(19,e)])/\b (e8) (af 53 [(0,bE),(2,bE),(19,e)]))/\(¬c=60->b (e8) (af 13 [(0,bE),(2,bE)])))) :
 bl 110 [.str a,.ac g] bG b :=
 bm bL (.al 2001 .nil<|ap 2004 (.ac c)<|.al 2005 (ab 4001 (.aG (.act 4002 (.tuple [.slice (some f) d d,.aJ]) λh=>T.dY h [] [e]) .nil)) .nil) i
abbrev uS(a b c:Int):J:=J.agg [.bA 3,.av 3,.ac ((a.tdiv 4).tmod 8),.V (b-1),.V (c-1),.str []]
abbrev yx(a b c:Int):J:=J.agg [.bA 3,.av 4,.ac ((a.tdiv 4).tmod 8),.V (b-1),.V (c-1),.str []]
abbrev yy(a b c:Int):J:=J.agg [.bA 3,.av 5,.ac ((a.tdiv 4).tmod 8),.V (b-1),.V (c-1),.str []]
abbrev r8(a b c:Int):J:=J.agg [.bA 3,.av 6,.ac ((a.tdiv 4).tmod 8),.V (b-1),.V (c-1),.str []]
abbrev uT(a b c:Int):J:=J.agg [.bA 3,.av (a-4*((a.tdiv 4).tmod 8)),.ac ((a.tdiv 4).tmod 8),.V (b-1),.V (c-1),.str []]
abbrev ny(a b c:Int):aa:=(aL (r8 a b c))
abbrev qi(a b c:Int):aa:=(aL (uT a b c))
abbrev r9(a:aa):T:=(af 53 [(0,bE),(2,bE),(19,a)])
abbrev uU(a:aa):T:=(af 51 [(0,bF),(2,bE),(19,a)])
def KO(i:Bytes)(j k:Int)(g f:Nat)(d:aa)(a b c:Int)(e:aU)(l:(i=[]->e (e8) (af 13 [(0,bE),(2,bE)]))/\(¬i=[]->c' env.D 9 (.str i) (.V 0)=some (.ac j)/\(j=60->((0:Int)<=1/\1<=(↑(i.length):Int))/\bk 111 [.str (i.drop 1)] (af 19 [(0,bF),(2,bE)]) (.tuple [.aB 19 g 0 f f,.aK]) (af 20 [(0,bF),(2,bE),(19,d)])/\((f:Int)=3->(fL 1 f)/\a6 env.D 3 ⟨19,g,1,0,1⟩ (uU d)=some (.V b)/\(b<1->e (e8) (r9 d))/\(¬b<1->(fL 1 f)/\a6 env.D 3 ⟨19,g,1,0,1⟩ (uU d)=some (.V b)/\(4096<b->e (e8) (r9 d))/\(¬4096<b->(fL 2 f)/\a6 env.D 3 ⟨19,g,2,0,1⟩ (uU d)=some (.V c)/\(c<1->e (e8) (r9 d))/\(¬c<1->(fL 2 f)/\a6 env.D 3 ⟨19,g,2,0,1⟩ (uU d)=some (.V c)/\(4096<c->e (e8) (r9 d))/\(¬4096<c->(fL 0 f)/\a6 env.D 3 ⟨19,g,0,0,1⟩ (af 57 [(0,bF),(2,bE),(19,d)])=some (.V a)/\((da 4)/\dP .i64 (a.tdiv 4))/\(da 8)/\(fL 0 f)/\a6 env.D 3 ⟨19,g,0,0,1⟩ (af 64 [(0,bF),(2,bE),(19,d)])=some (.V a)/\(bd (4*((a.tdiv 4).tmod 8)))/\(bd (a-4*((a.tdiv 4).tmod 8)))/\(0<=((a.tdiv 4).tmod 8)/\((a.tdiv 4).tmod 8)<=255)/\(fL 1 f)/\a6 env.D 3 ⟨19,g,1,0,1⟩ (af 77 [(0,bF),(2,bE),(19,d)])=some (.V b)/\(bd (b-1))/\(fL 2 f)/\a6 env.D 3 ⟨19,g,2,0,1⟩ (af 77 [(0,bF),(2,bE),(19,d)])=some (.V c)/\(bd (c-1))/\(k=109->(3<a-4*((a.tdiv 4).tmod 8)->e (e8) (af 85 [(0,bE),(2,bE),(19,d),(75,(aL (uS a b c)))]))/\(¬3<a-4*((a.tdiv 4).tmod 8)->e ((uS a b c)) (af 85 [(0,(aL (uS a b c))),(2,bE),(19,d),(75,(aL (uS a b c)))])))/\(¬k=109->(a-4*((a.tdiv 4).tmod 8)=0->(-2147483648<=a-4*((a.tdiv 4).tmod 8)/\a-4*((a.tdiv 4).tmod 8)<=2147483647)/\e ((uT a b c)) (af 88 [(0,(qi a b c)),(2,bE),(19,d),(75,(qi a b c))]))/\(¬a-4*((a.tdiv 4).tmod 8)=0->(a-4*((a.tdiv 4).tmod 8)=1->(-2147483648<=a-4*((a.tdiv 4).tmod 8)/\a-4*((a.tdiv 4).tmod 8)<=2147483647)/\e ((uT a b c)) (af 90 [(0,(qi a b c)),(2,bE),(19,d),(75,(qi a b c))]))/\(¬a-4*((a.tdiv 4).tmod 8)=1->(a-4*((a.tdiv 4).tmod 8)=2->(-2147483648<=a-4*((a.tdiv 4).tmod 8)/\a-4*((a.tdiv 4).tmod 8)<=2147483647)/\e ((uT a b c)) (af 92 [(0,(qi a b c)),(2,bE),(19,d),(75,(qi a b c))]))/\(¬a-4*((a.tdiv 4).tmod 8)=2->(a-4*((a.tdiv 4).tmod 8)=32->e ((r8 a b c)) (af 92 [(0,(ny a b c)),(2,bE),(19,d),(75,(ny a b c))]))/\(¬a-4*((a.tdiv 4).tmod 8)=32->(a-4*((a.tdiv 4).tmod 8)=33->e ((r8 a b c)) (af 94 [(0,(ny a b c)),(2,bE),(19,d),(75,(ny a b c))]))/\(¬a-4*((a.tdiv 4).tmod 8)=33->(a-4*((a.tdiv 4).tmod 8)=34->e ((r8 a b c)) (af 96 [(0,(ny a b c)),(2,bE),(19,d),(75,(ny a b c))]))/\(¬a-4*((a.tdiv 4).tmod 8)=34->(a-4*((a.tdiv 4).tmod 8)=35->e ((r8 a b c)) (af 98 [(0,(ny a b c)),(2,bE),(19,d),(75,(ny a b c))]))/\(¬a-4*((a.tdiv 4).tmod 8)=35->(a-4*((a.tdiv 4).tmod 8)=64->e ((yx a b c)) (af 100 [(0,(aL (yx a b c))),(2,bE),(19,d),(75,(aL (yx a b c)))]))/\(¬a-4*((a.tdiv 4).tmod 8)=64->(a-4*((a.tdiv 4).tmod 8)=65->e ((yy a b c)) (af 102 [(0,(aL (yy a b c))),(2,bE),(19,d),(75,(aL (yy a b c)))]))/\(¬a-4*((a.tdiv 4).tmod 8)=65->e (e8) (af 100 [(0,bE),(2,bE),(19,d),(75,(aL (.agg [.bA 3,.av 0,.ac ((a.tdiv 4).tmod 8),.V (b-1),.V (c-1),.str []])))]))))))))))))))))/\(¬(f:Int)=3->e (e8) (r9 d)))/\(¬j=60->e (e8) (af 13 [(0,bE),(2,bE)])))) :
 bl 110 [.str i,.ac k] bG e :=
 bm bL (.al 2001 .nil<|ap 2004 (.ac j)<|.al 2005 (ab 4001 (.aG (.act 4002 (.tuple [.aB 19 g 0 f f,.aK]) λh=>T.dY h [] [d]) (.al 5005 (ab 5009 (ap 5010 (.V b) (.al 5011 .nil (ab 5015 (ap 5016 (.V b) (.al 5017 .nil (ab 5021 (ap 5022 (.V c) (.al 5023 .nil (ab 5027 (ap 5028 (.V c) (.al 5029 .nil (ab 7001 (ap 7002 (.V a) (ab 7003 (ab 7004 (ab 8001 (ap 8002 (.V a) (ab 8004 (ab 8005 (ab 9001 (ab 9003 (ap 9004 (.V b) (ab 9005 (ab 9007 (ap 9008 (.V c) (ab 9009 (.al 10001 (.al 12001 .nil .nil) (.al 17000 (ab 20001 .nil) (.al 18000 (ab 20001 .nil) (.al 19000 (ab 20001 .nil) (.al 21000 .nil (.al 22000 .nil (.al 23000 .nil (.al 24000 .nil (.al 26000 .nil (.al 28000 .nil .nil))))))))))))))))))))))))))))))))))))) .nil))) .nil) l
end Go.Proofs.zz
namespace Go.Keys
def DC(s:Bytes):Option (List Nat):=if s=[]then some []else(Go.Proofs.zz.kc [] 0 0 s).bind λp=>if 0<p.2 then some p.1 else none
def KP{w:Bytes}(aM:¬w=[])(a:w.length<=9)(hw:w.all digit=true):¬(w=[]\/9<w.length\/w.all digit=false):=by
 rintro (h|h|h)
 .exact aM h
 .omega
 .rw [hw]at h;cases h
def DD:∀(s:Bytes)(L:List Nat)(w f:Bytes)(t:List Bytes),splitAt 59 s=f::t->w.length<=9->w.all digit=true ->
 ((Go.Proofs.zz.kc L (number w) w.length s).bind λp=>if 0<p.2 then some p.1 else none)=(fX ((w++f)::t)).map (L++ ·)
 |[],L,w,f,t,hs,g,hw=>by
  simp only [splitAt,fJ]at hs;obtain⟨rfl,rfl⟩:=hs;simp only [Go.Proofs.zz.kc,qw,gy,fX];by_cases aM:w=[]
  .subst aM;simp
  .have:0<w.length:=gk.2 aM;rw [az this,ai (KP aM g hw)];simp
 |b :: r, L,w,f,t,hs,g,hw=>by
  unfold Go.Proofs.zz.kc;by_cases e:b=59
  .subst e;simp only [splitAt,dG,fJ]at hs;obtain⟨rfl,rfl⟩:=hs;rw [gy];by_cases aM:w=[]
   .subst aM;rw [ai au,ai aC];simp [fX]
   .have:0<w.length:=gk.2 aM;rw [az ⟨rfl,this⟩]
    obtain⟨f2,t2,aZ⟩:∃f2 t2,splitAt 59 r=f2::t2:=by
     cases h:splitAt 59 r with
     |nil=>exact absurd h (rA 59 r)
     |cons a b=>exact⟨a,b,rfl⟩
    have ih:=DD r (L++[number w]) [] f2 t2 aZ au rfl;rw [aZ]
    conv=>rhs;unfold fX
    rw [ai (KP aM g hw)];simp only [eQ]at ih;rw [show number ([]:Bytes)=0 from rfl,show([]:Bytes).length=0 from rfl]at ih;rw [ih];cases fX (f2::t2)<;>simp
  .obtain⟨f2,t2,aZ⟩:∃f2 t2,splitAt 59 r=f2::t2:=by
    cases h:splitAt 59 r with
    |nil=>exact absurd h (rA 59 r)
    |cons a b=>exact⟨a,b,rfl⟩
   unfold splitAt at hs;rw [ai e,aZ]at hs;simp only [fJ]at hs;obtain⟨rfl,rfl⟩:=hs;have i:b.toNat≠59:=λh=>e (fz.1 h)
   rw [ai (λh=>i h.1)];by_cases d:48<=b.toNat/\b.toNat<=57/\w.length<9
   .rw [az d];have c:digit b=true:=by simp [digit,d.1,d.2.1]
    have ih:=DD r L (w++[b]) f2 t2 aZ (by simp;omega) (by simp only [List.all_append,hw,iE,c,List.all_nil];rfl);rw [TX,dt]at ih;simp only [jb,List.singleton_append]at ih;exact ih
   .rw [ai d];unfold fX;rw [az]
    .rfl
    .by_cases c:digit b=true
     .simp only [digit,cC,eP]at c;refine .inr (.inl ?_);simp only [dt,bK];have:¬w.length<9:=λq=>d ⟨c.1,c.2,q⟩
      omega
     .refine .inr (.inr ?_);rw [List.all_append,iE,gL.2 c];simp
def XF(s:Bytes):DC s=numbers s:=by
 unfold DC numbers;by_cases h:s=[]
 .rw [az h,az h]
 .rw [ai h,ai h];cases hs:splitAt 59 s with
  |nil=>exact absurd hs (rA 59 s)
  |cons f t =>
   have:=DD s [] [] f t hs au rfl;simp only [eQ]at this;rw [show(number []:Nat)=0 from rfl,show([]:Bytes).length=0 from rfl]at this;rw [this];cases fX (f::t)<;>rfl
end Go.Keys
namespace Go.Proofs.zz
open Go.br Go.Keys Go.Lib
variable {s:Bytes}
def KQ(hs:s.length<2^40) :
 (Keys.numbers s=none/\((∀H,be 111 [.str s] H (.tuple [.slice none 0 0,.bool false]) H)\/ ∃n v B,∀H,be 111 [.str s] H (.tuple [.aB H.M v 0 n n,.bool false]) (H.dY [] [B]))) \/
 (Keys.numbers s=some []/\∀H,be 111 [.str s] H (.tuple [.slice none 0 0,.bool true]) H) \/
 (∃a,a≠[]/\Keys.numbers s=some a/\∃v B,jw a v B/\∀H,be 111 [.str s] H (.tuple [.aB H.M v 0 a.length a.length,.bool true]) (H.dY [] [B])):=by
 by_cases aM:s=[]
 .subst aM;exact .inr (.inl ⟨rfl,XB⟩)
 .obtain⟨c,n2⟩:=XA hs aM;have e:=XF s;unfold DC at e;rw [ai aM]at e;cases ab:kc [] 0 0 s with
  |none =>
   rw [ab]at e;exact .inl ⟨e.symm,.inl (n2 ab)⟩
  |some p =>
   obtain⟨a,u⟩:=p;rw [ab]at e;simp only [qw]at e;obtain⟨v,B,aw,b⟩:=c a u ab;by_cases hu:0<u
   .rw [az hu]at e;rw [iH hu]at b;refine .inr (.inr ⟨a,?_,e.symm,v,B,aw,b⟩);rintro rfl;rcases aw with ⟨x,h,_⟩|⟨w,f,h,_⟩
    .cases h
    .simp at h
   .rw [ai hu]at e;rw [ie hu]at b;exact .inl ⟨e.symm,.inr ⟨a.length,v,B,b⟩⟩
def uV(a b n2 c:Nat):Option aP :=
 if b<1\/4096<b\/n2<1\/4096<n2 then none
 else if c=109/\a-4* (a/4%8)<=3 then some ⟨3,3,(a/4%8:Nat),(b:Int)-1,(n2:Int)-1,[]⟩
 else if c=77/\a-4* (a/4%8)<=2 then some ⟨3,(a-4* (a/4%8):Nat),(a/4%8:Nat),(b:Int)-1,(n2:Int)-1,[]⟩
 else if c=77/\32<=a-4* (a/4%8)/\a-4* (a/4%8)<=35 then some ⟨3,6,(a/4%8:Nat),(b:Int)-1,(n2:Int)-1,[]⟩
 else if c=77/\a-4* (a/4%8)=64 then some ⟨3,4,(a/4%8:Nat),(b:Int)-1,(n2:Int)-1,[]⟩
 else if c=77/\a-4* (a/4%8)=65 then some ⟨3,5,(a/4%8:Nat),(b:Int)-1,(n2:Int)-1,[]⟩
 else none
variable {i k n2:Nat}
def XG{r:Bytes}{c a b:Nat}(h:Keys.numbers r=some [a,b,n2]):Keys.dq (60::r) c=uV a b n2 c:=by unfold Keys.dq uV;simp only [h]
def rC{r:Bytes}{c:Nat}(h:∀a b d,Keys.numbers r≠some [a,b,d]):Keys.dq (60::r) c=none:=by
 unfold Keys.dq;split
 .rename_i q;obtain rfl:r=_:=by simpa using q
  split
  .rename_i e;exact absurd e (h _ _ _)
  .rfl
 .rfl
def XH{c:Nat}(h:s=[]\/bV s 0≠60):Keys.dq s c=none:=by
 unfold Keys.dq;split
 .rcases h with h|h
  .cases h
  .exact absurd rfl h
 .rfl
def oT(s:Bytes)(c:Nat):aP:=(Keys.dq s c).getD (dc [])
def e3(a:List Nat):Nat×Bool :=
 if a.length=1 then(0,true)else if a.length=2/\1<=a.getD 1 0/\a.getD 1 0<=8 then(a.getD 1 0-1,true)else(0,false)
def XI{H:T}{w:Nat}{a:List Nat}{B:aa}(aw:jw a w B)(ab:H.get k=some B):∃j,be 112 [.aB k w 0 a.length a.length,.V 1] H (.tuple [.ac (e3 a).1,.bool (e3 a).2]) ⟨H.M+j,H.aF⟩:=by
 have eo:1<a.length-> ∀m,a6 (bi.D env) 3 ⟨k,w,1,0,1⟩ (T.mk m H.2)=some (.V (a.getD 1 0:Nat)):=λh m=>by rw [hC,ds h];exact aw.load h (H:=⟨m,H.2⟩) ab
 obtain⟨v,Y,d,rfl,j,rfl⟩:=XC H k w a.length (a.getD 1 0:Nat) (λv Y=>v=.tuple [.ac (e3 a).1,.bool (e3 a).2]/\∃j,Y=⟨H.M+j,H.aF⟩) (by
  delta uR DB KM yw
  refine aW (Nat.le_refl _) (aW A ⟨λh=>aW A (jS A ⟨?_,8,rfl⟩),λh=>aW A ⟨λag=>⟨⟨A,A⟩,eo A _,λb=>aW A (jS A ⟨?_,27,rfl⟩),
   λb=>⟨⟨A,A⟩,eo A _,λc=>aW A (jS A ⟨?_,27,rfl⟩),λc=>aW A ⟨⟨A,A⟩,eo A _,⟨A,A⟩,⟨A,A⟩,jS A ⟨?_,33,rfl⟩⟩⟩⟩,λag=>aW A (jS A ⟨?_,27,rfl⟩)⟩⟩)
  .unfold e3;rw [az A];rfl
  .unfold e3;rw [ai A,ai A];rfl
  .unfold e3;rw [ai A,ai A];rfl
  .unfold e3;rw [ai A,az A];rw [show((a.getD 1 0-1:Nat):Int)=((a.getD 1 0:Nat):Int)-1 by omega]
  .unfold e3;rw [ai A,ai A];rfl)
 exact⟨j,d⟩
def XJ{H:T}{w:Nat}{a:List Nat}{B:aa}(aw:jw a w B)(e:k<H.M)(ab:H.get k=some B):be 112 [.aB k w 0 a.length a.length,.V 1] H (.tuple [.ac (e3 a).1,.bool (e3 a).2]) H:=by
 obtain⟨j,h⟩:=XI (H:=T.of [B]) (k:=0) aw rfl;have c:∀b∈ [B],cu b:=λb c=>by rw [cF.1 c];exact aw.bare
 have f:=h.fin [] [B] (.tuple [.ac (e3 a).1,.bool (e3 a).2]) c rfl rfl rfl (by simp [bR,dO]) rfl kR;have u:=f.zX (l:=[B]) (l2:=[]) c (λb c=>by cases c) (by simp [bR,dO]) (H:=H) [k] au (λj d=>by rw [cF.1 d];exact e) (by simp [ab]);exact u
def XK{c:Nat}(hs:s.length<2^40)(aj:c=77\/c=109)(H:T):be 110 [.str s,.ac (c:Nat)] H (bp (oT s c)) H:=by
 have bad:Keys.dq s c=none->bp (oT s c)=bb 7 0 0 0 0 []:=λh=>by unfold oT;rw [h];rfl
 by_cases g:s=[]\/bV s 0≠60
 .have aM:=bad (XH g);rw [aM];refine bj.bU (KN s (bV s 0:Nat) (c:Nat) (λv _=>v=bb 7 0 0 0 0 []) ⟨λ_=>rfl,λaw=>⟨j' (k:=0) (gk.2 aw),λh=> ?_,λ_=>rfl⟩⟩) rfl rfl H;exfalso;rcases g with g|g
  .exact aw g
  .omega
 .obtain⟨r,rfl⟩:∃r,s=60::r:=by
   cases s with
   |nil=>exact absurd (.inl rfl) g
   |cons a r =>
    refine⟨r,?_⟩;have:bV (a::r) 0=60:=vg λh=>g (.inr h)
    rw [show a=60 from fz.1 this]
  have a0:c' (bi.D env) 9 (.str (60::r)) (.V (0))=some (.ac (60:Nat)):=j' (s:=60::r) (k:=0) au;have I:r.length<2^40:=by simp only [bK]at hs;omega
  rcases KQ I with ⟨aw,j|⟨n,v,B,j⟩⟩|⟨aw,j⟩|⟨l,K,aw,v,B,t,j⟩
  .rw [bad (rC (by rw [aw];intro a b d h;cases h))];exact bj.bU (KN (60::r) (60:Nat) (c:Nat) (λv _=>v=bb 7 0 0 0 0 []) ⟨λ_=>rfl,λ_=>⟨a0,λ_=>⟨⟨A,by simp;omega⟩,⟨j _⟩,rfl⟩,λ_=>rfl⟩⟩) rfl rfl H
  .rw [bad (rC (by rw [aw];intro a b d h;cases h))];exact bj.bU (XE (60::r) (60:Nat) (c:Nat) n B ⟨19,v,0,0,1⟩ (λv _=>v=bb 7 0 0 0 0 []) ⟨λ_=>rfl,λ_=>⟨a0,λ_=>⟨⟨A,by simp;omega⟩,⟨j _⟩,rfl⟩,λ_=>rfl⟩⟩) rfl rfl H
  .rw [bad (rC (by rw [aw];intro a b d h;cases h))];exact bj.bU (XD (60::r) (60:Nat) (c:Nat) (λv _=>v=bb 7 0 0 0 0 []) ⟨λ_=>rfl,λ_=>⟨a0,λ_=>⟨⟨A,by simp;omega⟩,⟨j _⟩,rfl⟩,λ_=>rfl⟩⟩) rfl rfl H
  .have call:∀h:T,h.M=19->bk 111 [.str r] h (.tuple [.aB 19 v 0 l.length l.length,.bool true]) (h.dY [] [B]):=λh e=>⟨by rw [<-e];exact j h⟩
   have aq:0<=(1:Int)/\(1:Int)<=((60::r:Bytes).length:Int):=⟨A,by simp;omega⟩
   by_cases p:l.length=3
   .obtain⟨f,o,n2,rfl⟩:∃a b c,l=[a,b,c]:=by
     match l,p with
     |[a,b,c],_=>exact⟨a,b,c,rfl⟩
    have x:∀h:T,h.get 19=some B->a6 (bi.D env) 3 ⟨19,v,0,0,1⟩ h=some (.V (f:Nat)):=λh e=>t.load (i:=0) au e
    have u:∀h:T,h.get 19=some B->a6 (bi.D env) 3 ⟨19,v,1,0,1⟩ h=some (.V (o:Nat)):=λh e=>t.load (i:=1) au e
    have w:∀h:T,h.get 19=some B->a6 (bi.D env) 3 ⟨19,v,2,0,1⟩ h=some (.V (n2:Nat)):=λh e=>t.load (i:=2) au e
    have ar:=ue aw f au;have aN:=ue aw o au;have bx:=ue aw n2 au;have z:oT (60::r) c=(uV f o n2 c).getD (dc []):=by unfold oT;rw [XG aw]
    rw [z];have m:=KO (60::r) (60:Nat) (c:Nat) v 3 B (f:Nat) (o:Nat) (n2:Nat) (λv _=>v=bp ((uV f o n2 c).getD (dc [])))
    dsimp only [bE,e8,r9,yy,yx,ny,r8,qi,uT,uS,fE,uU]at m
    have E:Int.tdiv (f:Int) 4=((f/4:Nat):Int):=rfl;have G:Int.tmod ((f/4:Nat):Int) 8=((f/4%8:Nat):Int):=rfl;have C:(f:Int)-4* ((f/4%8:Nat):Int)=((f-4* (f/4%8):Nat):Int):= A;rw [E,G,C]at m;unfold uV at m⊢;generalize F:f/4%8=held at m⊢;have O:held<8:=by rw [<-F];exact Nat.mod_lt _ aC
    generalize N:f-4*held=y at m⊢;have L:y<10^9:= A
    refine bj.bU (m ⟨λh=>absurd h au,λ_=>⟨a0,λ_=>⟨aq,call _ rfl,λ_=>⟨⟨A,A⟩,u _ rfl,λg1=> ?_,λg1=>⟨⟨A,A⟩,u _ rfl,λg2=> ?_,λg2=>⟨⟨A,A⟩,w _ rfl,λg3=> ?_,λg3=>⟨⟨A,A⟩,w _ rfl,λg4=> ?_,λg4=>⟨⟨A,A⟩,x _ rfl,⟨A,by show wa _;unfold wa;omega⟩,A,⟨A,A⟩,x _ rfl,⟨A,A⟩,⟨A,A⟩,⟨A,A⟩,⟨A,A⟩,u _ rfl,⟨A,A⟩,⟨A,A⟩,w _ rfl,⟨A,A⟩,
     λcL=>⟨λq=> ?_,λq=> ?_⟩,λcL=>⟨λq=>⟨⟨A,A⟩,?_⟩,λP=>⟨λq=>⟨⟨A,A⟩,?_⟩,λcw=>⟨λq=>⟨⟨A,A⟩,?_⟩,λcy=>⟨λq=> ?_,λet=>⟨λq=> ?_,λil=>⟨λq=> ?_,λjQ=>⟨λq=> ?_,λQ=>⟨λq=> ?_,λR=>⟨λq=> ?_,λq=> ?_⟩⟩⟩⟩⟩⟩⟩⟩⟩⟩⟩⟩⟩⟩,λh=>absurd rfl h⟩,λh=>absurd rfl h⟩⟩) rfl rfl H
    .rw [az A];rfl
    .rw [az A];rfl
    .rw [az A];rfl
    .rw [az A];rfl
    .rw [ai A,ai A,ai A,ai A,ai A,ai A];rfl
    .rw [ai A,az A];rfl
    .rw [ai A,ai A,az A];rfl
    .rw [ai A,ai A,az A];rfl
    .rw [ai A,ai A,az A];rfl
    .rw [ai A,ai A,ai A,az A];rfl
    .rw [ai A,ai A,ai A,az A];rfl
    .rw [ai A,ai A,ai A,az A];rfl
    .rw [ai A,ai A,ai A,az A];rfl
    .rw [ai A,ai A,ai A,ai A,az A];rfl
    .rw [ai A,ai A,ai A,ai A,ai A,az A];rfl
    .rw [ai A,ai A,ai A,ai A,ai A,ai A];rfl
   .have aM:=bad (rC (by rw [aw];intro a b d h;simp only [a8]at h;rw [h]at p;exact p rfl));rw [aM];exact bj.bU (KO (60::r) (60:Nat) (c:Nat) v l.length B 0 0 0 (λv _=>v=bb 7 0 0 0 0 []) ⟨λ_=>rfl,λ_=>⟨a0,λ_=>⟨aq,call _ rfl,λh=>absurd h A,λ_=>rfl⟩,λ_=>rfl⟩⟩) rfl rfl H
abbrev gu(b a c e f:Int)(d:Bytes):J:=J.agg [.bA b,.av a,.ac c,.V e,.V f,.str d]
abbrev mh(b:Bytes)(a:Int):J:=J.agg [.bA 6,.av 0,.ac 0,.V 0,.V 0,.str (b++[UInt8.ofNat (a.toNat)])]
abbrev kK:T:=(af 26 [(0,bF),(3,bE)])
abbrev nz(b:Bytes)(a:Int):T:=(af 23 [(0,(aL (mh b a))),(3,bE),(17,aa.an [.ac a] 1 true)])
def KR(b:Bytes)(a d c e g h:Int)(f:Bytes)(i:aU)(j:(a=82->bY (b.length+List.length [UInt8.ofNat (a.toNat)])/\i (.tuple [(mh b a),.V 0]) (nz b a))/\(¬a=82->(a=99->bY (b.length+List.length [UInt8.ofNat (a.toNat)])/\i (.tuple [(mh b a),.V 0]) (nz b a))/\(¬a=99->(a=110->bY (b.length+List.length [UInt8.ofNat (a.toNat)])/\i (.tuple [(mh b a),.V 0]) (nz b a))/\(¬a=110->(a=77->bk 110 [.str b,.ac a] kK ((gu d c e g h f)) kK/\i (.tuple [(gu d c e g h f),.V 0]) (af 26 [(0,(aL (gu d c e g h f))),(3,bE)]))/\(¬a=77->(a=109->bk 110 [.str b,.ac a] kK ((gu d c e g h f)) kK/\i (.tuple [(gu d c e g h f),.V 0]) (af 26 [(0,(aL (gu d c e g h f))),(3,bE)]))/\(¬a=109->bk 111 [.str b] (af 28 [(0,bF),(3,bE)]) (.tuple [.slice none 0 0,.aJ]) (af 28 [(0,bF),(3,bE)])/\i (.tuple [e8,.V 0]) (af 33 [(0,bE),(3,bE)]))))))) :
 bl 93 [.str b,.ac a] bG i :=
 bm bL (.al 2001 (ab 3004 .nil)<|.al 2004 (ab 3004 .nil)<|.al 2008 (ab 3004 .nil)<|.al 4001 (ap 5002 (bb d c e g h f) .nil)<|.al 4004 (ap 5002 (bb d c e g h f) .nil)<|ap 6001 (.tuple [.slice none 0 0,.aJ]) .nil) j
def XL(b:Bytes)(a d c e g i:Int)(f:Bytes)(k:Nat)(l:aa)(m:bB)(j:aU)(n:(a=82->bY (b.length+List.length [UInt8.ofNat (a.toNat)])/\j (.tuple [(mh b a),.V 0]) (nz b a))/\(¬a=82->(a=99->bY (b.length+List.length [UInt8.ofNat (a.toNat)])/\j (.tuple [(mh b a),.V 0]) (nz b a))/\(¬a=99->(a=110->bY (b.length+List.length [UInt8.ofNat (a.toNat)])/\j (.tuple [(mh b a),.V 0]) (nz b a))/\(¬a=110->(a=77->bk 110 [.str b,.ac a] kK ((gu d c e g i f)) kK/\j (.tuple [(gu d c e g i f),.V 0]) (af 26 [(0,(aL (gu d c e g i f))),(3,bE)]))/\(¬a=77->(a=109->bk 110 [.str b,.ac a] kK ((gu d c e g i f)) kK/\j (.tuple [(gu d c e g i f),.V 0]) (af 26 [(0,(aL (gu d c e g i f))),(3,bE)]))/\(¬a=109->bk 111 [.str b] (af 28 [(0,bF),(3,bE)]) (.tuple [.slice (some m) k k,.aJ]) (af 29 [(0,bF),(3,bE),(28,l)])/\j (.tuple [e8,.V 0]) (af 34 [(0,bE),(3,bE),(28,l)]))))))) :
 bl 93 [.str b,.ac a] bG j :=
 bm bL (.al 2001 (ab 3004 .nil)<|.al 2004 (ab 3004 .nil)<|.al 2008 (ab 3004 .nil)<|.al 4001 (ap 5002 (bb d c e g i f) .nil)<|.al 4004 (ap 5002 (bb d c e g i f) .nil)<|.aG (.act 6001 (.tuple [.slice (some m) k k,.aJ]) λh=>T.dY h [] [l]) .nil) n
abbrev r'(a:Int):J:=J.agg [.bA 2,.av a,.ac 0,.V 0,.V 0,.str []]
abbrev sa:aa:=(aL jX)
abbrev sb:aa:=(aL lf)
def XM(c:Bytes)(a e d f h i:Int)(g:Bytes)(j:Int)(b:aU)(k:(a=82->bY (c.length+List.length [UInt8.ofNat (a.toNat)])/\b (.tuple [(mh c a),.V 0]) (nz c a))/\(¬a=82->(a=99->bY (c.length+List.length [UInt8.ofNat (a.toNat)])/\b (.tuple [(mh c a),.V 0]) (nz c a))/\(¬a=99->(a=110->bY (c.length+List.length [UInt8.ofNat (a.toNat)])/\b (.tuple [(mh c a),.V 0]) (nz c a))/\(¬a=110->(a=77->bk 110 [.str c,.ac a] kK ((gu e d f h i g)) kK/\b (.tuple [(gu e d f h i g),.V 0]) (af 26 [(0,(aL (gu e d f h i g))),(3,bE)]))/\(¬a=77->(a=109->bk 110 [.str c,.ac a] kK ((gu e d f h i g)) kK/\b (.tuple [(gu e d f h i g),.V 0]) (af 26 [(0,(aL (gu e d f h i g))),(3,bE)]))/\(¬a=109->bk 111 [.str c] (af 28 [(0,bF),(3,bE)]) (.tuple [.slice none 0 0,.aK]) (af 28 [(0,bF),(3,bE)])/\(a=90->b (.tuple [lZ,.V 0]) (af 40 [(0,(aL lZ)),(3,bE)]))/\(¬a=90->(a=73->(a=73->b (.tuple [lf,.V 0]) (af 58 [(0,sb),(3,bE),(49,sb)]))/\(¬a=73->b (.tuple [jX,.V 0]) (af 56 [(0,sa),(3,bE),(49,sa)])))/\(¬a=73->(a=79->(a=73->b (.tuple [lf,.V 0]) (af 58 [(0,sb),(3,bE),(49,sb)]))/\(¬a=73->b (.tuple [jX,.V 0]) (af 56 [(0,sa),(3,bE),(49,sa)])))/\(¬a=79->bk 64 [.ac a] (af 51 [(0,bF),(3,bE)]) (.av j) (af 51 [(0,bF),(3,bE)])/\(0<j->b (.tuple [(r' j),.V 0]) (af 62 [(0,(aL (r' j))),(3,bE)]))/\(¬0<j->b (.tuple [e8,.V 0]) (af 64 [(0,bE),(3,bE)]))))))))))) :
 bl 93 [.str c,.ac a] bG b :=
 bm bL (.al 2001 (ab 3004 .nil)<|.al 2004 (ab 3004 .nil)<|.al 2008 (ab 3004 .nil)<|.al 4001 (ap 5002 (bb e d f h i g) .nil)<|.al 4004 (ap 5002 (bb e d f h i g) .nil)<|ap 6001 (.tuple [.slice none 0 0,.aK])<|.al 9001 .nil<|.al 11001 (.al 13001 .nil .nil)<|.al 11004 (.al 13001 .nil .nil)<|ap 16001 (.av j)<|.al 17001 .nil .nil) k
abbrev qj:b7:=(ap 26001 .aJ<|ap 28001 .aJ .nil)
abbrev KS(a b:Int):J:=J.agg [.bA 2,.av a,.ac b,.V 0,.V 0,.str []]
abbrev gv:J:=J.tuple [e8,.V 0]
abbrev iB(a:aa):T:=(af 118 [(0,bE),(3,bE),(28,a)])
abbrev KT(a:Int)(b:aa)(d:Int)(c:aU):Prop:=(¬d=1->(bz (a == 126))/\(bz (a == 126))/\(bz (a == 117))/\c (gv) (iB b))
abbrev KU(a:Int)(d:Nat)(b:aa)(c:aU):Prop:=(¬(d:Int)=2->(bz (a == 126))/\(bz (a == 126))/\(bz (a == 117))/\c (gv) (iB b))
def XN(k:Bytes)(a e:Int)(g c:Nat)(b:aa)(j:Int)(i:Bool)(f n o m p r s:Int)(q:Bytes)(d:aU)(l:(bz (a == 82))/\(bz (a == 99))/\(bz (a == 110))/\(bz (a == 77))/\(bz (a == 109))/\bk 111 [.str k] (af 28 [(0,bF),(3,bE)]) (.tuple [.aB 28 g 0 c c,.aK]) (af 29 [(0,bF),(3,bE),(28,b)])/\(bz (a == 90))/\(bz (a == 73))/\(bz (a == 79))/\bk 64 [.ac a] (af 52 [(0,bF),(3,bE),(28,b)]) (.av e) (af 52 [(0,bF),(3,bE),(28,b)])/\(cX (decide (e>0)))/\((c:Int)=0->d (.tuple [(r' e),.V 0]) (af 63 [(0,(aL (r' e))),(3,bE),(28,b)]))/\(¬(c:Int)=0->((c:Int)=0->d (gv) (af 65 [(0,bE),(3,bE),(28,b)]))/\(¬(c:Int)=0->bk 112 [.aB 28 g 0 c c,.V 1] (af 69 [(0,bF),(3,bE),(28,b)]) (.tuple [.ac j,.bool i]) (af 69 [(0,bF),(3,bE),(28,b)])/\(i=true->(cX (decide (e>0)))/\((c:Int)=2->(fL 0 c)/\a6 env.D 3 ⟨28,g,0,0,1⟩ (af 85 [(0,bF),(3,bE),(28,b)])=some (.V f)/\(f=1->d (.tuple [(KS e j),.V 0]) (af 90 [(0,(aL (KS e j))),(3,bE),(28,b)]))/\(KT a b f d))/\(KU a c b d))/\(i=false->(cX (decide (e>0)))/\((c:Int)=2->(fL 0 c)/\a6 env.D 3 ⟨28,g,0,0,1⟩ (af 85 [(0,bF),(3,bE),(28,b)])=some (.V f)/\(f=1->(bz (a == 126))/\(bz (a == 126))/\(bz (a == 117))/\d (gv) (iB b))/\(KT a b f d))/\(KU a c b d))))) :
 bl 93 [.str k,.ac a] bG d :=
 bm bL (ap 2001 .aJ<|ap 2004 .aJ<|ap 2008 .aJ<|ap 4001 .aJ<|ap 4004 .aJ<|.aG (.act 6001 (.tuple [.aB 28 g 0 c c,.aK]) λh=>T.dY h [] [b])<|ap 9001 .aJ<|ap 11001 .aJ<|ap 11004 .aJ<|ap 16001 (.av e)<|ap 17001 .aK<|.al 17005 .nil<|.al 19002 .nil<|ap 21001 (.tuple [.ac j,.bool i])<|.al 21004 (ap 22001 .aK<|.al 22005 (ab 22009<|ap 22010 (.V f)<|.al 22011 .nil<|ap 24001 .aJ qj)<|ap 24001 .aJ qj)<|ap 22001 .aK<|.al 22005 (ab 22009<|ap 22010 (.V f)<|.al 22011 (ap 24001 .aJ qj)<|ap 24001 .aJ qj)<|ap 24001 .aJ qj) l
def XO(i:Bytes)(a k:Int)(f c:Nat)(b:aa)(g:Int)(e:Bool)(s m n l o q r:Int)(p:Bytes)(d:aU)(j:(bz (a == 82))/\(bz (a == 99))/\(bz (a == 110))/\(bz (a == 77))/\(bz (a == 109))/\bk 111 [.str i] (af 28 [(0,bF),(3,bE)]) (.tuple [.aB 28 f 0 c c,.aK]) (af 29 [(0,bF),(3,bE),(28,b)])/\(bz (a == 90))/\(bz (a == 73))/\(bz (a == 79))/\bk 64 [.ac a] (af 52 [(0,bF),(3,bE),(28,b)]) (.av 0) (af 52 [(0,bF),(3,bE),(28,b)])/\((c:Int)=0->d (gv) (af 65 [(0,bE),(3,bE),(28,b)]))/\(¬(c:Int)=0->bk 112 [.aB 28 f 0 c c,.V 1] (af 69 [(0,bF),(3,bE),(28,b)]) (.tuple [.ac g,.bool e]) (af 69 [(0,bF),(3,bE),(28,b)])/\(e=true->(bz (a == 126))/\(bz (a == 126))/\(bz (a == 117))/\d (gv) (iB b))/\(e=false->(bz (a == 126))/\(bz (a == 126))/\(bz (a == 117))/\d (gv) (iB b)))) :
 bl 93 [.str i,.ac a] bG d :=
 bm bL (ap 2001 .aJ<|ap 2004 .aJ<|ap 2008 .aJ<|ap 4001 .aJ<|ap 4004 .aJ<|.aG (.act 6001 (.tuple [.aB 28 f 0 c c,.aK]) λh=>T.dY h [] [b])<|ap 9001 .aJ<|ap 11001 .aJ<|ap 11004 .aJ<|ap 16001 (.av 0)<|.al 19002 .nil<|ap 21001 (.tuple [.ac g,.bool e])<|.al 21004 (ap 24001 .aJ qj)<|ap 24001 .aJ qj) j
abbrev XP(b a:Int):b7:=(.al 26010 (ab 27001 (ap 27002 (.V b) (ap 27003 (.av a) .nil))) .nil)
abbrev KV(b a:Int):J:=J.agg [.bA 2,.av a,.ac b,.V 0,.V 0,.str []]
abbrev KW(b a:Int):b7:=(ab 26007<|ap 26008 (.V b)<|ap 26009 (.av a) (XP b a))
abbrev sc(a:aa):T:=(af 110 [(0,bF),(3,bE),(28,a)])
abbrev DE(a:aa):T:=(af 118 [(0,bF),(3,bE),(28,a)])
abbrev KX(g f:Nat)(a:aa)(c d b:Int)(e:aU):Prop:=(0<b->(fL 0 f)/\a6 env.D 3 ⟨28,g,0,0,1⟩ (DE a)=some (.V d)/\bk 65 [.V d] (DE a) (.av b) (DE a)/\e (.tuple [(KV c b),.V 0]) (af 118 [(0,(aL (KV c b))),(3,bE),(28,a)]))
def XQ(j:Bytes)(l:Int)(e b:Nat)(a:aa)(i:Int)(g:Bool)(c f n m o q r:Int)(p:Bytes)(d:aU)(k:bk 111 [.str j] (af 28 [(0,bF),(3,bE)]) (.tuple [.aB 28 e 0 b b,.aK]) (af 29 [(0,bF),(3,bE),(28,a)])/\bk 64 [.ac 126] (af 52 [(0,bF),(3,bE),(28,a)]) (.av 0) (af 52 [(0,bF),(3,bE),(28,a)])/\((b:Int)=0->d (gv) (af 65 [(0,bE),(3,bE),(28,a)]))/\(¬(b:Int)=0->bk 112 [.aB 28 e 0 b b,.V 1] (af 69 [(0,bF),(3,bE),(28,a)]) (.tuple [.ac i,.bool g]) (af 69 [(0,bF),(3,bE),(28,a)])/\(g=true->((b:Int)=1->(fL 0 b)/\a6 env.D 3 ⟨28,e,0,0,1⟩ (af 98 [(0,bF),(3,bE),(28,a)])=some (.V c)/\(c=200->d (.tuple [fE,.V 1]) (af 101 [(0,dk),(3,bE),(28,a)]))/\(¬c=200->(fL 0 b)/\a6 env.D 3 ⟨28,e,0,0,1⟩ (sc a)=some (.V c)/\bk 65 [.V c] (sc a) (.av f) (sc a)/\(KX e b a i c f d)/\(¬0<f->d (gv) (iB a))))/\(¬(b:Int)=1->(fL 0 b)/\a6 env.D 3 ⟨28,e,0,0,1⟩ (sc a)=some (.V c)/\bk 65 [.V c] (sc a) (.av f) (sc a)/\(KX e b a i c f d)/\(¬0<f->d (gv) (iB a))))/\(g=false->((b:Int)=1->(fL 0 b)/\a6 env.D 3 ⟨28,e,0,0,1⟩ (af 98 [(0,bF),(3,bE),(28,a)])=some (.V c)/\(c=200->d (.tuple [fE,.V 1]) (af 101 [(0,dk),(3,bE),(28,a)]))/\(¬c=200->d (gv) (iB a)))/\(¬(b:Int)=1->d (gv) (iB a))))) :
 bl 93 [.str j,.ac 126] bG d :=
 bm bL (.aG (.act 6001 (.tuple [.aB 28 e 0 b b,.aK]) λh=>T.dY h [] [a])<|ap 16001 (.av 0)<|.al 19002 .nil<|ap 21001 (.tuple [.ac i,.bool g])<|.al 21004 (.al 24005 (ab 24009<|ap 24010 (.V c)<|.al 24011 .nil (KW c f)) (KW c f))<|.al 24005 (ab 24009 (ap 24010 (.V c) (.al 24011 .nil .nil))) .nil) k
abbrev DF(b a c e f:Int)(d:Bytes):J:=J.agg [.bA b,.av a,.ac c,.V e,.V f,.str d]
abbrev DG(a:aa):T:=(af 122 [(0,bF),(3,bE),(28,a)])
def XR(o:Bytes)(q:Int)(j b:Nat)(a:aa)(m:Int)(g:Bool)(n r e d f k l:Int)(i:Bytes)(c:aU)(p:bk 111 [.str o] (af 28 [(0,bF),(3,bE)]) (.tuple [.aB 28 j 0 b b,.aK]) (af 29 [(0,bF),(3,bE),(28,a)])/\bk 64 [.ac 117] (af 52 [(0,bF),(3,bE),(28,a)]) (.av 0) (af 52 [(0,bF),(3,bE),(28,a)])/\((b:Int)=0->c (gv) (af 65 [(0,bE),(3,bE),(28,a)]))/\(¬(b:Int)=0->bk 112 [.aB 28 j 0 b b,.V 1] (af 69 [(0,bF),(3,bE),(28,a)]) (.tuple [.ac m,.bool g]) (af 69 [(0,bF),(3,bE),(28,a)])/\(g=true->(fL 0 b)/\a6 env.D 3 ⟨28,j,0,0,1⟩ (DG a)=some (.V n)/\bk 113 [.V n,.ac m] (DG a) ((DF e d f k l i)) (DG a)/\c (.tuple [(DF e d f k l i),.V 0]) (af 122 [(0,(aL (DF e d f k l i))),(3,bE),(28,a)]))/\(g=false->c (gv) (iB a)))) :
 bl 93 [.str o,.ac 117] bG c :=
 bm bL (.aG (.act 6001 (.tuple [.aB 28 j 0 b b,.aK]) λh=>T.dY h [] [a])<|ap 16001 (.av 0)<|.al 19002 .nil<|ap 21001 (.tuple [.ac m,.bool g])<|.al 21004 (ab 29001 (ap 29002 (.V n) (ap 29004 (bb e d f k l i) .nil))) .nil) p
def XS(g:Bytes)(j:Int)(e b:Nat)(a:aa)(f:Int)(d:Bool)(r l m k n p q:Int)(o:Bytes)(c:aU)(i:bk 111 [.str g] (af 28 [(0,bF),(3,bE)]) (.tuple [.aB 28 e 0 b b,.aK]) (af 29 [(0,bF),(3,bE),(28,a)])/\((b:Int)=0->c (.tuple [lZ,.V 0]) (af 41 [(0,(aL lZ)),(3,bE),(28,a)]))/\(¬(b:Int)=0->bk 64 [.ac 90] (af 52 [(0,bF),(3,bE),(28,a)]) (.av 0) (af 52 [(0,bF),(3,bE),(28,a)])/\((b:Int)=0->c (gv) (af 65 [(0,bE),(3,bE),(28,a)]))/\(¬(b:Int)=0->bk 112 [.aB 28 e 0 b b,.V 1] (af 69 [(0,bF),(3,bE),(28,a)]) (.tuple [.ac f,.bool d]) (af 69 [(0,bF),(3,bE),(28,a)])/\(d=true->c (gv) (iB a))/\(d=false->c (gv) (iB a))))) :
 bl 93 [.str g,.ac 90] bG c :=
 bm bL (.aG (.act 6001 (.tuple [.aB 28 e 0 b b,.aK]) λh=>T.dY h [] [a])<|.al 9005 .nil<|ap 16001 (.av 0)<|.al 19002 .nil<|ap 21001 (.tuple [.ac f,.bool d])<|.al 21004 .nil .nil) i
def XT(g:Bytes)(j:Int)(e b:Nat)(a:aa)(f:Int)(d:Bool)(r l m k n p q:Int)(o:Bytes)(c:aU)(i:bk 111 [.str g] (af 28 [(0,bF),(3,bE)]) (.tuple [.aB 28 e 0 b b,.aK]) (af 29 [(0,bF),(3,bE),(28,a)])/\((b:Int)=0->c (.tuple [lf,.V 0]) (af 59 [(0,sb),(3,bE),(28,a),(50,sb)]))/\(¬(b:Int)=0->bk 64 [.ac 73] (af 52 [(0,bF),(3,bE),(28,a)]) (.av 0) (af 52 [(0,bF),(3,bE),(28,a)])/\((b:Int)=0->c (gv) (af 65 [(0,bE),(3,bE),(28,a)]))/\(¬(b:Int)=0->bk 112 [.aB 28 e 0 b b,.V 1] (af 69 [(0,bF),(3,bE),(28,a)]) (.tuple [.ac f,.bool d]) (af 69 [(0,bF),(3,bE),(28,a)])/\(d=true->c (gv) (iB a))/\(d=false->c (gv) (iB a))))) :
 bl 93 [.str g,.ac 73] bG c :=
 bm bL (.aG (.act 6001 (.tuple [.aB 28 e 0 b b,.aK]) λh=>T.dY h [] [a])<|.al 11009 .nil<|ap 16001 (.av 0)<|.al 19002 .nil<|ap 21001 (.tuple [.ac f,.bool d])<|.al 21004 .nil .nil) i
def XU(g:Bytes)(j:Int)(e b:Nat)(a:aa)(f:Int)(d:Bool)(r l m k n p q:Int)(o:Bytes)(c:aU)(i:bk 111 [.str g] (af 28 [(0,bF),(3,bE)]) (.tuple [.aB 28 e 0 b b,.aK]) (af 29 [(0,bF),(3,bE),(28,a)])/\((b:Int)=0->c (.tuple [jX,.V 0]) (af 57 [(0,sa),(3,bE),(28,a),(50,sa)]))/\(¬(b:Int)=0->bk 64 [.ac 79] (af 52 [(0,bF),(3,bE),(28,a)]) (.av 0) (af 52 [(0,bF),(3,bE),(28,a)])/\((b:Int)=0->c (gv) (af 65 [(0,bE),(3,bE),(28,a)]))/\(¬(b:Int)=0->bk 112 [.aB 28 e 0 b b,.V 1] (af 69 [(0,bF),(3,bE),(28,a)]) (.tuple [.ac f,.bool d]) (af 69 [(0,bF),(3,bE),(28,a)])/\(d=true->c (gv) (iB a))/\(d=false->c (gv) (iB a))))) :
 bl 93 [.str g,.ac 79] bG c :=
 bm bL (.aG (.act 6001 (.tuple [.aB 28 e 0 b b,.aK]) λh=>T.dY h [] [a])<|.al 11009 .nil<|ap 16001 (.av 0)<|.al 19002 .nil<|ap 21001 (.tuple [.ac f,.bool d])<|.al 21004 .nil .nil) i
def gT(s:Bytes)(c:UInt8):aP×Int :=
 if c=126/\Keys.numbers s=some [200]then(⟨0,0,0,0,0,[]⟩,1)else((Keys.told s c).getD (dc []),0)
variable {c:UInt8}
def XV(h:c.toNat=k)(a:k<256):c=UInt8.ofNat k:=by rw [<-h];exact(UInt8.ofNat_toNat).symm
def XW(h:c=82\/c=99\/c=110):gT s c=(⟨6,0,0,0,0,s++[c]⟩,0):=by unfold gT Keys.told;rw [ai (by rintro ⟨q,_⟩;subst q;revert h;decide),az h];rfl
def XX(h:c=77\/c=109):gT s c=(oT s c.toNat,0):=by unfold gT Keys.told;rw [ai (by rintro ⟨q,_⟩;subst q;revert h;decide),ai (by rcases h with rfl|rfl<;>decide),az h];rfl
def KY(Y:¬(c=82\/c=99\/c=110))(ag:¬(c=77\/c=109))(aw:Keys.numbers s=none):gT s c=(dc [],0):=by unfold gT Keys.told;rw [aw,ai (by rintro ⟨_,q⟩;cases q),ai Y,ai ag];rfl
def uW(Y:¬(c=82\/c=99\/c=110))(ag:¬(c=77\/c=109))(aw:Keys.numbers s=some []) :
 gT s c=((if c=90 then some (dp 2 1)else if c=73 then some {kind:=5,code:=1} else if c=79 then some {kind:=5} else if 0<Keys.dJ c.toNat then some (dp (Keys.dJ c.toNat))else none:Option aP).getD (dc []),0):=by
 unfold gT Keys.told;rw [aw,ai (by rintro ⟨_,q⟩;cases q),ai Y,ai ag]
def XY{a:List Nat}(Y:¬(c=82\/c=99\/c=110))(ag:¬(c=77\/c=109))(f:a≠[])(aw:Keys.numbers s=some a) :
 gT s c=if c=126/\a=[200]then(⟨0,0,0,0,0,[]⟩,1)else
  ((if(e3 a).2=false then none
    else if 0<Keys.dJ c.toNat/\a.getD 0 0=1/\a.length=2 then some (dp (Keys.dJ c.toNat) (e3 a).1)
    else if c=126/\0<Keys.gQ (a.getD 0 0)then some (dp (Keys.gQ (a.getD 0 0)) (e3 a).1)
    else if c=117 then Keys.c1 (a.getD 0 0) (e3 a).1 else none:Option aP).getD (dc []),0):=by
 unfold gT;rw [aw];simp only [a8];by_cases ae:c=126/\a=[200]
 .rw [az ae,az ae]
 .rw [ai ae,ai ae];unfold Keys.told;rw [aw,ai Y,ai ag]
  match a,f with
  |[d],_ =>
   simp only [e3,qA,dG,qD];simp
  |[d,x],_ =>
   simp only [e3,bK,cq,qD,List.getD_cons_succ];by_cases b:1<=x/\x<=8
   .have e:((x-1:Nat):Int)=(x:Int)-1:= A;simp [b,e,show ¬((x:Int)<1\/8<(x:Int))by omega]
   .have:(x:Int)<1\/8<(x:Int):= A;simp [b,this]
  |d::x::y::r,_ =>
   simp [e3]
def mi{c:Nat}{k:Int}(h:(c:Int)≠k):(some (J.bool ((c:Int) == k)):Option J)=some (.bool false):=by rw [mv h]
def XZ(h:¬0<Keys.dJ k):Keys.dJ k=0:=by
 unfold Keys.dJ at h⊢
 repeat' split
 all_goals (first|rfl|(exfalso;revert h;simp [*];omega)|omega)
abbrev ew(s:Bytes)(c:UInt8):J:= .tuple [bp (gT s c).1,.int .i64 (gT s c).2]
def X0(hs:s.length<2^40)(c:UInt8)(H:T):be 93 [.str s,.ac (c.toNat:Nat)] H (ew s c) H:=by
 have l:∀k:Nat,k<256->(c.toNat=k↔c=UInt8.ofNat k):=λk U=>⟨λh=>XV h U,λh=>by rw [h];exact UInt8.toNat_ofNat_of_lt' U⟩
 have o:c.toNat=82\/c.toNat=99\/c.toNat=110->Nat.le (Nat.succ (List.length s+List.length [UInt8.ofNat (Int.toNat (c.toNat:Nat))])) (2^62)/\(.tuple [bb 6 0 0 0 0 (s++[UInt8.ofNat (Int.toNat (c.toNat:Nat))]),.V (0)]:J)=ew s c:=λh=>by
  have e:UInt8.ofNat (Int.toNat (c.toNat:Nat))=c:=by rw [fS];exact UInt8.ofNat_toNat
  refine⟨?_,?_⟩
  .show Nat.succ (s.length+1)<=2^62;omega
  .unfold ew;rw [e,XW (by rw [l 82 aC,l 99 aC,l 110 aC]at h;exact h)];rfl
 have w:c.toNat=77\/c.toNat=109->ew s c=.tuple [bp (oT s c.toNat),.V 0]:=λh=>by unfold ew;rw [XX (by rw [l 77 aC,l 109 aC]at h;exact h)]
 have G:¬(c.toNat=82\/c.toNat=99\/c.toNat=110)-> ¬(c=82\/c=99\/c=110):=λh=>by rw [l 82 aC,l 99 aC,l 110 aC]at h;exact h
 have I:¬(c.toNat=77\/c.toNat=109)-> ¬(c=77\/c=109):=λh=>by rw [l 77 aC,l 109 aC]at h;exact h
 have u:=λh=>XK hs (c:=c.toNat) h
 generalize oT s c.toNat=E at w u;obtain⟨k,d,m,x,y,t⟩:=E;have bad:(.tuple [bb 7 0 0 0 0 [],.V (0)]:J)=.tuple [bp (dc []),.V 0]:=rfl;rcases KQ hs with ⟨aw,N|⟨n,v,B,N⟩⟩|⟨aw,N⟩|⟨f,a9,aw,v,B,c2,N⟩
 .refine bj.bU (KR s (c.toNat:Nat) k d m x y t (λv _=>v=ew s c) ⟨λh=>o A,λg1=>⟨λh=>o A,λg2=>⟨λh=>o A,λg3=>⟨λh=>⟨⟨u A _⟩,(w A).symm⟩,λg4=>⟨λh=>⟨⟨u A _⟩,(w A).symm⟩,λg5=>⟨⟨N _⟩,?_⟩⟩⟩⟩⟩⟩) rfl rfl H;unfold ew;rw [KY (G A) (I A) aw];rfl
 .refine bj.bU (XL s (c.toNat:Nat) k d m x y t n B ⟨28,v,0,0,1⟩ (λv _=>v=ew s c) ⟨λh=>o A,λg1=>⟨λh=>o A,λg2=>⟨λh=>o A,λg3=>⟨λh=>⟨⟨u A _⟩,(w A).symm⟩,λg4=>⟨λh=>⟨⟨u A _⟩,(w A).symm⟩,λg5=>⟨⟨N _⟩,?_⟩⟩⟩⟩⟩⟩) rfl rfl H;unfold ew;rw [KY (G A) (I A) aw];rfl
 .have K:=λh=>Dy c.toNat h
  refine bj.bU (XM s (c.toNat:Nat) k d m x y t (Keys.dJ c.toNat) (λv _=>v=ew s c) ⟨λh=>o A,λg1=>⟨λh=>o A,λg2=>⟨λh=>o A,λg3=>⟨λh=>⟨⟨u A _⟩,(w A).symm⟩,λg4=>⟨λh=>⟨⟨u A _⟩,(w A).symm⟩,λg5=>⟨⟨N _⟩,
   λd5=> ?_,λam=>⟨λd1=>⟨λ_=> ?_,λq=>absurd d1 q⟩,λX=>⟨λd4=>⟨λq=>absurd q X,λ_=> ?_⟩,λc5=>⟨⟨K _⟩,λF=> ?_,λF=> ?_⟩⟩⟩⟩⟩⟩⟩⟩⟩) rfl rfl H
  .unfold ew;rw [uW (G A) (I A) aw,az (show c=90 from(l 90 aC).1 A)];rfl
  .unfold ew;rw [uW (G A) (I A) aw,ai (λq=>am (by rw [q];rfl)),az (show c=73 from(l 73 aC).1 A)];rfl
  .unfold ew;rw [uW (G A) (I A) aw,ai (λq=>am (by rw [q];rfl)),ai (λq=>X (by rw [q];rfl)),az (show c=79 from(l 79 aC).1 A)];rfl
  .unfold ew;rw [uW (G A) (I A) aw,ai (λq=>am (by rw [q];rfl)),ai (λq=>X (by rw [q];rfl)),ai (λq=>c5 (by rw [q];rfl)),az F];rfl
  .unfold ew;rw [uW (G A) (I A) aw,ai (λq=>am (by rw [q];rfl)),ai (λq=>X (by rw [q];rfl)),ai (λq=>c5 (by rw [q];rfl)),ai F];rfl
 .by_cases d3:c.toNat=82\/c.toNat=99\/c.toNat=110\/c.toNat=77\/c.toNat=109
  .exact bj.bU (KR s (c.toNat:Nat) k d m x y t (λv _=>v=ew s c) ⟨λh=>o A,λg1=>⟨λh=>o A,λg2=>⟨λh=>o A,λg3=>⟨λh=>⟨⟨u A _⟩,(w A).symm⟩,λg4=>⟨λh=>⟨⟨u A _⟩,(w A).symm⟩,λg5=>absurd d3 A⟩⟩⟩⟩⟩) rfl rfl H
  .have i :=XY (s:=s) (G A) (I A) a9 aw;have c3:0<f.length:=gk.2 a9;have call:∀h:T,h.M=28->bk 111 [.str s] h (.tuple [.aB 28 v 0 f.length f.length,.bool true]) (h.dY [] [B]):=λh e=>⟨by rw [<-e];exact N h⟩
   have md:∀h:T,28<h.M->h.get 28=some B->bk 112 [.aB 28 v 0 f.length f.length,.V (1)] h (.tuple [.ac (e3 f).1,.bool (e3 f).2]) h:=λh Y ag=>⟨XJ c2 Y ag⟩
   have eo:∀h:T,h.get 28=some B->a6 (bi.D env) 3 ⟨28,v,0,0,1⟩ h=some (.V (f.getD 0 0:Nat)):=λh e=>by rw [hC,ds c3];exact c2.load c3 e
   have O:f=[200]↔f.length=1/\f.getD 0 0=200:=by
    match f,a9 with
    |[a],_=>simp
    |a::b::r,_=>simp
   have c9:f.length=1->(e3 f).2=true:=λh=>by unfold e3;rw [az h]
   have P:=λh=>Xa (f.getD 0 0) h
   have S:=λh=>Xb (f.getD 0 0) (e3 f).1 h
   have R:bp (me (f.getD 0 0) (e3 f).1)=bp ((Keys.c1 (f.getD 0 0) (e3 f).1).getD (dc [])):=rfl;generalize me (f.getD 0 0) (e3 f).1=C at S R;obtain⟨c4,d2,m2,dg,d0,t2⟩:=C;generalize d7:(e3 f).1=q at md i S R;generalize d6:(e3 f).2=ok at md i c9;generalize W:f.getD 0 0=z at eo i P S R O;have K:=λh=>Dy c.toNat h
   by_cases Q:c=126
   .subst Q;have a0:Keys.dJ (126:UInt8).toNat=0:= aC;rw [a0]at K i
    refine bj.bU (XQ s 0 v f.length B q ok z (Keys.gQ z) c4 d2 m2 dg d0 t2 (λv _=>v=ew s 126) ⟨call _ rfl,⟨K _⟩,λh=>absurd h A,λ_=>⟨md _ (by show 28<69;decide) rfl,λg=>⟨λY=>⟨⟨A,A⟩,eo _ rfl,λW=> ?_,λW=>⟨⟨A,A⟩,eo _ rfl,⟨P _⟩,λhe=>⟨⟨A,A⟩,eo _ rfl,⟨P _⟩,?_⟩,λhe=> ?_⟩⟩,λY=>⟨⟨A,A⟩,eo _ rfl,⟨P _⟩,λhe=>⟨⟨A,A⟩,eo _ rfl,⟨P _⟩,?_⟩,λhe=> ?_⟩⟩,
     λg=>⟨λY=>absurd (c9 A) (by rw [g];decide),λY=> ?_⟩⟩⟩) rfl rfl H
    .unfold ew;rw [i,az ⟨rfl,O.2 ⟨A,A⟩⟩];rfl
    .unfold ew;rw [i,ai (λq=>W (by have:=(O.1 q.2).2;omega)),g,ai aC,ai (λq=>absurd q.1 aC),az ⟨rfl,he⟩];rfl
    .unfold ew;rw [i,ai (λq=>W (by have:=(O.1 q.2).2;omega)),g,ai aC,ai (λq=>absurd q.1 aC),ai (λq=>he q.2),ai aC];rfl
    .unfold ew;rw [i,ai (λq=>Y (by have:=(O.1 q.2).1;omega)),g,ai aC,ai (λq=>absurd q.1 aC),az ⟨rfl,he⟩];rfl
    .unfold ew;rw [i,ai (λq=>Y (by have:=(O.1 q.2).1;omega)),g,ai aC,ai (λq=>absurd q.1 aC),ai (λq=>he q.2),ai aC];rfl
    .unfold ew;rw [i,ai (λq=>Y (by have:=(O.1 q.2).1;omega)),g,az rfl];rfl
   .rw [ai (λq=>Q q.1)]at i;rw [ai (c:=c=126/\0<Keys.gQ z) (λq=>Q q.1)]at i
    have no:(ok=false\/ ¬(0<Keys.dJ c.toNat/\z=1/\f.length=2))->c≠117->(.tuple [bb 7 0 0 0 0 [],.V (0)]:J)=ew s c:=λY ag=>by
     unfold ew;rw [i];rcases Y with Y|Y
     .rw [az Y];rfl
     .rw [ai Y,ai ag];cases ok<;>rfl
    have lit:∀k:UInt8,c=k->Keys.dJ k.toNat=0-> ∀h,be 64 [.ac (k.toNat:Nat)] h (.av (0)) h:=λk e aM h=>by have:=K h;rw [e,aM]at this;exact this
    by_cases c117:c=117
    .have a0:=lit 117 c117 aC;subst c117;rw [show Keys.dJ (117:UInt8).toNat=0 by decide]at i;refine bj.bU (XR s 0 v f.length B q ok z 0 c4 d2 m2 dg d0 t2 (λv _=>v=ew s 117) ⟨call _ rfl,⟨a0 _⟩,λh=>absurd h A,λ_=>⟨md _ (by show 28<69;decide) rfl,λg=>⟨⟨A,A⟩,eo _ rfl,⟨S _⟩,?_⟩,λg=> ?_⟩⟩) rfl rfl H
     .unfold ew;rw [i,g,ai aC,ai (λq=>absurd q.1 aC),az rfl];show _=J.tuple [bp ((Keys.c1 z q).getD (dc [])),_];rw [<-R];rfl
     .unfold ew;rw [i,az g];rfl
    .by_cases a5:c=90
     .have a0:=lit 90 a5 aC;subst a5;have p:=no (.inr λq=>absurd q.1 aC) aC;exact bj.bU (XS s 0 v f.length B q ok z 0 0 0 0 0 0 [] (λv _=>v=ew s 90) ⟨call _ rfl,λh=>absurd h A,λ_=>⟨⟨a0 _⟩,λh=>absurd h A,λ_=>⟨md _ (by show 28<69;decide) rfl,λ_=>p,λ_=>p⟩⟩⟩) rfl rfl H
     .by_cases a3:c=73
      .have a0:=lit 73 a3 aC;subst a3;have p:=no (.inr λq=>absurd q.1 aC) aC;exact bj.bU (XT s 0 v f.length B q ok z 0 0 0 0 0 0 [] (λv _=>v=ew s 73) ⟨call _ rfl,λh=>absurd h A,λ_=>⟨⟨a0 _⟩,λh=>absurd h A,λ_=>⟨md _ (by show 28<69;decide) rfl,λ_=>p,λ_=>p⟩⟩⟩) rfl rfl H
      .by_cases a4:c=79
       .have a0:=lit 79 a4 aC;subst a4;have p:=no (.inr λq=>absurd q.1 aC) aC;exact bj.bU (XU s 0 v f.length B q ok z 0 0 0 0 0 0 [] (λv _=>v=ew s 79) ⟨call _ rfl,λh=>absurd h A,λ_=>⟨⟨a0 _⟩,λh=>absurd h A,λ_=>⟨md _ (by show 28<69;decide) rfl,λ_=>p,λ_=>p⟩⟩⟩) rfl rfl H
       .have ne:∀k:Nat,k<256->c≠UInt8.ofNat k->((c.toNat:Nat):Int)≠(k:Int):=λk U h q=>h ((l k U).1 A)
        have j:=mi (ne 126 aC Q);have L:=mi (ne 117 aC c117);have ct:=mi (ne 90 aC a5);have bv:=mi (ne 73 aC a3);have co:=mi (ne 79 aC a4);have cs:=mi (c:=c.toNat) (k:=82) A;have c0:=mi (c:=c.toNat) (k:=99) A;have bs:=mi (c:=c.toNat) (k:=110) A;have ce:=mi (c:=c.toNat) (k:=77) A;have bn:=mi (c:=c.toNat) (k:=109) A;by_cases F:0<Keys.dJ c.toNat
        .have pos:(some (J.bool (decide (Keys.dJ c.toNat>0))):Option J)=some (.bool true):=by rw [iH F]
         refine bj.bU (XN s (c.toNat:Nat) (Keys.dJ c.toNat) v f.length B q ok z 0 0 0 0 0 0 [] (λv _=>v=ew s c) ⟨cs,c0,bs,ce,bn,call _ rfl,ct,bv,co,⟨K _⟩,pos,λh=>absurd h A,λ_=>⟨λh=>absurd h A,λ_=>⟨md _ (by show 28<69;decide) rfl,λg=>⟨pos,λag=>⟨⟨A,A⟩,eo _ rfl,λa2=> ?_,λa2=>⟨j,j,L,?_⟩⟩,λag=>⟨j,j,L,?_⟩⟩,
          λg=>⟨pos,λag=>⟨⟨A,A⟩,eo _ rfl,λa2=>⟨j,j,L,?_⟩,λa2=>⟨j,j,L,?_⟩⟩,λag=>⟨j,j,L,?_⟩⟩⟩⟩⟩) rfl rfl H
         .unfold ew;rw [i,g,ai aC,az ⟨F,A,A⟩];rfl
         .exact no (.inr λq=>a2 A) c117
         .exact no (.inr λq=>ag A) c117
         .exact no (.inl g) c117
         .exact no (.inl g) c117
         .exact no (.inl g) c117
        .have p:=no (.inr λq=>F q.1) c117;have a0:=λh=>by have:=K h;rw [XZ F]at this;exact this
         exact bj.bU (XO s (c.toNat:Nat) 0 v f.length B q ok z 0 0 0 0 0 0 [] (λv _=>v=ew s c) ⟨cs,c0,bs,ce,bn,call _ rfl,ct,bv,co,⟨a0 _⟩,λh=>absurd h A,λ_=>⟨md _ (by show 28<69;decide) rfl,λg=>⟨j,j,L,p⟩,λg=>⟨j,j,L,p⟩⟩⟩) rfl rfl H
abbrev cZ(e:J):aa:=aa.an [e] 6 true (some (42,6))
abbrev yz(b:Bytes)(a:Nat):J:=J.agg [.bA 7,.av 0,.ac 0,.V 0,.V 0,.str (b.take a)]
def X1(b:Bytes)(a:Nat)(c:Int)(d:b8->bc->T->Prop)(g:((a:Int)<(↑(b.length):Int)->c' env.D 9 (.str b) (.V a)=some (.ac c)/\(bz (decide (c≥64)))/\(c<32->(0<=(a:Int)/\(a:Int)<=(↑(b.length):Int))/\d .ret [(0,.str b),(2,J.aT 50),(3,.V a),(4,.V 0),(5,.aK),(6,.V a)] (af 95 [(50,(aL (yz b a)))]))/\(¬c<32->(bz (decide (c>63)))/\(48<=c->(0<=(a:Int)/\(a:Int)<=(↑(b.length):Int))/\d .ret [(0,.str b),(2,J.aT 50),(3,.V a),(4,.V 0),(5,.aK),(6,.V a)] (af 95 [(50,(aL (yz b a)))]))/\(¬48<=c->(bd ((a:Int)+1))/\((a:Int)+1=64->(bd ((a:Int)+1))/\(0<=(a:Int)+1/\(a:Int)+1<=(↑(b.length):Int))/\(bd ((a:Int)+1))/\d .ret [(0,.str b),(2,J.aT 50),(3,.V ((a:Int)+1)),(4,.V 0),(5,.aK),(6,.V a)] (af 106 [(50,(aL (.agg [.bA 7,.av 0,.ac 0,.V 0,.V 0,.str (b.take (a+1))])))]))/\(¬(a:Int)+1=64->(bd ((a:Int)+1))/\d .normal [(0,.str b),(2,J.aT 50),(5,.aK),(6,.V ((a:Int)+1))] (af 99 [(50,dk)])))))/\(¬(a:Int)<(↑(b.length):Int)->d (.exit 0) [(0,.str b),(2,J.aT 50),(5,.aK),(6,.V a)] (af 64 [(50,dk)]))) :
 ∃e f Y,bN 0 79 (bu 67 0) [(0,.str b),(2,J.aT 50),(5,.aK),(6,.V (a:Nat))] (T.rows 60 [(50,cZ (bb 0 0 0 0 0 []))]) e f Y/\d e f Y :=
 dD c6 mixed bL (hs:= .al 3003 (ap 5002 (.ac c) (ap 6001 .aJ (.al 11001 (ab 12002 .nil) (ap 11004 .aJ (.al 11010 (ab 12002 .nil) (ab 14001 (.al 14002 (ab 15002 (ab 15003 (ab 15006 .nil))) (ab 4001 .nil)))))))) .nil) (keep:=[0,2,3,4,5,6]) ao g
abbrev KZ:b7:=(.al 14002 (ab 15002<|ab 15003<|ab 15006 .nil)<|ab 4001 .nil)
abbrev K0(b:Bytes)(a:Nat):J:=J.agg [.bA 7,.av 0,.ac 0,.V 0,.V 0,.str (b.take (a+1))]
def X2(b:Bytes)(a:Nat)(c:Int)(d:b8->bc->T->Prop)(g:((a:Int)<(↑(b.length):Int)->c' env.D 9 (.str b) (.V a)=some (.ac c)/\(bz (decide (c≥64)))/\(c<32->(0<=(a:Int)/\(a:Int)<=(↑(b.length):Int))/\d .ret [(0,.str b),(2,J.aT 50),(3,.V a),(4,.V 0),(5,.aJ),(6,.V a)] (af 95 [(50,(aL (yz b a)))]))/\(¬c<32->(bz (decide (c>63)))/\(c<48->(bd ((a:Int)+1))/\((a:Int)+1=64->(bd ((a:Int)+1))/\(0<=(a:Int)+1/\(a:Int)+1<=(↑(b.length):Int))/\(bd ((a:Int)+1))/\d .ret [(0,.str b),(2,J.aT 50),(3,.V ((a:Int)+1)),(4,.V 0),(5,.aK),(6,.V a)] (af 106 [(50,(aL (K0 b a)))]))/\(¬(a:Int)+1=64->(bd ((a:Int)+1))/\d .normal [(0,.str b),(2,J.aT 50),(5,.aK),(6,.V ((a:Int)+1))] (af 99 [(50,dk)])))/\(¬c<48->(bd ((a:Int)+1))/\((a:Int)+1=64->(bd ((a:Int)+1))/\(0<=(a:Int)+1/\(a:Int)+1<=(↑(b.length):Int))/\(bd ((a:Int)+1))/\d .ret [(0,.str b),(2,J.aT 50),(3,.V ((a:Int)+1)),(4,.V 0),(5,.aJ),(6,.V a)] (af 106 [(50,(aL (K0 b a)))]))/\(¬(a:Int)+1=64->(bd ((a:Int)+1))/\d .normal [(0,.str b),(2,J.aT 50),(5,.aJ),(6,.V ((a:Int)+1))] (af 99 [(50,dk)])))))/\(¬(a:Int)<(↑(b.length):Int)->d (.exit 0) [(0,.str b),(2,J.aT 50),(5,.aJ),(6,.V a)] (af 64 [(50,dk)]))) :
 ∃e f Y,bN 0 79 (bu 67 0) [(0,.str b),(2,J.aT 50),(5,.aJ),(6,.V (a:Nat))] (T.rows 60 [(50,cZ (bb 0 0 0 0 0 []))]) e f Y/\d e f Y :=
 dD c6 mixed bL (hs:= .al 3003 (ap 5002 (.ac c) (ap 6001 .aJ (.al 11001 (ab 12002 .nil) (ap 11004 .aJ (.al 13003 (ab 14001 KZ) (ab 14001 KZ)))))) .nil) (keep:=[0,2,3,4,5,6]) ao g
def K1(b:Bytes)(a:Nat)(f:Bool)(c:Int)(d:b8->bc->T->Prop)(h:((a:Int)<(↑(b.length):Int)->c' env.D 9 (.str b) (.V a)=some (.ac c)/\(cX (decide (c≥64)))/\(bz (decide (c<=126)))/\(bz (decide (c<32)))/\(cX (decide (c>63)))/\(0<=(a:Int)/\(a:Int)<=(↑(b.length):Int))/\d .ret [(0,.str b),(2,J.aT 50),(3,.V a),(4,.V 0),(5,.bool f),(6,.V a)] (af 95 [(50,(aL (yz b a)))]))/\(¬(a:Int)<(↑(b.length):Int)->d (.exit 0) [(0,.str b),(2,J.aT 50),(5,.bool f),(6,.V a)] (af 64 [(50,dk)]))) :
 ∃e g Y,bN 0 79 (bu 67 0) [(0,.str b),(2,J.aT 50),(5,.bool f),(6,.V (a:Nat))] (T.rows 60 [(50,cZ (bb 0 0 0 0 0 []))]) e g Y/\d e g Y :=
 dD c6 mixed bL (hs:= .al 3003 (ap 5002 (.ac c) (ap 6001 .aK (ap 6004 .aJ (ap 11001 .aJ (ap 11004 .aK (ab 12002 .nil)))))) .nil) (keep:=[0,2,3,4,5,6]) ao h
abbrev K2(e:Bytes)(b:Nat)(c a d f g:Int):aa:=(aL (.agg [.bA c,.av a,.ac d,.V f,.V g,.str (e.take (b+1))]))
def X3(b:Bytes)(a:Nat)(l:Bool)(i c d f g h k:Int)(m:Bytes)(j:b8->bc->T->Prop)(o:((a:Int)<(↑(b.length):Int)->c' env.D 9 (.str b) (.V a)=some (.ac i)/\(cX (decide (i≥64)))/\(cX (decide (i<=126)))/\((0:Int)<=2/\2<=(a:Int)/\(a:Int)<=(↑(b.length):Int))/\bk 93 [.str ((b.take a).drop 2),.ac i] (af 85 [(50,dk)]) (.tuple [(gu c d f g h m),.V k]) (af 85 [(50,dk)])/\(c=7->(bd ((a:Int)+1))/\(0<=(a:Int)+1/\(a:Int)+1<=(↑(b.length):Int))/\(bd ((a:Int)+1))/\j .ret [(0,.str b),(2,J.aT 50),(3,.V ((a:Int)+1)),(4,.V k),(5,.bool l),(6,.V a)] (af 101 [(50,(K2 b a c d f g h)),(82,(K2 b a c d f g h))]))/\(¬c=7->(bd ((a:Int)+1))/\j .ret [(0,.str b),(2,J.aT 50),(3,.V ((a:Int)+1)),(4,.V k),(5,.bool l),(6,.V a)] (af 95 [(50,(aL (gu c d f g h m))),(82,(aL (gu c d f g h m)))])))/\(¬(a:Int)<(↑(b.length):Int)->j (.exit 0) [(0,.str b),(2,J.aT 50),(5,.bool l),(6,.V a)] (af 64 [(50,dk)]))) :
 ∃e n Y,bN 0 79 (bu 67 0) [(0,.str b),(2,J.aT 50),(5,.bool l),(6,.V (a:Nat))] (T.rows 60 [(50,cZ (bb 0 0 0 0 0 []))]) e n Y/\j e n Y :=
 dD c6 mixed bL (hs:= .al 3003 (ap 5002 (.ac i) (ap 6001 .aK (ap 6004 .aK (ab 7002 (ap 7004 (.tuple [bb c d f g h m,.V k]) (.al 8002 (ab 9002 (ab 9003 (ab 10002 .nil))) (ab 10002 .nil))))))) .nil) (keep:=[0,2,3,4,5,6]) ao o
def X4(a:Bytes)(d:Bool)(c:J)(b:aU)(e:bN 0 79 (Code.loop (bu 67 0)) [(0,.str a),(2,J.aT 0),(5,.aJ),(6,.V 2)] (af 5 [(0,bF)]) (.exit 0) [(0,.str a),(2,J.aT 50),(5,.bool d),(6,c)] (af 90 [(50,cZ (bb 0 0 0 0 0 []))])/\b (.tuple [fE,.V 0,.V 2]) (af 94 [(50,dk)])) :
 bl 67 [.str a] bG b :=
 bm bL (.aG (.keep [0,2,5,6])<|.aG (.loop [(0,.str a),(2,J.aT 50),(5,.bool d),(6,c)] (af 90 [(50,cZ (bb 0 0 0 0 0 []))]) (.exit 0)) .nil) e
def X5(j:Bytes)(b a c e f g h:Int)(d:Bytes)(i:aU)(k:bN 0 79 (Code.loop (bu 67 0)) [(0,.str j),(2,J.aT 0),(5,.aJ),(6,.V 2)] (af 5 [(0,bF)]) .ret [(2,J.aT 50),(3,.V g),(4,.V h)] (af 90 [(50,cZ (bb b a c e f d))])/\i (.tuple [(gu b a c e f d),.V g,.V h]) (af 90 [(50,(aL (gu b a c e f d)))])) :
 bl 67 [.str j] bG i :=
 bm bL (.aG (.keep [0,2,5,6])<|.aG (.loop [(2,J.aT 50),(3,.V g),(4,.V h)] (af 90 [(50,cZ (bb b a c e f d))]) .ret) .nil) k
def iC(s:Bytes):Nat->Bool->Bytes->aP×Int×Int
 |_,_,[]=>(⟨0,0,0,0,0,[]⟩,0,2)
 |i,sn,c::r =>
  if 64<=c.toNat/\c.toNat<=126 then
   (if(gT ((s.take i).drop 2) c).1.kind=7 then { (gT ((s.take i).drop 2) c).1 with text:=s.take (i+1)} else(gT ((s.take i).drop 2) c).1,(i:Int)+1,(gT ((s.take i).drop 2) c).2)
  else if c.toNat<32\/63<c.toNat\/(sn=true/\48<=c.toNat)then(dc (s.take i),i,0)
  else if i+1=64 then(dc (s.take (i+1)),(i:Int)+1,0)
  else iC s (i+1) (sn || decide (c.toNat<48)) r
abbrev kL(s:Bytes)(k:Nat)(sn:Bool)(i:Nat):bc:=[(0,.str s),(2,.ptr (some ⟨k,0,0,0,6⟩)),(5,.bool sn),(6,.int .i64 (i:Nat))]
def oU(s:Bytes)(i:Nat)(sn:Bool)(c:UInt8)(r:Bytes)(e:b8)(F:bc)(h:T):Prop :=
 (e=.ret/\∃x p q a b,F=[(0,.str s),(2,.ptr (some ⟨50,0,0,0,6⟩)),(3,.int .i64 p),(4,.int .i64 q),(5,a),(6,b)]/\h.get 50=some (cZ (bp x))/\iC s i sn (c::r)=(x,p,q)) \/
 (e=.normal/\F=kL s 50 (sn || decide (c.toNat<48)) (i+1)/\h.get 50=some (cZ (bb 0 0 0 0 0 []))/\iC s i sn (c::r)=iC s (i+1) (sn || decide (c.toNat<48)) r)
def X6{sn:Bool}(ah:i<s.length)(ag:2<=i)(hs:s.length<2^40) :
 ∃e F h,bN 0 79 (bu 67 0) (kL s 50 sn i) (T.rows 60 [(50,cZ (bb 0 0 0 0 0 []))]) e F h/\oU s i sn s[i] (s.drop (i+1)) e F h:=by
 have K:s[i].toNat=bV s i:=by unfold bV;rw [hC,ds ah];rfl
 have fD:=j' ah;rw [<-K]at fD;generalize s[i]=c at fD;generalize s.drop (i+1)=r;have aj:=c.toNat_lt;by_cases g:64<=c.toNat/\c.toNat<=126
 .have D:∀h,be 93 [.str ((s.take i).drop 2),.ac (c.toNat:Nat)] h (ew ((s.take i).drop 2) c) h:=λh=>X0 (by rw [eF,lC];omega) c h
  have C:iC s i sn (c::r)=(if(gT ((s.take i).drop 2) c).1.kind=7 then { (gT ((s.take i).drop 2) c).1 with text:=s.take (i+1)} else(gT ((s.take i).drop 2) c).1,(i:Int)+1,(gT ((s.take i).drop 2) c).2):=by
   conv=>lhs;unfold iC
   rw [az g]
  unfold ew at D;generalize gT ((s.take i).drop 2) c=E at D C;obtain⟨⟨k,d,m,x,y,t⟩,p⟩:=E;exact X3 s i sn (c.toNat:Nat) k d m x y p t (oU s i sn c r) ⟨λ_=>⟨fD,by rw [iH A],by rw [iH A],⟨A,A,A⟩,⟨D _⟩,λz=>⟨⟨A,A⟩,⟨A,A⟩,⟨A,A⟩,.inl ⟨rfl,⟨k,d,m,x,y,s.take (i+1)⟩,_,_,_,_,rfl,rfl,by rw [C,az z]⟩⟩,λz=>⟨⟨A,A⟩,.inl ⟨rfl,⟨k,d,m,x,y,t⟩,_,_,_,_,rfl,rfl,by rw [C,ai z]⟩⟩⟩,λh=>absurd h A⟩
 .have H:c.toNat<64->(some (J.bool (decide (((c.toNat:Nat):Int)≥64))):Option J)=some (.bool false):=λh=>by rw [ie A]
  have bad:(c.toNat<32\/63<c.toNat\/(sn=true/\48<=c.toNat))-> ∀a b n,oU s i sn c r .ret [(0,.str s),(2,.ptr (some ⟨50,0,0,0,6⟩)),(3,.V (i:Nat)),(4,.V (0)),(5,a),(6,b)] (T.bO n [(50,cZ (bb 7 0 0 0 0 (s.take i)))]):=λh a b n =>
   .inl ⟨rfl,dc (s.take i),_,_,_,_,rfl,rfl,by unfold iC;rw [ai g,az h]⟩
  have l:¬(c.toNat<32\/63<c.toNat\/(sn=true/\48<=c.toNat))->i+1=64-> ∀a b n,oU s i sn c r .ret [(0,.str s),(2,.ptr (some ⟨50,0,0,0,6⟩)),(3,.V ((i:Int)+1)),(4,.V (0)),(5,a),(6,b)] (T.bO n [(50,cZ (bb 7 0 0 0 0 (s.take (i+1))))]):=λh v a b n =>
   .inl ⟨rfl,dc (s.take (i+1)),_,_,_,_,rfl,rfl,by unfold iC;rw [ai g,ai h,az v]⟩
  have B:¬(c.toNat<32\/63<c.toNat\/(sn=true/\48<=c.toNat))->i+1≠64-> ∀w n,w=(sn || decide (c.toNat<48))->oU s i sn c r .normal [(0,.str s),(2,.ptr (some ⟨50,0,0,0,6⟩)),(5,.bool w),(6,.V ((i:Int)+1))] (T.bO n [(50,cZ (bb 0 0 0 0 0 []))]):=λh v w n e =>
   .inr ⟨rfl,by rw [e];rfl,rfl,by conv=> {lhs;unfold iC};rw [ai g,ai h,ai v]⟩
  by_cases I:63<c.toNat
  .exact K1 s i sn (c.toNat:Nat) (oU s i sn c r) ⟨λ_=>⟨fD,by rw [iH A],by rw [ie A],by rw [ie A],by rw [iH A],⟨A,A⟩,bad (.inr (.inl I)) _ _ _⟩,λh=>absurd h A⟩
  .have G:(some (J.bool (decide (((c.toNat:Nat):Int)>63))):Option J)=some (.bool false):=by rw [ie A]
   cases sn with
   |true =>
    refine X1 s i (c.toNat:Nat) (oU s i true c r) ⟨λ_=>⟨fD,H A,λo=>⟨⟨A,A⟩,bad (.inl A) _ _ _⟩,λo=>⟨G,λu=>⟨⟨A,A⟩,bad (.inr (.inr ⟨rfl,A⟩)) _ _ _⟩,λu=>⟨⟨A,A⟩,λf=>⟨⟨A,A⟩,⟨A,A⟩,⟨A,A⟩,?_⟩,λf=>⟨⟨A,A⟩,?_⟩⟩⟩⟩,λh=>absurd h A⟩
    .exact l A A _ _ _
    .exact B A A _ _ rfl
   |false =>
    have j:32<=c.toNat-> ¬(c.toNat<32\/63<c.toNat\/(false=true/\48<=c.toNat)):=λh q=>q.elim (λa=>absurd a A) λq=>q.elim (λa=>absurd a I) λa=>absurd a.1 aC
    refine X2 s i (c.toNat:Nat) (oU s i false c r) ⟨λ_=>⟨fD,H A,λo=>⟨⟨A,A⟩,bad (.inl A) _ _ _⟩,λo=>⟨G,λu=>⟨⟨A,A⟩,λf=>⟨⟨A,A⟩,⟨A,A⟩,⟨A,A⟩,?_⟩,λf=>⟨⟨A,A⟩,?_⟩⟩,λu=>⟨⟨A,A⟩,λf=>⟨⟨A,A⟩,⟨A,A⟩,⟨A,A⟩,?_⟩,λf=>⟨⟨A,A⟩,?_⟩⟩⟩⟩,λh=>absurd h A⟩
    .exact l (j A) A _ _ _
    .exact B (j A) A _ _ (by rw [iH (by omega:c.toNat<48)];rfl)
    .exact l (j A) A _ _ _
    .exact B (j A) A _ _ (by rw [ie (by omega:¬c.toNat<48)];rfl)
def DH(x:aP):cu (cZ (bp x)):=by intro e he;rw [cF.1 he];exact b0.of rfl
def mj{K:List Nat}{v o l e:Nat}(h:i∈K):bR (Go.br.b3 K) (.ptr (some ⟨i,v,o,l,e⟩)):=h
def DI{sn:Bool}{h:T}(ab:h.get k=some (cZ (bb 0 0 0 0 0 []))):bW 0 79 (kL s k sn i) h (kL s 50 sn i) (T.rows 60 [(50,cZ (bb 0 0 0 0 0 []))]):=by
 have a:cu (cZ (bb 0 0 0 0 0 [])):=DH ⟨0,0,0,0,0,[]⟩;refine bW.move (K:=60) (l:=[(50,cZ (bb 0 0 0 0 0 []))]) (λ_=>k) ?_ rfl ?_ rfl rfl ?_ rfl ?_ ?_
 .simp [ab,a.aO]
 .simp
 .simp [J.aO,bB.aO]
 .exact aX.cons trivial (aX.cons (mj au) (aX.cons trivial (aX.cons trivial aX.nil)))
 .exact aX.cons (λe he=>(a e he).dj _) aX.nil
abbrev DJ(p q:Int):bc:=[(2,.ptr (some ⟨50,0,0,0,6⟩)),(3,.int .i64 p),(4,.int .i64 q)]
def X7{x:aP}{p q:Int}{a b:J}{h:T}(ab:h.get 50=some (cZ (bp x))):bW 0 79 [(0,.str s),(2,.ptr (some ⟨50,0,0,0,6⟩)),(3,.V p),(4,.V q),(5,a),(6,b)] h (DJ p q) (T.rows 90 [(50,cZ (bp x))]):=by
 have d:=DH x;refine bW.trans (G:=DJ p q) (g:=h) (bW.facts ?_) ?_
 .intro j u hu;rw [gX]at hu;split at hu
  .rename_i c;subst c;rw [<-hu];rfl
  .rw [gX]at hu;split at hu
   .rename_i c;subst c;rw [<-hu];rfl
   .rw [gX]at hu;split at hu
    .rename_i c;subst c;rw [<-hu];rfl
    .cases hu
 .refine bW.move (K:=90) (l:=[(50,cZ (bp x))]) (λ_=>50) ?_ rfl ?_ rfl rfl ?_ rfl ?_ ?_
  .simp [ab,d.aO]
  .simp
  .simp [J.aO,bB.aO]
  .exact aX.cons (mj au) (aX.cons trivial (aX.cons trivial aX.nil))
  .exact aX.cons (λe he=>(d e he).dj _) aX.nil
def X8(hs:s.length<2^40):∀(k i:Nat)(sn:Bool),s.length-i<=k->i<=s.length->2<=i ->
 (iC s i sn (s.drop i)=(⟨0,0,0,0,0,[]⟩,0,2)/\∃g,∃h,dd 0 79 (bu 67 0) (kL s 50 sn i) (T.rows 60 [(50,cZ (bb 0 0 0 0 0 []))]) (.exit 0) (kL s 50 g s.length) h/\h.get 50=some (cZ (bb 0 0 0 0 0 []))) \/
 (∃x p q,iC s i sn (s.drop i)=(x,p,q)/\dd 0 79 (bu 67 0) (kL s 50 sn i) (T.rows 60 [(50,cZ (bb 0 0 0 0 0 []))]) .ret (DJ p q) (T.rows 90 [(50,cZ (bp x))])):=by
 intro k;induction k with
 |zero =>
  intro i sn m ah ag;obtain rfl:i=s.length:= A;rw [nI];obtain⟨e,F,h,c,rfl,rfl,ab⟩:=K1 s s.length sn 0 (λe F h=>e=.exit 0/\F=kL s 50 sn s.length/\h.get 50=some (cZ (bb 0 0 0 0 0 []))) ⟨λh=>absurd h A,λ_=>⟨rfl,rfl,rfl⟩⟩;exact .inl ⟨rfl,sn,h,b2.last au c,ab⟩
 |succ k ih =>
  intro i sn m ah ag;by_cases aj:i<s.length
  .rw [ki aj];obtain⟨e,F,h,c,j⟩:=X6 (sn:=sn) aj ag hs;rcases j with ⟨rfl,x,p,q,a,b,rfl,ab,f⟩|⟨rfl,rfl,ab,f⟩
   .exact .inr ⟨x,p,q,f,b2.last au (c.post (X7 ab))⟩
   .rw [f];rcases ih (i+1) (sn || decide (s[i].toNat<48)) A A A with ⟨Y,g,Z,d,l⟩|⟨x,p,q,Y,d⟩
    .exact .inl ⟨Y,g,Z,b2.step (c.post (DI ab)) d,l⟩
    .exact .inr ⟨x,p,q,Y,b2.step (c.post (DI ab)) d⟩
  .exact ih i sn A ah ag
def K3(B:aa):T.rows 90 [(50,B)]=T.bO 90 [(50,B)]:= ao
def X9{sn:Bool}{h:T}(ab:h.get 50=some (cZ (bb 0 0 0 0 0 []))):bW 0 79 (kL s 50 sn i) h (kL s 50 sn i) (T.rows 90 [(50,cZ (bb 0 0 0 0 0 []))]):=by
 have a:cu (cZ (bb 0 0 0 0 0 [])):=DH ⟨0,0,0,0,0,[]⟩;refine bW.move (K:=90) (l:=[(50,cZ (bb 0 0 0 0 0 []))]) (λ_=>50) ?_ rfl ?_ rfl rfl ?_ rfl ?_ ?_
 .simp [ab,a.aO]
 .simp
 .simp [J.aO,bB.aO]
 .exact aX.cons trivial (aX.cons (mj au) (aX.cons trivial (aX.cons trivial aX.nil)))
 .exact aX.cons (λe he=>(a e he).dj _) aX.nil
def X'(hs:s.length<2^40)(ag:2<=s.length)(H:T):be 67 [.str s] H (iA (iC s 2 false (s.drop 2))) H:=by
 have g:bW 0 79 (kL s 0 false 2) (T.bO 5 [(0,cZ (bb 0 0 0 0 0 []))]) (kL s 50 false 2) (T.rows 60 [(50,cZ (bb 0 0 0 0 0 []))]):=DI rfl;rcases X8 hs s.length 2 false A ag A with ⟨f,sn,Z,e,ab⟩|⟨x,p,q,f,e⟩
 .rw [f];have c:=(cO.dn (e.pre g)).post (X9 ab);rw [K3]at c;exact bj.bU (X4 s sn (.V (s.length:Nat)) (λv _=>v=iA (⟨0,0,0,0,0,[]⟩,0,2)) ⟨c,rfl⟩) rfl rfl H
 .rw [f];have c:=cO.dn (e.pre g);rw [K3]at c;obtain⟨k,d,m,a,b,t⟩:=x;exact bj.bU (X5 s k d m a b p q t (λv _=>v=iA (⟨k,d,m,a,b,t⟩,p,q)) ⟨c,rfl⟩) rfl rfl H
def Ya(j:Bytes)(g b a c e f h i:Int)(d:Bytes)(k:aU)(l:c' env.D 9 (.str j) (.V 0)=some (.ac g)/\(cX (g != 27))/\bk 66 [.str j] (af 14 [(0,bF)]) (.tuple [(iy b a c e f d),.V h,.V i]) (af 14 [(0,bF)])/\k (.tuple [(iy b a c e f d),.V h,.V i]) (af 14 [(0,(aL (iy b a c e f d)))])) :
 bl 39 [.str j] bG k :=
 bm bL (ap 1001 (.ac g)<|ap 1002 .aK<|ap 2001 (.tuple [bb b a c e f d,.V h,.V i]) .nil) l
abbrev DK(b a c e f:Int)(d:Bytes):J:=J.agg [.bA b,.av a,.ac (c+2),.V e,.V f,.str d]
abbrev K4(a:Int):J:=J.agg [.bA 2,.av (21+a),.ac 0,.V 0,.V 0,.str []]
abbrev DL(b a c e f:Int)(d:Bytes):J:=J.agg [.bA b,.av a,.ac c,.V e,.V f,.str ((27:UInt8)::d)]
def sd(g:Bytes)(k i n l a d b e f j m:Int)(c:Bytes)(h:aU)(o:c' env.D 9 (.str g) (.V 0)=some (.ac 27)/\((↑(g.length):Int)=1->h (.tuple [fE,.V 0,.V 2]) (af 13 [(0,dk)]))/\(¬(↑(g.length):Int)=1->c' env.D 9 (.str g) (.V 1)=some (.ac k)/\(k=27->h (.tuple [tH,.V 1,.V 0]) (af 17 [(0,(aL tH))]))/\(¬k=27->(k=91->bk 67 [.str g] (af 23 [(0,bF)]) (.tuple [(iy a d b e f c),.V j,.V m]) (af 23 [(0,bF)])/\h (.tuple [(iy a d b e f c),.V j,.V m]) (af 23 [(0,(aL (iy a d b e f c)))]))/\(¬k=91->(k=79->((↑(g.length):Int)=2->h (.tuple [fE,.V 0,.V 2]) (af 24 [(0,dk)]))/\(¬(↑(g.length):Int)=2->c' env.D 9 (.str g) (.V 2)=some (.ac i)/\bk 64 [.ac i] (af 24 [(0,bF)]) (.av n) (af 24 [(0,bF)])/\(0<n->h (.tuple [(r' n),.V 3,.V 0]) (af 31 [(0,(aL (r' n)))]))/\(¬0<n->c' env.D 9 (.str g) (.V 2)=some (.ac i)/\bk 68 [.str [80,81,82,83],.ac i] (af 30 [(0,bF)]) (.V l) (af 30 [(0,bF)])/\(0<=l->(cf l)/\(cf (21+l))/\h (.tuple [(K4 l),.V 3,.V 0]) (af 39 [(0,(aL (K4 l)))]))/\(¬0<=l->c' env.D 9 (.str g) (.V 2)=some (.ac i)/\(i=77->h (.tuple [pV,.V 3,.V 0]) (af 39 [(0,(aL pV))]))/\(¬i=77->h (.tuple [tI,.V 2,.V 0]) (af 39 [(0,(aL tI))]))))))/\(¬k=79->((0:Int)<=1/\1<=(↑(g.length):Int))/\bk 66 [.str (g.drop 1)] (af 28 [(0,bF)]) (.tuple [(iy a d b e f c),.V j,.V m]) (af 28 [(0,bF)])/\(m=2->h (.tuple [(iy a d b e f c),.V 0,.V 2]) (af 34 [(0,(aL (iy a d b e f c))),(24,(aL (iy a d b e f c)))]))/\(¬m=2->(a=7->bY ((Array.toList (ByteArray.data {data:= #[27]})).length+c.length)/\(bd (j+1))/\h (.tuple [(DL a d b e f c),.V (j+1),.V 0]) (af 44 [(0,(aL (DL a d b e f c))),(24,(aL (DL a d b e f c)))]))/\(¬a=7->(0<=b+2/\b+2<=255)/\(bd (j+1))/\h (.tuple [(DK a d b e f c),.V (j+1),.V 0]) (af 44 [(0,(aL (DK a d b e f c))),(24,(aL (DK a d b e f c)))])))))))) :
 bl 39 [.str g] bG h :=
 bm bL (ap 1001 (.ac 27)<|.al 3002 .nil<|ap 5001 (.ac k)<|.al 6000 .nil<|.al 8000 (ap 9001 (.tuple [bb a d b e f c,.V j,.V m]) .nil)<|.al 10000 (.al 11002 .nil<|ap 13001 (.ac i)<|ap 13002 (.av n)<|.al 14001 .nil<|ap 16001 (.ac i)<|ap 16002 (.V l)<|.al 17001 (ab 18001<|ab 18002 .nil)<|ap 19001 (.ac i)<|.al 19002 .nil .nil)<|ab 22001<|ap 22002 (.tuple [bb a d b e f c,.V j,.V m])<|.al 23001 .nil<|.al 25002 (ab 26002<|ab 28002 .nil)<|ab 27002<|ab 28002 .nil) o
end Go.Proofs.zz
namespace Go.Keys
def nA:Nat->Nat->Bytes->Nat
 |0,v,_=>v
 |_+1,v,[]=>v
 |k+1,v,c::r=>nA k (v*64+c.toNat%64) r
def K5:Nat->Nat->Nat->Bytes->Prop
 |0,_,_,_=>True
 |_+1,_,_,[]=>False
 |k+1,aD,ah,c::r=>aD<=c.toNat/\c.toNat<=ah/\K5 k 128 191 r
def K6:∀(k i aD ah v:Nat)(l:Bytes),
 (tail k i aD ah v l).2.2=true \/
 (∃j,j<k/\j<l.length/\tail k i aD ah v l=(65533,i+j,false)/\(tail k i aD ah v (l.take j)).2.2=true/\tail k i aD ah v (l.take (j+1))=(65533,i+j,false)) \/
 (k<=l.length/\tail k i aD ah v l=(nA k v l,i+k,false)/\K5 k aD ah l)
 |0,i,aD,ah,v,l=> .inr (.inr ⟨Nat.zero_le _,by rw [rM];rfl,trivial⟩)
 |k+1,i,aD,ah,v,[]=> .inl rfl
 |k + 1,i,aD,ah,v,c::r=>by
  by_cases aj:c.toNat<aD\/ah<c.toNat
  .refine .inr (.inl ⟨0,A,au,?_,rfl,?_⟩)
   .unfold tail;rw [az aj];rfl
   .show tail (k+1) i aD ah v [c]=_;unfold tail;rw [az aj];rfl
  .have e:∀t,tail (k+1) i aD ah v (c::t)=tail k (i+1) 128 191 (v*64+c.toNat%64) t:=λt=>kF A A
   rw [e];rcases K6 k (i+1) 128 191 (v*64+c.toNat%64) r with h|⟨j,Y,ag,a,b,d⟩|⟨Y,ag,a⟩
   .exact .inl h
   .refine .inr (.inl ⟨j+1,A,by simp;omega,by rw [a];simp;omega,?_,?_⟩)
    .rw [qE,e];exact b
    .rw [qE,e,d];simp;omega
   .refine .inr (.inr ⟨by simp;omega,by rw [ag];simp [nA];omega,A,A,a⟩)
def K7:∀(k i aD ah v:Nat)(l m:Bytes),0<k->(tail k i aD ah v (l++m)).2.2=true->(tail k i aD ah v l).2.2=true
 |0,i,aD,ah,v,l,m,h,_=>absurd h A
 |k+1,i,aD,ah,v,[],m,h,_=>rfl
 |k +1,i,aD,ah,v,c::r,m,h,a=>by
  simp only [hB,tail]at a⊢;split at a
  .simp at a
  .rename_i aj;rw [ai aj];cases k with
   |zero=>simp [rM]at a
   |succ k=>exact K7 _ _ _ _ _ _ _ A a
def K8{h t:Bytes}(a:(first (h++t)).2.2=true)(aw:h≠[]):(first h).2.2=true:=by
 cases h with
 |nil=>exact absurd rfl aw
 |cons b r =>
  obtain⟨d,g,e,f,c⟩:=pM a;simp only [hB,fJ]at e;obtain⟨rfl,rfl⟩:=e;rw [c]at a;have:=K7 _ _ _ _ _ _ _ A a;simp only [first];rw [ai A,ai A];exact this
def gR(n:Nat):lead n=(0,0,0)\/(n<128/\lead n=(1,0,0))\/(194<=n/\n<=223/\lead n=(2,128,191)) \/
 (224<=n/\n<=239/\lead n=(3,if n=224 then 160 else 128,if n=237 then 159 else 191))\/(240<=n/\n<=244/\lead n=(4,if n=240 then 144 else 128,if n=244 then 143 else 191)):=by
 by_cases Y:n<128
 .exact .inr (.inl ⟨Y,CW Y⟩)
 by_cases ag:194<=n/\n<=223
 .exact .inr (.inr (.inl ⟨ag.1,ag.2,IV ag.1 ag.2⟩))
 by_cases a:224<=n/\n<=239
 .exact .inr (.inr (.inr (.inl ⟨a.1,a.2,IW a.1 a.2⟩)))
 by_cases b:240<=n/\n<=244
 .exact .inr (.inr (.inr (.inr ⟨b.1,b.2,IX b.1 b.2⟩)))
 .left;unfold lead;rw [ai Y,ai ag,ai A,ai A,ai A,ai A,ai A,ai A]
variable {c:UInt8}{n r:Nat}
def gb(h:n=c.toNat):u8 n=c:=by rw [h];exact UInt8.ofNat_toNat
inductive Yb(s:Bytes):Prop where
 |more (h:(first s).2.2=true)
 |whole (r n:Nat) (e:first s=(r,n,false)) (hs:Scalar r) (ae:put r=s.take n) (aw:1<=n/\n<=s.length)
 |lone (e:first s=(65533,1,false)) (aQ:first (s.take 1)=(65533,1,false)) (Y:128<=((s.getD 0 0).toNat))
 |broken (n:Nat) (Y:1<=n) (ag:n<s.length) (e:first s=(65533,n,false)) (o:(first (s.take n)).2.2=true) (aQ:first (s.take (n+1))=(65533,n,false))
variable {s:Bytes}
def begun(hs:s≠[]):Yb s:=by
 cases s with
 |nil=>exact absurd rfl hs
 |cons b r =>
  have u:=b.toNat_lt;by_cases aM:(lead b.toNat).1=0
  .refine .lone ?_ ?_ ?_
   .simp [first,aM]
   .simp [first,aM]
   .show 128<=b.toNat;rcases gK b.toNat 128 with h|h
    .rw [CW h]at aM;cases aM
    .exact h
  by_cases Y:(lead b.toNat).1=1
  .have q:b.toNat<128:=by
    rcases gR b.toNat with h|h|h|h|h
    .rw [h]at Y;cases Y
    .exact h.1
    .rw [h.2.2]at Y;cases Y
    .rw [h.2.2]at Y;cases Y
    .rw [h.2.2]at Y;cases Y
   refine .whole b.toNat 1 ?_ (.inl A) ?_ ⟨A,au⟩
   .simp [first,Y]
   .rw [lR q,gb rfl];rfl
  .have i :∀t,first (b::t)=tail ((lead b.toNat).1-1) 1 (lead b.toNat).2.1 (lead b.toNat).2.2 (b.toNat%2^(7- (lead b.toNat).1)) t:=λt=>by simp only [first,ai aM,ai Y]
   rcases K6 ((lead b.toNat).1-1) 1 (lead b.toNat).2.1 (lead b.toNat).2.2 (b.toNat%2^(7- (lead b.toNat).1)) r with h|⟨j,ag,e,a,g,k⟩|⟨ag,e,a⟩
   .exact .more (by rw [i];exact h)
   .refine .broken (j+1) A (by simp;omega) ?_ ?_ ?_
    .rw [i,a,Nat.add_comm]
    .rw [qE,i];exact g
    .rw [qE,i,k,Nat.add_comm]
   .rw [<-i]at e;rcases gR b.toNat with h|h|⟨cw,cy,h⟩|⟨cw,cy,h⟩|⟨cw,cy,h⟩
    .rw [h]at aM;exact absurd rfl aM
    .rw [h.2]at Y;exact absurd rfl Y
    .rw [h]at ag e a
     match r,ag,e,a with
     |c ::r,_,e,a =>
      obtain⟨a,g,_⟩:=a;simp only at a g
      have m:nA 1 (b.toNat%32) (c::r)=(b.toNat-192)*64+(c.toNat-128):=by show(b.toNat%32)*64+c.toNat%64=_;omega
      have e:first (b::c::r)=(nA 1 (b.toNat%32) (c::r),2,false):=e
      rw [m]at e;refine .whole _ 2 e (.inl A) ?_ ⟨A,au⟩;rw [pN A A,gb (c:=b) A,gb (c:=c) A];rfl
    .rw [h]at ag e a
     match r,ag,e,a with
     |c ::d::r,_,e,a =>
      obtain⟨a,g,k,n,_⟩:=a;simp only at a g k n;have a:128<=c.toNat/\(b.toNat=224->160<=c.toNat):=by split at a<;>omega
      have g:c.toNat<=191/\(b.toNat=237->c.toNat<=159):=by split at g<;>omega
      have m:nA 2 (b.toNat%16) (c::d::r)=(b.toNat-224)*4096+(c.toNat-128)*64+(d.toNat-128):=by show((b.toNat%16)*64+c.toNat%64)*64+d.toNat%64=_;omega
      have e:first (b::c::d::r)=(nA 2 (b.toNat%16) (c::d::r),3,false):=e
      rw [m]at e
      have l:Scalar ((b.toNat-224)*4096+(c.toNat-128)*64+(d.toNat-128)):=by unfold Scalar;omega
      refine .whole _ 3 e l ?_ ⟨A,au⟩;rw [od l A A,gb (c:=b) A,gb (c:=c) A,gb (c:=d) A];rfl
    .rw [h]at ag e a
     match r,ag,e,a with
     |c ::d::f::r,_,e,a =>
      obtain⟨a,g,k,n,o,p,_⟩:=a;simp only at a g k n o p;have a:128<=c.toNat/\(b.toNat=240->144<=c.toNat):=by split at a<;>omega
      have g:c.toNat<=191/\(b.toNat=244->c.toNat<=143):=by split at g<;>omega
      have m:nA 3 (b.toNat%8) (c::d::f::r)=(b.toNat-240)*262144+(c.toNat-128)*4096+(d.toNat-128)*64+(f.toNat-128):=by show(((b.toNat%8)*64+c.toNat%64)*64+d.toNat%64)*64+f.toNat%64=_;omega
      have e:first (b::c::d::f::r)=(nA 3 (b.toNat%8) (c::d::f::r),4,false):=e
      rw [m]at e
      have l:Scalar ((b.toNat-240)*262144+(c.toNat-128)*4096+(d.toNat-128)*64+(f.toNat-128)):=by unfold Scalar;omega
      refine .whole _ 4 e l ?_ ⟨A,au⟩;rw [pO l A,gb (c:=b) A,gb (c:=c) A,gb (c:=d) A,gb (c:=f) A];rfl
def hg:aP:=⟨0,0,0,0,0,[]⟩
def fI(s:Bytes):aP×Int×Int :=
 if(s.getD 0 0).toNat<32\/(s.getD 0 0).toNat=127 then(control (s.getD 0 0).toNat,1,0)
 else if(first s).2.2=true then(hg,0,2)
 else if(first s).1=65533/\s.take (first s).2.1≠[239,191,189]then(dc (s.take (first s).2.1),((first s).2.1:Nat),0)
 else(eb ((first s).1:Nat),((first s).2.1:Nat),0)
abbrev nB(e:aP)(x:bI×List aP):bI×List aP:=(x.1,e::x.2)
def K9{p:Bytes} :∀(t h:Bytes),h≠[]->(first (h++t)).2.2=true->cB ⟨.cp,p++h,h,[]⟩ t=(⟨.cp,p++(h++t),h++t,[]⟩,[])
 |[],h,_,_=>by simp [cB]
 |c ::t,h,aw,a=>by
  have aQ:h++c::t=(h++[c])++t:= au;rw [aQ]at a;have o:=K8 a au
  have ff:step ⟨.cp,p++h,h,[]⟩ c=(⟨.cp,p++(h++[c]),h++[c],[]⟩,[]):=by show e5 ⟨.cp,p++h,h,[]⟩ c (λs1=>bad s1 c)=_;exact uB o _
  rw [cB,ff];simp only [eQ];rw [K9 t (h++[c]) au a,aQ]
abbrev ml(nx:h1)(p:Bytes)(no:bI->bI×List aP)(c:UInt8)(t:Bytes):bI×List aP :=
 ((cB (e5 ⟨nx,p,[],[]⟩ c no).1 t).1,(e5 ⟨nx,p,[],[]⟩ c no).2++(cB (e5 ⟨nx,p,[],[]⟩ c no).1 t).2)
variable {nx:h1}
def DM{p:Bytes}{no:bI->bI×List aP}{t:Bytes}(a:(first (c::t)).2.2=true):ml nx p no c t=(⟨.cp,p++c::t,c::t,[]⟩,[]):=by have Y:(first ([]++[c])).2.2=true:=K8 (h:=[c]) (t:=t) a au;have e:=uB (p:=p) (nx:=nx) Y no;simp only [gy,eQ]at e;unfold ml;rw [e];simp only [eQ];rw [K9 t [c] au a];rfl
def La{p:Bytes}(ae:oF p){no:bI->bI×List aP}{t:Bytes}(j:32<=c.toNat)(i:c.toNat≠127)(hs:Scalar r)(he:put r=(c::t).take n)(aw:1<=n/\n<=(c::t).length) :
 ml nx p no c t=nB (eb r (2*p.length)) (cB zero ((c::t).drop n)):=by
 obtain⟨k,rfl⟩:∃k,n=k+1:=⟨n-1,A⟩
 rw [qE]at he;rw [List.drop_succ_cons]
 have e:32<=r/\r≠127:=by
  rcases gK r 128 with h|h
  .rw [lR h]at he;have:u8 r=c:=(List.cons.inj he).1;have g:=dm UInt8.toNat this;rw [j6 A]at g;omega
  .omega
 obtain⟨f1,f2,_⟩:=T9 hs ae e.1 e.2 (nx:=nx) no he;have f:t=t.take k++t.drop k:=(List.take_append_drop k t).symm;unfold ml nB;generalize t.take k=a at *;generalize t.drop k=b at *;subst f;rw [FG,f1,f2];by_cases d:a=[]
 .simp [d]
 .simp [d]
def Yc{p:Bytes}(ae:oF p):at' p=p.length:=by rcases ae with rfl|rfl<;>rfl
def Lb{p:Bytes}(ae:oF p){no:bI->bI×List aP}{t:Bytes}(e:first [c]=(65533,1,false)):ml nx p no c t=nB (dc (p++[c])) (cB zero t):=by
 have f1:bM [] c=([65533],[]):=by show fr 1 [c]=_;rw [xU au,e];rfl
 have v1:valid [c]=false:=by
  have a:dv [c]=[65533]:=by show(first [c]).1::gZ 0 _=_;rw [e];rfl
  unfold valid;rw [a];show(put 65533++[] ==[c])=false;rw [Av];simp
 have c0:e5 ⟨nx,p,[],[]⟩ c no=(zero,[dc (p++[c])]):=by unfold e5;simp only [f1,Yc ae];rw [ai au,az (.inl ⟨rfl,trivial⟩),xV,ai (by rw [v1];simp)];rfl
 unfold ml;rw [c0];rfl
def DN(c:UInt8)(t:Bytes):cB zero (c::t)=((cB (ground zero c).1 t).1,(ground zero c).2++(cB (ground zero c).1 t).2):=rfl
def Lc{p:Bytes}(ae:oF p){no:bI->bI×List aP}{t:Bytes}(aj:c≠27)(Y:1<=n)(ag:n<(c::t).length)(o:(first ((c::t).take n)).2.2=true)(aQ:first ((c::t).take (n+1))=(65533,n,false)) :
 ml nx p no c t=nB (dc (p++(c::t).take n)) (cB zero ((c::t).drop n)):=by
 have e:c::t=(c::t).take n++(c::t).drop n:=(List.take_append_drop n (c::t)).symm;have f:(c::t).drop n=(c::t)[n]::(c::t).drop (n+1):=ki ag;have h:(c::t).take (n+1)=(c::t).take n++[(c::t)[n]]:=(List.take_append_getElem ag).symm;have hlen:((c::t).take n).length=n:=by rw [lC];omega
 obtain⟨k,rfl⟩:∃k,n=k+1:=⟨n-1,A⟩
 rw [h]at aQ;rw [f];rw [f]at e;generalize (c::t)[k+1]=d at *;generalize (c::t).drop (k+1+1)=b at *;rw [qE]at *;generalize t.take k=a at *;rw [hB,fJ]at e;obtain⟨_,rfl⟩:=e;have g:=DM (nx:=nx) (p:=p) (no:=no) o;unfold ml at g⊢;have aZ:=(bC ..).mp g;obtain⟨cw,cy⟩:=aZ;have et:=List.append_eq_nil_iff.1 cy;rw [FG,cw,et.1,et.2];simp only [eQ];have j:=FU o (by rw [aQ,hlen])
 have f1:∃l Z,bM (c::a) d=(65533::l,Z):=by unfold bM;rw [xU au,aQ];exact⟨_,_,rfl⟩
 obtain⟨l,Z,f1⟩:=f1;have i:at' (p++(c::a))=p.length:=I0 ae (by simpa using aj)
 have c0:e5 ⟨.cp,p++(c::a),c::a,[]⟩ d (λs1=>bad s1 d)=nB (dc (p++(c::a))) (ground zero d):=by
  unfold e5;simp only [f1,i];rw [ai au,ai]
  .rfl
  .rintro (⟨_,q⟩|q)
   .simp at q
   .rw [xV,j]at q;cases q
 have ff:step ⟨.cp,p++(c::a),c::a,[]⟩ d=nB (dc (p++(c::a))) (ground zero d):=c0;rw [cB,ff,DN];rfl
def se(s:Bytes)(x:aP×Int×Int):Prop :=
 (∃d,x=(x.1,0,2)/\cB zero s=(d,[])/\d.ak=s/\d.nx≠ .cD/\d.ax=[]) \/
 (∃n:Nat,x=(x.1,(n:Int),0)/\1<=n/\n<=s.length/\cB zero s=nB x.1 (cB zero (s.drop n))) \/
 (∃n:Nat,x=(x.1,(n:Int),1)/\1<=n/\n<=s.length/\cB zero s=cB ⟨.cD,[],[],[]⟩ (s.drop n))
def Ld(ae:put r=s.take n):¬(r=65533/\s.take n≠[239,191,189]):=by rintro ⟨rfl,h⟩;rw [<-ae,Av]at h;exact h rfl
def yA(h:(first (s.take n)).2.2=true\/n=1):s.take n≠[239,191,189]:=by
 intro e;rcases h with h|h
 .rw [e]at h;revert h;decide
 .subst h;have:=dm List.length e;rw [lC]at this;simp at this;omega
def Le{t:Bytes}(aj:¬(c.toNat<32\/c.toNat=127)):fI (c::t)=(if(first (c::t)).2.2=true then(hg,0,2)else if(first (c::t)).1=65533/\(c::t).take (first (c::t)).2.1≠[239,191,189]then(dc ((c::t).take (first (c::t)).2.1),((first (c::t)).2.1:Nat),0)else(eb ((first (c::t)).1:Nat),((first (c::t)).2.1:Nat),0):aP×Int×Int):=by unfold fI;simp only [qD];rw [ai aj]
def Yd(hs:s≠[])(a:s.getD 0 0≠27):se s (fI s):=by
 cases s with
 |nil=>exact absurd rfl hs
 |cons c t =>
  have a:c≠27:=a;have ab:ground zero c=h2 zero c (λs1=>tell s1 (dc s1.ak)):=by unfold ground;rw [ai a]
  by_cases aj:c.toNat<32\/c.toNat=127
  .refine .inr (.inl ⟨1,?_,A,au,?_⟩)
   .show(if c.toNat<32\/c.toNat=127 then _ else _)=_;unfold fI;simp only [qD];rw [az aj];rfl
   .rw [DN,ab];unfold h2;rw [az aj];unfold fI;simp only [qD];rw [az aj];rfl
  .have e0:cB zero (c::t)=ml .ground [] (λs1=>tell s1 (dc s1.ak)) c t:=by rw [DN,ab];unfold h2;rw [ai aj];rfl
   rw [Le aj];unfold se;rw [e0];cases begun (s:=c::t) au with
   |more h =>
    rw [az h];exact .inl ⟨_,rfl,DM h,rfl,au,rfl⟩
   |whole r n e b ae aw =>
    rw [e,ai au,ai (Ld ae)];exact .inr (.inl ⟨n,rfl,aw.1,aw.2,La (.inl rfl) A A b ae aw⟩)
   |lone e aQ Y =>
    rw [e,ai au,az ⟨rfl,yA (.inr rfl)⟩];exact .inr (.inl ⟨1,rfl,A,au,Lb (.inl rfl) aQ⟩)
   |broken n Y ag e o aQ =>
    rw [e,ai au,az ⟨rfl,yA (.inl o)⟩];exact .inr (.inl ⟨n,rfl,Y,A,Lc (.inl rfl) a Y ag o aQ⟩)
def mm(x:aP×Int×Int):aP×Int×Int :=
 if x.2.2=2 then(x.1,0,2)else(if x.1.kind=7 then {x.1 with text:=27::x.1.text} else {x.1 with cI:=x.1.cI+2},x.2.1+1,0)
def Ye(c:Nat):(control c).kind≠7:=by
 unfold control dp eb
 repeat' split
 all_goals (intro h;cases h)
def Lf(c:UInt8)(t:Bytes)(a:c≠27)(d:c≠91)(b:c≠79):cB zero (27::c::t)=((cB (plain ⟨.cQ,[27],[],[]⟩ c).1 t).1,(plain ⟨.cQ,[27],[],[]⟩ c).2++(cB (plain ⟨.cQ,[27],[],[]⟩ c).1 t).2):=by
 rw [Vi,cB]
 have:step ⟨.cQ,[27],[],[]⟩ c=plain ⟨.cQ,[27],[],[]⟩ c:=by show cQ _ c=_;unfold cQ;rw [ai a,ai d,ai b]
 rw [this]
def Yf{t:Bytes}(a:c≠27)(d:c≠91)(b:c≠79):se (27::c::t) (mm (fI (c::t))):=by
 by_cases aj:c.toNat<32\/c.toNat=127
 .have e:fI (c::t)=(control c.toNat,1,0):=by unfold fI;simp only [qD];rw [az aj]
  rw [e];refine .inr (.inl ⟨2,?_,A,au,?_⟩)
  .unfold mm;rw [ai au];rfl
  .rw [Lf c t a d b];unfold plain h2 mm;rw [az aj,ai au,ai (Ye _)];rfl
 .have e0:cB zero (27::c::t)=ml .cQ [27] (λs1=>bad s1 c) c t:=by rw [Lf c t a d b];unfold plain h2;rw [ai aj]
  rw [Le aj];unfold se;rw [e0];cases begun (s:=c::t) au with
  |more h =>
   rw [az h];exact .inl ⟨_,rfl,DM h,rfl,au,rfl⟩
  |whole r n e f ae aw =>
   rw [e,ai au,ai (Ld ae)];refine .inr (.inl ⟨n+1,rfl,A,by simp only [bK]at aw⊢; omega,?_⟩);rw [La (.inr rfl) A A f ae aw];rfl
  |lone e aQ Y =>
   rw [e,ai au,az ⟨rfl,yA (.inr rfl)⟩];exact .inr (.inl ⟨2,rfl,A,au,Lb (.inr rfl) aQ⟩)
  |broken n Y ag e o aQ =>
   rw [e,ai au,az ⟨rfl,yA (.inl o)⟩];exact .inr (.inl ⟨n+1,rfl,A,by simp only [bK]at ag⊢; omega,Lc (.inr rfl) a Y ag o aQ⟩)
def DO(sep:UInt8)(w:Bytes):splitAt sep w≠[]:=by
 cases w with
 |nil=>simp [splitAt]
 |cons b r =>
  unfold splitAt;split
  .simp
  .split<;>simp
def Lg{sep:UInt8} :∀{w a:Bytes},splitAt sep w=[a]->a=w
 |[],a,h=>by simpa [splitAt]using h.symm
 |b ::r,a,h=>by
  unfold splitAt at h;split at h
  .rw [fJ]at h;exact absurd h.2 (DO _ _)
  .split at h
   .rename_i w t e;rw [fJ]at h;rw [h.2]at e;rw [<-h.1,Lg e]
   .rename_i e;exact absurd e (DO _ _)
def Lh:∀(l:Bytes)(a:Nat),a<=l.foldl (λn b=>10*n+(b.toNat-48)) a
 |[],a=>Nat.le_refl _
 |b::r,a=>by rw [hT];exact Nat.le_trans A (Lh r (10*a+(b.toNat-48)))
def yB{b:UInt8} :digit b=true↔48<=b.toNat/\b.toNat<=57:=by simp [digit]
def Li:∀(w:Bytes),w.all digit=true->number w=200->w.dropWhile (· == 48)=[50,48,48]
 |[],_,h=>by cases h
 |b ::r,e,h=>by
  rw [iE,cC]at e;by_cases g:b=48
  .subst g;have aQ:(48::r).dropWhile (· == (48:UInt8))=r.dropWhile (· == 48):=by simp [List.dropWhile]
   rw [aQ];exact Li r e.2 h
  .have aQ:(b::r).dropWhile (· == (48:UInt8))=b::r:=by rw [List.dropWhile_cons,ai (by simpa using g)]
   rw [aQ];have i:b.toNat≠48:=λq=>g (fz.1 q)
   have d0:=yB.1 e.1;have a:=e.2
   match r,h,a with
   |[],h,_ =>
    have h:10*0+(b.toNat-48)=200:=h;omega
   |[c],h,a =>
    have h:10* (10*0+(b.toNat-48))+(c.toNat-48)=200:=h;simp only [iE,List.all_nil,Bool.and_true]at a;have:=yB.1 a;omega
   |[c,d],h,a =>
    have h:10* (10* (10*0+(b.toNat-48))+(c.toNat-48))+(d.toNat-48)=200:=h;simp only [iE,List.all_nil,Bool.and_true,cC]at a;have d1:=yB.1 a.1;have d2:=yB.1 a.2;rw [show b=50 from fz.1 (by show b.toNat=50;omega),show c=48 from fz.1 (by show c.toNat=48;omega),show d=48 from fz.1 (by show d.toNat=48;omega)]
   |c::d::f::t,h,_ =>
    exfalso;have h:t.foldl (λn b=>10*n+(b.toNat-48)) (10* (10* (10* (10*0+(b.toNat-48))+(c.toNat-48))+(d.toNat-48))+(f.toNat-48))=200:=h;have:=Lh t (10* (10* (10* (10*0+(b.toNat-48))+(c.toNat-48))+(d.toNat-48))+(f.toNat-48));omega
def Lj(w:Bytes):iR w=true↔numbers w=some [200]:=by
 constructor
 .intro h;obtain⟨Y,ag⟩:=Vh h;have b:w≠[]:=by rintro rfl;cases ag
  have c:w.length<=9:=by
   unfold iR at h;simp only [eC,cC,jB,eP]at h;rcases h with h|h
   .rw [h];simp
   .exact h.2
  unfold numbers;rw [ai b,TZ Y];unfold fX;rw [ai (by rintro (q|q|q);exact b q;omega;rw [Y]at q;cases q),ag];rfl
 .intro h;unfold numbers at h;split at h
  .cases h
  .rename_i b;cases hs:splitAt 59 w with
   |nil=>exact absurd hs (DO _ _)
   |cons a g =>
    rw [hs]at h;unfold fX at h;split at h
    .cases h
    .rename_i aj;cases g with
     |cons x y =>
      exfalso;unfold fX at h;split at h
      .cases h
      .cases d:fX y with
       |none=>rw [d]at h;cases h
       |some z=>rw [d]at h;simp at h
     |nil =>
      have e:=Lg hs;subst e;have aw:number a=200:=by simpa [fX]using h
      have f:a.all digit=true:=by
       cases q:a.all digit with
       |true=>rfl
       |false=>exact absurd (.inr (.inr q)) aj
      have c:a.length<=9:=by
       rcases gK 9 a.length with q|q
       .exact absurd (.inr (.inl q)) aj
       .exact q
      unfold iR;simp [Li a f aw,c]
def Yg{w:Bytes}{c:Nat}{e:aP}(h:dq w c=some e):e.kind≠7:=by
 unfold dq at h
 repeat' split at h
 all_goals (first|(cases h;done)|skip)
 all_goals (dsimp only at h;repeat' split at h)
 all_goals (first|(cases h;done)|(simp only [a8]at h;subst h;intro q;cases q))
def Yh{c:Nat}{m:Int}{e:aP}(h:c1 c m=some e):e.kind≠7:=by
 unfold c1 dp eb at h
 repeat' split at h
 all_goals (first|(cases h;done)|(simp only [a8]at h;subst h;intro q;cases q))
def Yi{w:Bytes}{e:aP}(h:told w c=some e):e.kind≠7:=by
 unfold told dp at h;split at h
 .simp only [a8]at h;subst h;intro q;cases q
 split at h
 .exact Yg h
 split at h
 .cases h
 .repeat' split at h
  all_goals (first|(cases h;done)|(simp only [a8]at h;subst h;intro q;cases q))
 .dsimp only at h
  repeat' split at h
  all_goals (first|(exact Yh h)|(cases h;done)|(simp only [a8]at h;subst h;intro q;cases q))
def kM(s:Bytes)(c:UInt8):aP×Int :=
 if c=126/\numbers s=some [200]then(hg,1)else((told s c).getD (dc []),0)
def qk(s:Bytes):Nat->Bool->Bytes->aP×Int×Int
 |_,_,[]=>(hg,0,2)
 |i,sn,c::r =>
  if 64<=c.toNat/\c.toNat<=126 then
   (if(kM ((s.take i).drop 2) c).1.kind=7 then { (kM ((s.take i).drop 2) c).1 with text:=s.take (i+1)} else(kM ((s.take i).drop 2) c).1,(i:Int)+1,(kM ((s.take i).drop 2) c).2)
  else if c.toNat<32\/63<c.toNat\/(sn=true/\48<=c.toNat)then(dc (s.take i),i,0)
  else if i+1=64 then(dc (s.take (i+1)),(i:Int)+1,0)
  else qk s (i+1) (sn || decide (c.toNat<48)) r
def DP(s:Bytes)(i:Nat)(d0:bI)(x:aP×Int×Int):Prop :=
 (∃d,x=(x.1,0,2)/\cB d0 (s.drop i)=(d,[])/\d.ak=s/\d.nx≠ .cD/\d.ax=[]) \/
 (∃n:Nat,x=(x.1,(n:Int),0)/\1<=n/\n<=s.length/\cB d0 (s.drop i)=nB x.1 (cB zero (s.drop n))) \/
 (∃n:Nat,x=(x.1,(n:Int),1)/\1<=n/\n<=s.length/\cB d0 (s.drop i)=cB ⟨.cD,[],[],[]⟩ (s.drop n))
def Yj :∀(k i:Nat)(sn:Bool),s.length-i<=k->i<=s.length->2<=i->i<64->sn=decide (((s.take i).getLastD 0).toNat<48)->DP s i ⟨.sequence,s.take i,[],[]⟩ (qk s i sn (s.drop i)):=by
 intro k;induction k with
 |zero =>
  intro i sn r ah ag o a;obtain rfl:i=s.length:= A;unfold DP;rw [nI];exact .inl ⟨_,rfl,rfl,kj,au,rfl⟩
 |succ k ih =>
  intro i sn r ah ag o a;by_cases aj:i<s.length
  .have j :s.drop i=s[i]::s.drop (i+1):=ki aj;have l:s.take (i+1)=s.take i++[s[i]]:=(List.take_append_getElem aj).symm;have z:(s.take i).length=i:=by rw [lC];omega
   have f:=ih (i+1) (sn || decide (s[i].toNat<48)) A A A;unfold DP at f⊢;rw [j];rw [l]at f
   have u:∀sn,qk s i sn (s[i]::s.drop (i+1))=if 64<=s[i].toNat/\s[i].toNat<=126 then
    (if(kM ((s.take i).drop 2) s[i]).1.kind=7 then { (kM ((s.take i).drop 2) s[i]).1 with text:=s.take (i+1)} else(kM ((s.take i).drop 2) s[i]).1,(i:Int)+1,(kM ((s.take i).drop 2) s[i]).2)
    else if s[i].toNat<32\/63<s[i].toNat\/(sn=true/\48<=s[i].toNat)then(dc (s.take i),i,0)
    else if i+1=64 then(dc (s.take (i+1)),(i:Int)+1,0)
    else qk s (i+1) (sn || decide (s[i].toNat<48)) (s.drop (i+1)):=λ_=>rfl
   rw [u,l];have e0:∀t,cB ⟨.sequence,s.take i,[],[]⟩ (s[i]::t)=((cB (sequence ⟨.sequence,s.take i,[],[]⟩ s[i]).1 t).1,(sequence ⟨.sequence,s.take i,[],[]⟩ s[i]).2++(cB (sequence ⟨.sequence,s.take i,[],[]⟩ s[i]).1 t).2):=λ_=>rfl
   rw [e0];have w:∀x,cB zero (s.drop i)=x->cB zero (s[i]::s.drop (i+1))=x:=λx h=>by rw [<-j];exact h
   generalize s[i]=c at *;generalize y:s.take i=K at *;by_cases Y:64<=c.toNat/\c.toNat<=126
   .rw [az Y]
    have es:sequence ⟨.sequence,K,[],[]⟩ c=done ⟨.sequence,K++[c],[],[]⟩ (K.drop 2) c:=by unfold sequence;rw [az Y]
    rw [es];unfold done;by_cases ae:c=126/\iR (K.drop 2)=true
    .have g:kM (K.drop 2) c=(hg,1):=by unfold kM;rw [az ⟨ae.1,(Lj _).1 ae.2⟩]
     rw [az ae,g];exact .inr (.inr ⟨i+1,rfl,A,A,rfl⟩)
    .have g:kM (K.drop 2) c=((told (K.drop 2) c).getD (dc []),0):=by unfold kM;rw [ai (λq=>ae ⟨q.1,(Lj _).2 q.2⟩)]
     rw [ai ae,g];refine .inr (.inl ⟨i+1,rfl,A,A,?_⟩);cases v:told (K.drop 2) c with
     |none=>rfl
     |some e =>
      have:=Yi v;simp only [pa];rw [ai this];rfl
   .rw [ai Y];by_cases b:c.toNat<32\/63<c.toNat\/48<=c.toNat/\(K.getLastD 0).toNat<48
    .have d:c.toNat<32\/63<c.toNat\/sn=true/\48<=c.toNat:=by rw [a];simp only [eP];omega
     rw [az d]
     have es:sequence ⟨.sequence,K,[],[]⟩ c=nB (dc K) (ground zero c):=by unfold sequence;rw [ai Y,az b];rfl
     rw [es];refine .inr (.inl ⟨i,rfl,A,ah,?_⟩);rw [<-w _ rfl];rfl
    .have d:¬(c.toNat<32\/63<c.toNat\/sn=true/\48<=c.toNat):=by rw [a];simp only [eP];omega
     rw [ai d];by_cases m:i+1=64
     .rw [az m]
      have es:sequence ⟨.sequence,K,[],[]⟩ c=(zero,[dc (K++[c])]):=by unfold sequence;rw [ai Y,ai b,az (by show K.length+1=64;omega)];rfl
      rw [es];exact .inr (.inl ⟨i+1,rfl,A,A,rfl⟩)
     .rw [ai m]
      have es:sequence ⟨.sequence,K,[],[]⟩ c=(⟨.sequence,K++[c],[],[]⟩,[]):=by unfold sequence;rw [ai Y,ai b,ai (by show ¬K.length+1=64;omega)]
      rw [es];simp only [eQ];refine f A ?_;rw [T0,a];by_cases n:c.toNat<48
      .simp [n]
      .have p:¬(K.getLastD 0).toNat<48:= A;rw [ie n,ie p];rfl
  .exact ih i sn A ah ag o a
def ql:Bytes->aP×Int×Int
 |[]=>(hg,0,2)
 |d::_=>if 0<dJ d.toNat then(dp (dJ d.toNat),3,0)else if 80<=d.toNat/\d.toNat<=83 then(dp (21+(d.toNat-80)),3,0)else if d.toNat=77 then(dp 1,3,0)else(eb 79 2,2,0)
def ep(s:Bytes):aP×Int×Int :=
 match s with
 |[]=>(hg,0,2)
 |b ::r =>
  if b=27 then
   match r with
   |[]=>(hg,0,2)
   |c::t =>
    if c=27 then(dp 4,1,0)
    else if c=91 then qk s 2 false t
    else if c=79 then ql t
    else mm (fI (c::t))
  else fI s
def DQ(hs:s≠[]):se s (ep s):=by
 cases s with
 |nil=>exact absurd rfl hs
 |cons b r =>
  by_cases j:b=27
  .subst j;cases r with
   |nil=>exact .inl ⟨⟨.cQ,[27],[],[]⟩,rfl,rfl,rfl,au,rfl⟩
   |cons c t =>
    by_cases f:c=27
    .subst f;exact .inr (.inl ⟨1,rfl,A,au,rfl⟩)
    by_cases i:c=91
    .subst i;have h:=Yj (s:=27::91::t) t.length 2 false au au A A (by rfl);exact h
    by_cases g:c=79
    .subst g;have e:ep (27::79::t)=ql t:=rfl;rw [e];have k:cB zero (27::79::t)=cB ⟨.single,[27,79],[],[]⟩ t:=rfl;cases t with
     |nil=>exact .inl ⟨⟨.single,[27,79],[],[]⟩,rfl,rfl,rfl,au,rfl⟩
     |cons d t =>
      have es:cB ⟨.single,[27,79],[],[]⟩ (d::t)=((cB (single ⟨.single,[27,79],[],[]⟩ d).1 t).1,(single ⟨.single,[27,79],[],[]⟩ d).2++(cB (single ⟨.single,[27,79],[],[]⟩ d).1 t).2):=rfl;unfold se;rw [k,es];unfold single ql;simp only;by_cases Y:0<dJ d.toNat
      .rw [az Y,az Y];exact .inr (.inl ⟨3,rfl,A,au,rfl⟩)
      rw [ai Y,ai Y];by_cases ag:80<=d.toNat/\d.toNat<=83
      .rw [az ag,az ag];exact .inr (.inl ⟨3,rfl,A,au,rfl⟩)
      rw [ai ag,ai ag];by_cases a:d.toNat=77
      .rw [az a,az a];exact .inr (.inl ⟨3,rfl,A,au,rfl⟩)
      rw [ai a,ai a];exact .inr (.inl ⟨2,rfl,A,au,rfl⟩)
    .have e:ep (27::c::t)=mm (fI (c::t)):=by unfold ep;simp only;rw [az trivial,ai f,ai i,ai g]
     rw [e];exact Yf f i g
  .have e:ep (b::r)=fI (b::r):=by unfold ep;simp only;rw [ai j]
   rw [e];exact Yd au j
def hA:Nat->Bytes->Option Nat
 |_,[]=>none
 |j,b::r=>if cm.isPrefixOf (b::r)=true then some j else hA (j+1) r
def h'(x:Bytes):Nat->Nat
 |0=>0
 |k+1=>if x.drop (x.length- (k+1))=cm.take (k+1)then k+1 else h' x k
def Lk(x:Bytes)(h:cm <+: x):6<=x.length:=h.length_le
def Ll:∀(x:Bytes)(j:Nat),(∀k,¬cm <+: x.drop k)->hA j x=none
 |[],j,_=>rfl
 |b::r,j,aw=>by unfold hA;rw [ai (λq:List.isPrefixOf cm (b::r)=true=>aw 0 (qB.1 q))];exact Ll r (j+1) λk=>aw (k+1)
def eB:Nat->Bool->Bytes->Bytes->List aP×Bool×Bytes×Bytes
 |0,n,t,s=>([],n,t,s)
 |f+1,true,t,s =>
  match hA 0 s with
  |some i=>(kH ((t++s.take i).take 65536)::(eB f false [] (s.drop (i+6))).1,(eB f false [] (s.drop (i+6))).2)
  |none=>([],true,(t++s.take (s.length-h' s (min s.length 5))).take 65536,s.drop (s.length-h' s (min s.length 5)))
 |f+1,false,t,s =>
  if s=[]then([],false,t,[])
  else if(ep s).2.2=2 then([],false,t,s)
  else if(ep s).2.2=1 then eB f true t (s.drop (ep s).2.1.toNat)
  else((ep s).1::(eB f false t (s.drop (ep s).2.1.toNat)).1,(eB f false t (s.drop (ep s).2.1.toNat)).2)
end Go.Keys
namespace Go.Proofs.zz
open Go.br Go.Keys Go.Lib
def kN(b:Nat)(r:ev):Bool:=Nat.ble r.aD b&&Nat.ble b r.ah
variable {s:Bytes}
def Lm{r:ev}(h:kN (bV s 0) r=false):di s r=0:=by
 refine W2 ?_;unfold kN at h;rw [Bool.and_eq_false_iff]at h;rcases h with h|h
 .left;rcases gK (bV s 0) r.aD with q|q
  .exact q
  .rw [Nat.ble_eq_true_of_le q]at h;cases h
 .right;rcases gK r.ah (bV s 0)with q|q
  .exact q
  .rw [Nat.ble_eq_true_of_le q]at h;cases h
def Ln(s:Bytes):∀l:List ev,ka s l=(l.filter (kN (bV s 0))).any (hf s)
 |[]=>rfl
 |r ::l=>by
  have ih:=Ln s l;show _root_.cond (hf s r) true (ka s l)=_;rw [List.filter_cons,ih];cases h:kN (bV s 0) r with
  |true=>rw [az rfl,List.any_cons];cases hf s r<;>rfl
  |false =>
   have:hf s r=false:=by unfold hf;rw [Lm h];rfl
   rw [ai au,this];rfl
def DR(s:Bytes)(r:ev):∀(t k:Nat),k<=fx s r t k
 |0,k=>Nat.le_refl _
 |t +1,k=>by
  unfold fx;split
  .split
   .exact Nat.le_refl _
   .exact Nat.le_trans (Nat.le_succ k) (DR s r t (k+1))
  .exact Nat.le_refl _
def Lo{r:ev}(hs:s≠[])(h:kN (bV s 0) r=true):di s r=fx s r 4 1:=by unfold kN at h;rw [cC,Nat.ble_eq,Nat.ble_eq]at h;have:=gk.2 hs;unfold di;rw [ai A]
def uX(s:Bytes)(r:ev):Int×Int:=if di s r<r.n then(65533,(di s r:Nat))else(iz s (di s r) 3 1 ((bV s 0:Nat)- (r.off:Nat)),(di s r:Nat))
def Yk(s:Bytes):List ev->Int×Int
 |[]=>(65533,1)
 |r::_=>uX s r
def Lp(hs:s≠[]):∀l:List ev,gr s l=Yk s (l.filter (kN (bV s 0)))
 |[]=>rfl
 |r ::l=>by
  have ih:=Lp hs l;show(if di s r=0 then gr s l else _)=_;rw [List.filter_cons,ih];cases h:kN (bV s 0) r with
  |true =>
   have:=DR s r 4 1;rw [az rfl,ai (by rw [Lo hs h];omega)];rfl
  |false=>rw [az (Lm h),ai au]
def Lq(b:Nat):Bool :=
 match dh.filter (kN b)with
 |[]=>Nat.beq (lead b).1 0
 |[r]=>Nat.beq (lead b).1 r.n&&Nat.ble 1 r.n&&Nat.ble r.n 4&&Nat.ble r.off b&&(Nat.beq r.n 1&&Nat.beq r.off 0 || Nat.ble 2 r.n&&Nat.beq (lead b).2.1 r.df&&Nat.beq (lead b).2.2 r.cS&&Nat.beq (b-r.off) (b%2^(7-r.n))&&Nat.ble 128 r.df&&Nat.ble r.cS 191)
 |_=>false
def Yl:∀b:Fin 256,Lq b.val=true:= aC
def Ym(s:Bytes)(r:ev)(ag:128<=r.df/\r.cS<=191):∀(m k v t a aD ah:Nat),r.n=k+m->m<=t->m<=a->1<=k->k<=s.length->(k=1->aD=r.df/\ah=r.cS)->(k≠1->aD=128/\ah=191) ->
 (fx s r t k<r.n/\fx s r t k=s.length/\tail m k aD ah v (s.drop k)=(65533,fx s r t k,true)) \/
 (fx s r t k<r.n/\fx s r t k≠s.length/\tail m k aD ah v (s.drop k)=(65533,fx s r t k,false)) \/
 (fx s r t k=r.n/\∃d:Nat,tail m k aD ah v (s.drop k)=(d,r.n,false)/\iz s r.n a k (v:Nat)=(d:Nat)):=by
 intro m;induction m with
 |zero =>
  intro k v t a aD ah aw _ _ Y l _ _;right;right
  have aQ:fx s r t k=k:=by
   cases t with
   |zero=>rfl
   |succ t=>unfold fx;rw [ai A]
  have aZ:iz s r.n a k (v:Nat)=(v:Nat):=by
   cases a with
   |zero=>rfl
   |succ t=>unfold iz;rw [ai A]
  exact⟨A,v,by rw [rM];congr 2;omega,aZ⟩
 |succ m ih =>
  intro k v t a aD ah aw o p Y l h i;obtain⟨t,rfl⟩:∃x,t=x+1:=⟨t-1,A⟩
  obtain⟨a,rfl⟩:∃x,a=x+1:=⟨a-1,A⟩
  by_cases c:k<s.length
  .have f:s.drop k=s[k]::s.drop (k+1):=ki c;have g:bV s k=s[k].toNat:=by unfold bV;rw [hC,ds c];rfl
   have hm:nw s r k=decide (s[k].toNat<aD\/ah<s[k].toNat):=by
    unfold nw;rw [g];by_cases q:k=1
    .obtain⟨rfl,rfl⟩:=h q;rw [show Nat.beq k 1=true by rw [jC];exact q];rw [Bool.eq_iff_iff];simp [eG]
    .obtain⟨rfl,rfl⟩:=i q;rw [show Nat.beq k 1=false by rw [gL];intro e;exact q (by rwa [jC]at e)];rw [Bool.eq_iff_iff];simp [eG]
   by_cases aj:s[k].toNat<aD\/ah<s[k].toNat
   .right;left
    have b:fx s r (t+1) k=k:=by unfold fx;rw [az ⟨A,c⟩,hm,iH aj,az rfl]
    rw [b,f];refine⟨A,A,?_⟩;unfold tail;rw [az aj]
   .have b:fx s r (t+1) k=fx s r t (k+1):=by
     conv=>lhs;unfold fx
     rw [az ⟨A,c⟩,hm,ie aj,ai au]
    have j:tail (m+1) k aD ah v (s.drop k)=tail m (k+1) 128 191 (v*64+s[k].toNat%64) (s.drop (k+1)):=by rw [f];exact kF A A
    have ca:iz s r.n (a+1) k (v:Nat)=iz s r.n a (k+1) ((v*64+s[k].toNat%64:Nat):Int):=by
     conv=>lhs;unfold iz
     rw [az A,g]
     congr 1
     have:128<=s[k].toNat/\s[k].toNat<=191:=by
      by_cases q:k=1
      .obtain⟨rfl,rfl⟩:=h q;omega
      .obtain⟨rfl,rfl⟩:=i q;omega
     omega
    rw [b,j,ca];exact ih (k+1) _ t a 128 191 A A A A A (λq=>absurd q A) (λ_=>⟨rfl,rfl⟩)
  .left
   have b:fx s r (t+1) k=k:=by unfold fx;rw [ai A]
   rw [b,List.drop_eq_nil_of_le A];exact⟨A,A,rfl⟩
def Yn(hs:s≠[]):ka s dh=(first s).2.2/\((first s).2.2=false->gr s dh=(((first s).1:Int),((first s).2.1:Int))):=by
 rw [Ln,Lp hs];have C:=gk.2 hs;have a:=Yl ⟨bV s 0,oN s 0⟩;unfold Lq at a;simp only at a;have i:∀r,r∈dh.filter (kN (bV s 0))->kN (bV s 0) r=true:=λr h=>(ms.1 h).2
 generalize dh.filter (kN (bV s 0))=l at *
 obtain⟨b,t,rfl⟩:∃b t,s=b::t:=by
  cases s with
  |nil=>exact absurd rfl hs
  |cons b t=>exact⟨b,t,rfl⟩
 have f:bV (b::t) 0=b.toNat:=rfl;rw [f]at a
 match l,a,i with
 |[],a,_ =>
  rw [jC]at a;have c:first (b::t)=(65533,1,false):=by simp [first,a]
  rw [c];exact⟨rfl,λ_=>rfl⟩
 |[r],a,i =>
  simp only [cC,eC,jC,Nat.ble_eq]at a;obtain⟨⟨⟨⟨aQ,aZ⟩,z⟩,B⟩,m⟩:=a;have g:=Lo hs (i r au);rcases m with ⟨k,w⟩|⟨⟨⟨⟨⟨n2,v⟩,l2⟩,x⟩,g1⟩,g2⟩
  .have c:first (b::t)=(b.toNat,1,false):=by simp [first,aQ,k]
   have cd:di (b::t) r=1:=by rw [g];unfold fx;rw [ai A]
   rw [c];refine⟨?_,λ_=> ?_⟩
   .show(hf (b::t) r || false)=false;unfold hf;rw [cd,k,show Nat.blt 1 1=false from rfl];simp
   .show uX (b::t) r=_;unfold uX;rw [cd,k,ai A,f,w];show(iz (b::t) 1 3 1 _,_)=_;unfold iz;rw [ai A];simp
  .have c:first (b::t)=tail (r.n-1) 1 r.df r.cS (b.toNat-r.off) ((b::t).drop 1):=by simp only [first,aQ];rw [ai A,ai A,v,l2,x];rfl
   have key:=Ym (b::t) r ⟨g1,g2⟩ (r.n-1) 1 (b.toNat-r.off) 4 3 r.df r.cS A A A A au (λ_=>⟨rfl,rfl⟩) (λq=>absurd rfl q);rw [<-c,<-g]at key;have p:=DR (b::t) r 4 1;rw [<-g]at p;have o:([r].any (hf (b::t)))=hf (b::t) r:= au;rw [o];show _/\(_->uX (b::t) r=_);unfold uX;rw [f];rcases key with ⟨d,j,e⟩|⟨d,j,e⟩|⟨d,y,e,u⟩
   .rw [e];refine⟨?_,λq=>by cases q⟩;unfold hf;rw [show Nat.blt 0 (di (b::t) r)=true by rw [eG];omega,show Nat.beq (di (b::t) r) (b::t).length=true by rw [jC];exact j,show Nat.blt (di (b::t) r) r.n=true by rw [eG];exact d];rfl
   .rw [e];refine⟨?_,λ_=>by rw [az d];rfl⟩;unfold hf;rw [show Nat.beq (di (b::t) r) (b::t).length=false by rw [gL];intro q;exact j (by rwa [jC]at q)];simp
   .rw [e];refine⟨?_,λ_=> ?_⟩
    .unfold hf;rw [show Nat.blt (di (b::t) r) r.n=false by rw [gL];intro q;rw [eG]at q;omega];simp
    .rw [ai A,d];rw [show((b.toNat:Nat):Int)- ((r.off:Nat):Int)=((b.toNat-r.off:Nat):Int)by omega,u]
def Lr(hs:s≠[])(b:bV s 0≠27):yu s=fI s:=by
 obtain⟨Y,ag⟩:=Yn hs;have c:(s.getD 0 0).toNat=bV s 0:=rfl;unfold yu fI;rw [c,Y];by_cases aj:bV s 0<32\/bV s 0=127
 .rw [az aj,az aj,Xe aj b]
 .rw [ai aj,ai aj];cases d:(first s).2.2 with
  |true=>rfl
  |false =>
   rw [ag d];simp only [ey,ez,fS];by_cases a:(first s).1=65533/\s.take (first s).2.1≠[239,191,189]
   .rw [az a,az ⟨A,a.2⟩]
   .rw [ai a,ai (λq=>a ⟨A,q.2⟩)]
def Ls(s:Bytes):∀(l:Bytes)(i:Nat)(sn:Bool),iC s i sn l=qk s i sn l
 |[],i,sn=>rfl
 |c::r,i,sn=>by unfold iC qk;rw [Ls s r];rfl
end Go.Proofs.zz
