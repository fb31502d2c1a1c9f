/-
  Parts of the proof of KeysName.
-/
import Derived.ProofKit
import Derived.OpenShut
import Derived.ChangeOld
import Derived.HandedShaped
import Derived.Deep.Slices
import Derived.Test.YtddnafghiejcoaaGreatDoorRows
import Derived.LaidMore
import Derived.Stop.Joined
import Derived.Stop.LaidErr
import Derived.MakeChecks
import Derived.Lib.LaidTab
import Derived.LaidOnce
import Derived.Lib.Space
import Derived.Test.YtddnafghiejcoaaGreatDoorKKeysNameH
set_option maxRecDepth 1000000
set_option linter.unusedVariables false
set_option linter.defProp false
set_option linter.unusedSimpArgs false
open Go.Proofs.YtddnafghiejcoaaGreatDoor
namespace Go.Proofs.zz
open Go.br Go.Keys Go.Lib
abbrev c7(k:Bytes)(n:Bool)(t:Bytes):aa:=aa.an [.agg [.str k,.bool n,.str t]] 3 true (some (29,3))
def Yo(a b:Bytes)(c:aU)(d:dW env.D 9 (.str a) none (some (.V (if 65536<(↑(a.length):Int)then 65536 else(↑(a.length):Int)))) none=some (J.str b)/\c (.str b) (af 7 [])) :
 bl 91 [.str a] bG c :=
 bm bL (ap 1004 (.str b) .nil) d
def Lt(b g d f:Bytes)(a:Nat)(c:b8->bc->T->Prop)(i:(bd ((a:Int)+6))/\((a:Int)+6<=(↑(b.length):Int)->(bd ((a:Int)+6))/\dW env.D 9 (.str b) (some (.V a)) (some (.V ((a:Int)+6))) none=some (J.str g)/\(bz (g == Array.toList #[27,91,50,48,49,126]))/\(bd ((a:Int)+1))/\c .normal [(0,J.cY 0),(1,.str b),(4,J.aT 50),(7,.V ((a:Int)+1))] (af 74 [(0,(aa.an ([.agg [.str d,.aK,.str f]]) 3 true (some (29,3)))),(50,dk)]))/\(¬(a:Int)+6<=(↑(b.length):Int)->c (.exit 0) [(0,J.cY 0),(1,.str b),(4,J.aT 50),(7,.V a)] (af 65 [(0,(aa.an ([.agg [.str d,.aK,.str f]]) 3 true (some (29,3)))),(50,dk)]))) :
 ∃e h Y,bN 1 80 (bu 61 0) [(0,J.cY 0),(1,.str b),(4,J.aT 50),(7,.V (a:Nat))] (T.rows 60 [(0,c7 d true f),(50,cZ (bb 0 0 0 0 0 []))]) e h Y/\c e h Y :=
 dD c6 mixed bL (hs:=ab 2001 (.al 2004 (ab 4003 (ap 4004 (.str g) (ap 4005 .aJ (ab 3001 .nil)))) .nil)) (keep:=[0,1,4,5,6,7]) ao i
abbrev Yp(a b:Bytes):J:=J.agg [.str a,.aK,.str b]
abbrev Lu(a:Bytes):J:=J.agg [.bA 4,.av 0,.ac 0,.V 0,.V 0,.str a]
abbrev nC(a b:Bytes):aa:=(aa.an ([(Yp a b)]) 3 true (some (29,3)))
abbrev yC(a b:Bytes):T:=(af 83 [(0,(nC a b)),(50,dk)])
def Yq(c k d b g f j:Bytes)(a:Nat)(i:b8->bc->T->Prop)(m:(bd ((a:Int)+6))/\((a:Int)+6<=(↑(c.length):Int)->(bd ((a:Int)+6))/\dW env.D 9 (.str c) (some (.V a)) (some (.V ((a:Int)+6))) none=some (J.str k)/\(cX (k == Array.toList #[27,91,50,48,49,126]))/\dW env.D 9 (.str c) none (some (.V a)) none=some (J.str g)/\bY (b.length+g.length)/\bk 91 [.str (b++g)] (yC d b) (.str f) (yC d b)/\(yC d b)=(yC d b)/\(∀(h:T),bk 91 [.str (b++g)] h (.str f) h)/\(bd ((a:Int)+6))/\dW env.D 9 (.str c) (some (.V ((a:Int)+6))) none none=some (J.str j)/\i .ret [(0,J.cY 0),(1,.str c),(4,J.aT 50),(5,.str j),(6,.aK),(7,.V a)] (af 99 [(0,(aa.an ([.agg [.str d,.aJ,.str []]]) 3 true (some (29,3)))),(50,(aL (Lu f))),(81,(aL (Lu f)))]))/\(¬(a:Int)+6<=(↑(c.length):Int)->i (.exit 0) [(0,J.cY 0),(1,.str c),(4,J.aT 50),(7,.V a)] (af 65 [(0,(nC d b)),(50,dk)]))) :
 ∃e l Y,bN 1 80 (bu 61 0) [(0,J.cY 0),(1,.str c),(4,J.aT 50),(7,.V (a:Nat))] (T.rows 60 [(0,c7 d true b),(50,cZ (bb 0 0 0 0 0 []))]) e l Y/\i e l Y :=
 dD c6 mixed bL (hs:=ab 2001 (.al 2004 (ab 4003 (ap 4004 (.str k) (ap 4005 .aK (ap 5006 (.str g) (ab 5007 (ap 5008 (.str f) (ab 8003 (ap 8004 (.str j) .nil)))))))) .nil)) (keep:=[0,1,4,5,6,7]) ao m
def Lv(b c d g h:Bytes)(a:Nat)(f:b8->bc->T->Prop)(j:(-9223372036854775808<=(↑(b.length):Int)- (a:Int)/\(↑(b.length):Int)- (a:Int)<=9223372036854775807)/\dW env.D 9 (.str b) (some (.V ((↑(b.length):Int)- (a:Int)))) none none=some (J.str c)/\dW env.D 9 (.str [27,91,50,48,49,126]) none (some (.V a)) none=some (J.str d)/\(c=d->f (.exit 2) [(0,J.cY 0),(1,.str b),(4,J.aT 50),(9,.V a)] (af 69 [(0,(nC g h)),(50,dk)]))/\(¬c=d->(bd ((a:Int)-1))/\f .normal [(0,J.cY 0),(1,.str b),(4,J.aT 50),(9,.V ((a:Int)-1))] (af 72 [(0,(nC g h)),(50,dk)]))) :
 ∃e i Y,bN 1 80 (bu 61 1) [(0,J.cY 0),(1,.str b),(4,J.aT 50),(9,.V (a:Nat))] (T.rows 60 [(0,c7 g true h),(50,cZ (bb 0 0 0 0 0 []))]) e i Y/\f e i Y :=
 dD c6 mixed bL (hs:=ab 10004 (ap 10005 (.str c) (ap 10007 (.str d) (.al 10008 .nil (ab 11001 .nil))))) (keep:=[0,1,4,5,6,9]) ao j
abbrev Lw(a:Bytes):J:=J.agg [.bA 4,.av 0,.ac 0,.V 0,.V 0,.str a]
def Yr(h g i b e d a:Bytes)(c:Bool)(f:aU)(j:bN 1 80 (Code.loop (bu 61 0)) [(0,J.cY 0),(1,.str h),(4,J.aT 1),(5,.str []),(6,.aJ),(7,.V 0)] (af 5 [(0,(nC g i)),(1,bF)]) .ret [(4,J.aT 50),(5,.str d),(6,.aK)] (af 90 [(0,c7 b c e),(50,cZ (bb 4 0 0 0 0 a))])/\f (.tuple [(Lw a),.str d,.aK]) (af 90 [(0,(aa.an ([.agg [.str b,.bool c,.str e]]) 3 true (some (29,3)))),(50,(aL (Lw a)))])) :
 bl 61 [J.cY 0,.str h] (T.of [c7 g true i]) f :=
 bm bL (.aG (.keep [0,1,4,5,6,7])<|.aG (.loop [(4,J.aT 50),(5,.str d),(6,.aK)] (af 90 [(0,c7 b c e),(50,cZ (bb 4 0 0 0 0 a))]) .ret) .nil) j
def Ys(a c b e f g:Bytes)(i:J)(d:Nat)(h:aU)(j:bN 1 80 (Code.loop (bu 61 0)) [(0,J.cY 0),(1,.str a),(4,J.aT 1),(5,.str []),(6,.aJ),(7,.V 0)] (af 5 [(0,(nC c b)),(1,bF)]) (.exit 0) [(0,J.cY 0),(1,.str a),(4,J.aT 50),(7,i)] (af 60 [(0,c7 c true b),(50,cZ (bb 0 0 0 0 0 []))])/\bN 1 80 (Code.loop (bu 61 1)) [(0,J.cY 0),(1,.str a),(4,J.aT 50),(9,.V (if 5<(↑(a.length):Int)then 5 else(↑(a.length):Int)))] (af 64 [(0,(nC c b)),(50,dk)]) (.exit 2) [(0,J.cY 0),(1,.str a),(4,J.aT 50),(9,.V d)] (af 90 [(0,c7 c true b),(50,cZ (bb 0 0 0 0 0 []))])/\(-9223372036854775808<=(↑(a.length):Int)- (d:Int)/\(↑(a.length):Int)- (d:Int)<=9223372036854775807)/\dW env.D 9 (.str a) none (some (.V ((↑(a.length):Int)- (d:Int)))) none=some (J.str e)/\bY (b.length+e.length)/\bk 91 [.str (b++e)] (af 106 [(0,(nC c b)),(50,dk)]) (.str f) (af 106 [(0,(nC c b)),(50,dk)])/\(-9223372036854775808<=(↑(a.length):Int)- (d:Int)/\(↑(a.length):Int)- (d:Int)<=9223372036854775807)/\dW env.D 9 (.str a) (some (.V ((↑(a.length):Int)- (d:Int)))) none none=some (J.str g)/\h (.tuple [fE,.str g,.aJ]) (af 116 [(0,(aa.an ([.agg [.str c,.aK,.str f]]) 3 true (some (29,3)))),(50,dk)])) :
 bl 61 [J.cY 0,.str a] (T.of [c7 c true b]) h :=
 bm bL (.aG (.keep [0,1,4,5,6,7])<|.aG (.loop [(0,J.cY 0),(1,.str a),(4,J.aT 50),(7,i)] (af 60 [(0,c7 c true b),(50,cZ (bb 0 0 0 0 0 []))]) (.exit 0))<|.aG (.keep [0,1,4,5,6,9])<|.aG (.loop [(0,J.cY 0),(1,.str a),(4,J.aT 50),(9,.V d)] (af 90 [(0,c7 c true b),(50,cZ (bb 0 0 0 0 0 []))]) (.exit 2))<|ab 12009<|ap 12010 (.str e)<|ab 12011<|ap 12012 (.str f)<|ab 13005<|ap 13006 (.str g) .nil) j
def Yt(c g h a i j:T)(d e f:Nat)(q m:Bytes)(b p l k:J)(o:b8->bc->T->Prop)(r:aY d (c.M) (a6 env.D 4 ⟨e,0,0,1,3⟩ (bf c 4)=some (J.bool true)/\aY d (c.M+4) (bk 61 [J.cY e,.str q] (bf c 15) (.tuple [b,.str m,.aK]) g/\bt env cr (c.M+11) (ba []) g (Op.alloc 42)=some (.aT f,h)/\bt env cr (c.M+12) (ba [(7,J.aT f),(30,b)]) h (Op.store 42 (Operand.tmp 7) (Operand.tmp 30))=some (J.tuple [],a)/\aY d (a.M) (aY d (a.M+2) (aY d (a.M+4) (a6 env.D 42 ⟨f,0,0,0,6⟩ (bf a 9)=some b/\bt env cr (a.M+6) (ba [(37,b)]) (bf a 9) (Op.buildSlice 56 1 {toList:=[(0,Operand.tmp 37)]})=some (k,i)/\eY env Builtin.append {toList:=[56,56]} [p,k] (a.M+7) i=some (l,j)/\o .normal [(0,J.cY e),(5,.str m),(6,l)] j)))))) :
 ∃b n Y,bN d 67 (bu 31 0) [(0,J.cY e),(5,.str q),(6,p)] c b n Y/\o b n Y :=
 dD c6 mixed bL (hs:= ap 5003 .aK (.aG (.act 6002 (.tuple [b,.str m,.aK]) λx=>g) (.aG (.act 6007 (.aT f) λx=>h) (.aG (.act 6008 .bZ λx=>a) (ap 9001 b (.aG (.act 9002 k λx=>i) (.aG (.act 9003 l λx=>j) .nil))))))) (keep:=[0,5,6]) ao r
def Yu(a f g b:T)(d e i:Nat)(m h:Bytes)(c l:J)(k:b8->bc->T->Prop)(n:aY d (a.M) (a6 env.D 4 ⟨e,0,0,1,3⟩ (bf a 4)=some (J.bool true)/\aY d (a.M+4) (bk 61 [J.cY e,.str m] (bf a 15) (.tuple [c,.str h,.aJ]) f/\bt env cr (a.M+11) (ba []) f (Op.alloc 42)=some (.aT i,g)/\bt env cr (a.M+12) (ba [(7,J.aT i),(30,c)]) g (Op.store 42 (Operand.tmp 7) (Operand.tmp 30))=some (J.tuple [],b)/\aY d (b.M) (aY d (b.M+2) (k (.exit 0) [(0,J.cY e),(5,.str h),(6,l)] (T.mk (b.M+2+2) (T.aF (bf b 2)))))))) :
 ∃c j Y,bN d 67 (bu 31 0) [(0,J.cY e),(5,.str m),(6,l)] a c j Y/\k c j Y :=
 dD c6 mixed bL (hs:= ap 5003 .aK (.aG (.act 6002 (.tuple [c,.str h,.aJ]) λx=>f) (.aG (.act 6007 (.aT i) λx=>g) (.aG (.act 6008 .bZ λx=>b) .nil)))) (keep:=[0,5,6]) ao n
def Lx(b l m a n o p:T)(c e k:Nat)(f j:Bytes)(d:J)(s g:Int)(i r q:J)(h:b8->bc->T->Prop)(u:aY c (b.M) (a6 env.D 4 ⟨e,0,0,1,3⟩ (bf b 4)=some (J.bool false)/\aY c (b.M+4) ((f=[]->h (.exit 0) [(0,J.cY e),(5,.str f),(6,i)] (T.mk (b.M+4+2) (T.aF (bf b 4))))/\(¬f=[]->aY c (b.M+6) (bk 39 [.str f] (bf b 16) (.tuple [d,.V s,.V g]) l/\bt env cr (b.M+12) (ba []) l (Op.alloc 42)=some (.aT k,m)/\bt env cr (b.M+13) (ba [(10,J.aT k),(45,d)]) m (Op.store 42 (Operand.tmp 10) (Operand.tmp 45))=some (J.tuple [],a)/\aY c (a.M) ((g=2->h (.exit 0) [(0,J.cY e),(5,.str f),(6,i)] (bf a 2))/\(¬g=2->aY c (a.M+2) (dW env.D 9 (.str f) (some (.V s)) none none=some (J.str j)/\aY c (a.M+6) ((g=1->aY c (a.M+8) (bt env cr (a.M+11) (ba [(57,.ptr (some ⟨e,0,0,1,3⟩))]) (bf a 12) (Op.store 4 (Operand.tmp 57) (Operand.const (Value.bool true)))=some (J.tuple [],p)/\h .normal [(0,J.cY e),(5,.str j),(6,i)] p))/\(¬g=1->aY c (a.M+8) (a6 env.D 42 ⟨k,0,0,0,6⟩ (bf a 13)=some d/\bt env cr (a.M+10) (ba [(59,d)]) (bf a 13) (Op.buildSlice 56 1 {toList:=[(0,Operand.tmp 59)]})=some (q,n)/\eY env Builtin.append {toList:=[56,56]} [i,q] (a.M+11) n=some (r,o)/\h .normal [(0,J.cY e),(5,.str j),(6,r)] o))))))))))) :
 ∃d t Y,bN c 67 (bu 31 0) [(0,J.cY e),(5,.str f),(6,i)] b d t Y/\h d t Y :=
 dD c6 mixed bL (hs:= ap 5003 .aJ (.al 10001 .nil (.aG (.act 11001 (.tuple [d,.V s,.V g]) λx=>l) (.aG (.act 11006 (.aT k) λx=>m) (.aG (.act 11007 .bZ λx=>a) (.al 12001 .nil (ap 13002 (.str j) (.al 14001 (.aG (.act 15003 .bZ λx=>p) .nil) (ap 16001 d (.aG (.act 16002 q λx=>n) (.aG (.act 16003 r λx=>o) .nil))))))))))) (keep:=[0,5,6]) ao u
def Yv(s:Bytes)(hs:s≠[])(c:bV s 0≠27):0<=(fI s).1.cI/\(fI s).1.cI<=4/\0<=(fI s).2.1/\(fI s).2.1<=(s.length:Nat)/\((fI s).2.2=2->(fI s).2.1=0):=by
 have a:=gk.2 hs
 have aj:0<=(Keys.control (s.getD 0 0).toNat).cI/\(Keys.control (s.getD 0 0).toNat).cI<=4:=by
  unfold Keys.control dp eb
  repeat' split
  all_goals (simp only;omega)
 unfold fI;split
 .exact⟨aj.1,aj.2,by show(0:Int)<=1;decide,by show(1:Int)<=_;omega,λh=>by cases h⟩
 .split
  .exact⟨aC,aC,aC,by show(0:Int)<=_;omega,λ_=>rfl⟩
  .rename_i b
   have aw:(first s).2.1<=s.length:=by
    cases Keys.begun hs with
    |more h=>exact absurd h b
    |whole r n e _ _ aw=>rw [e];exact aw.2
    |lone e _ _=>rw [e];exact a
    |broken n _ ag e _ _=>rw [e];exact Nat.le_of_lt ag
   split
   .exact⟨(show(0:Int)<=0 by decide),(show(0:Int)<=4 by decide),by show(0:Int)<=((first s).2.1:Nat);omega,by show(((first s).2.1:Nat):Int)<=_;omega,λh=>by cases h⟩
   .exact⟨(show(0:Int)<=0 by decide),(show(0:Int)<=4 by decide),by show(0:Int)<=((first s).2.1:Nat);omega,by show(((first s).2.1:Nat):Int)<=_;omega,λh=>by cases h⟩
def yD(d:UInt8)(t:Bytes):ql (d::t)=if 0<Keys.dJ d.toNat then(dp (Keys.dJ d.toNat),3,0)else if 80<=d.toNat/\d.toNat<=83 then(dp (21+(d.toNat-80)),3,0)else if d.toNat=77 then(dp 1,3,0)else(eb 79 2,2,0):=rfl
def nD(c:Nat):Int:=if 80<=c/\c<=83 then(c:Int)-80 else-1
def Yw:∀c:Fin 256,(match hY Tryz.prog env 100 68 [.str [80,81,82,83],.ac (c.val:Nat)] ⟨0,.nil⟩with|some (v,_)=>J.jd [v] [.V (nD c.val)]|none=>false)=true:=by decide+kernel
def Yx{c:Nat}(aj:c<256)(H:T):be 68 [.str [80,81,82,83],.ac (c:Nat)] H (.V (nD c)) H:=by
 have h:=Yw ⟨c,aj⟩;simp only at h;split at h
 .rename_i v Z d;have:=J.mC h;simp only [fJ,hE]at this;subst this;rw [mF]at d;exact(bj.lG c6 mixed d).bare (by intro a b;simp only [dR,List.mem_nil_iff,hh]at b;rcases b with rfl|rfl;exact b0.of rfl;exact b0.int _ _) (b0.of rfl) H
 .cases h
variable {bs s:Bytes}
def Ly(hs:s.length<2^40)(aM:s≠[])(H:T):be 39 [.str s] H (iA (ep s)) H:=by
 have I:=gk.2 aM;have a0:c' (bi.D env) 9 (.str s) (.V 0)=some (.ac (bV s 0:Nat)):=j' (k:=0) I;by_cases l:bV s 0=27
 .obtain ⟨r,rfl⟩:∃r,s=27::r:=by
   cases s with
   |nil=>exact absurd rfl aM
   |cons a r=>exact⟨r,by rw [show a=27 from fz.1 l]⟩
  rw [l]at a0;cases r with
  |nil=>exact bj.bU (sd [27] 0 0 0 0 0 0 0 0 0 0 0 [] (λv _=>v=iA (ep [27])) ⟨a0,λ_=>rfl,λh=>absurd rfl h⟩) rfl rfl H
  |cons c t =>
   have aq:c' (bi.D env) 9 (.str (27::c::t)) (.V 1)=some (.ac (c.toNat:Nat)):=j' (s:=27::c::t) (k:=1) au;have i:¬(((27::c::t:Bytes).length:Nat):Int)=1:=by simp only [bK];omega
   have aj:=c.toNat_lt;by_cases j:c=27
   .subst j;exact bj.bU (sd (27::27::t) (27:Nat) 0 0 0 0 0 0 0 0 0 0 [] (λv _=>v=iA (ep (27::27::t))) ⟨a0,λh=>absurd h i,λ_=>⟨aq,λ_=>rfl,λh=>absurd rfl h⟩⟩) rfl rfl H
   have L:¬((c.toNat:Nat):Int)=27:=λh=>j (fz.1 (by show c.toNat=27;omega))
   by_cases c91:c=91
   .subst c91;have w:=λh=>X' (s:=27::91::t) hs au h
    have e:ep (27::91::t)=iC (27::91::t) 2 false t:=(Ls _ _ _ _).symm;have aZ:(27::91::t:Bytes).drop 2=t:=rfl;rw [aZ]at w;rw [e];generalize iC (27::91::t) 2 false t=x at w;obtain⟨⟨k,d,m,a,b,y⟩,p,q⟩:=x;exact bj.bU (sd (27::91::t) (91:Nat) 0 0 0 k d m a b p q y (λv _=>v=iA (⟨k,d,m,a,b,y⟩,p,q)) ⟨a0,λh=>absurd h i,λ_=>⟨aq,λh=>absurd h A,λ_=>⟨λ_=>⟨⟨w _⟩,rfl⟩,λh=>absurd rfl h⟩⟩⟩) rfl rfl H
   have O:¬((c.toNat:Nat):Int)=91:=λh=>c91 (fz.1 (by show c.toNat=91;omega))
   by_cases o:c=79
   .subst o;have e:ep (27::79::t)=ql t:=rfl;rw [e];cases t with
    |nil=>exact bj.bU (sd [27,79] (79:Nat) 0 0 0 0 0 0 0 0 0 0 [] (λv _=>v=iA (ql [])) ⟨a0,λh=>absurd h i,λ_=>⟨aq,λh=>absurd h A,λ_=>⟨λh=>absurd h A,λ_=>⟨λ_=>⟨λ_=>rfl,λh=>absurd rfl h⟩,λh=>absurd rfl h⟩⟩⟩⟩) rfl rfl H
    |cons d t =>
     have a2:c' (bi.D env) 9 (.str (27::79::d::t)) (.V 2)=some (.ac (d.toNat:Nat)):=j' (s:=27::79::d::t) (k:=2) au;have P:¬(((27::79::d::t:Bytes).length:Nat):Int)=2:=by simp only [bK];omega
     have G:=d.toNat_lt;refine bj.bU (sd (27::79::d::t) (79:Nat) (d.toNat:Nat) (Keys.dJ d.toNat) (nD d.toNat) 0 0 0 0 0 0 0 [] (λv _=>v=iA (ql (d::t))) ⟨a0,λh=>absurd h i,λ_=>⟨aq,λh=>absurd h A,λ_=>⟨λh=>absurd h A,λ_=>⟨λ_=>⟨λh=>absurd h P,λ_=>⟨a2,⟨Dy d.toNat _⟩,λg=> ?_,λg=>⟨a2,⟨Yx G _⟩,λae=>⟨?_,?_,?_⟩,λae=>⟨a2,λF=> ?_,λF=> ?_⟩⟩⟩⟩,λh=>absurd rfl h⟩⟩⟩⟩) rfl rfl H
     .rw [yD];rw [az g];rfl
     .unfold nD;split<;>omega
     .unfold nD;split<;>omega
     .have f:80<=d.toNat/\d.toNat<=83:=by
       unfold nD at ae;split at ae
       .assumption
       .omega
      rw [yD];rw [ai g,az f];unfold nD;rw [az f];rfl
     .have f:¬(80<=d.toNat/\d.toNat<=83):=by intro q;unfold nD at ae;rw [az q]at ae;omega
      rw [yD];rw [ai g,ai f,az A];rfl
     .have f:¬(80<=d.toNat/\d.toNat<=83):=by intro q;unfold nD at ae;rw [az q]at ae;omega
      rw [yD];rw [ai g,ai f,ai A];rfl
   have N:¬((c.toNat:Nat):Int)=79:=λh=>o (fz.1 (by show c.toNat=79;omega))
   have e:ep (27::c::t)=mm (fI (c::t)):=by unfold ep;simp only;rw [az trivial,ai j,ai c91,ai o]
   rw [e];have z:bV (c::t) 0≠27:=λh=>j (fz.1 h)
   have pl:=λh=>KC (s:=c::t) au h
   rw [Lr au z]at pl;obtain⟨m0,m4,B,E,C⟩:=Yv (c::t) au z;have Q:(c::t:Bytes).length<2^40:=by simp only [bK]at hs⊢; omega
   generalize K:fI (c::t)=x at pl m0 m4 B E C;obtain⟨⟨k,d,m,a,b,y⟩,p,q⟩:=x;simp only at m0 m4 B E C
   have R :y.length<2^41:=by
    have aQ:=dm (λx=>x.1.text.length) K;simp only at aQ;rw [<-aQ];unfold fI
    have c0:∀n,(Keys.control n).text=[]:=λn=>by
     unfold Keys.control dp eb
     repeat' split
     all_goals rfl
    split
    .show(Keys.control _).text.length<_;rw [c0];decide
    .split
     .decide
     .split
      .show(List.take _ _).length<_;rw [lC];omega
      .show(0:Nat)<_;decide
   refine bj.bU (sd (27::c::t) (c.toNat:Nat) 0 0 0 k d m a b p q y (λv _=>v=iA (mm (⟨k,d,m,a,b,y⟩,p,q))) ⟨a0,λh=>absurd h i,λ_=>⟨aq,λh=>absurd h L,λ_=>⟨λh=>absurd h O,λ_=>⟨λh=>absurd h N,λ_=>⟨⟨A,by simp only [bK];omega⟩,⟨pl _⟩,λh=> ?_,λh=>⟨λu=>⟨?_,⟨A,A⟩,?_⟩,λu=>⟨⟨A,A⟩,⟨A,A⟩,?_⟩⟩⟩⟩⟩⟩⟩) rfl rfl H
   .unfold mm;rw [az h];rfl
   .show Nat.succ (1+y.length)<=2^62;omega
   .unfold mm;rw [ai h];simp only;rw [az u];rfl
   .unfold mm;rw [ai h];simp only;rw [ai u];rfl
 .have e:ep s=fI s:=by
   cases s with
   |nil=>exact absurd rfl aM
   |cons b r =>
    unfold ep;simp only;rw [ai (λq=>l (by rw [q];rfl))]
  rw [e];have pl:=λh=>KC aM h
  rw [Lr aM l]at pl;generalize fI s=x at pl;obtain⟨⟨k,d,m,a,b,y⟩,p,q⟩:=x
  exact bj.bU (Ya s (bV s 0:Nat) k d m a b p q y (λv _=>v=iA (⟨k,d,m,a,b,y⟩,p,q)) ⟨a0,by
   have:(((bV s 0:Nat):Int) != 27)=true:=by rw [bne_iff_ne];omega
   rw [this],⟨pl _⟩,rfl⟩) rfl rfl H
variable {ct d i j k m n q:Nat}
def Yy{t:Bytes}(h:n+m<=t.length):dW (bi.D env) 9 (.str t) (some (.V (n:Nat))) (some (.V ((n:Int)+(m:Nat)))) none=some (.str ((t.drop n).take m)):=by
 have a:(bi.D env 9).map (λd=>d.kind)=some .string:= ao;obtain⟨x,Y,ag⟩:=cb.1 a;have e:(n:Int)+(m:Nat)=((n+m:Nat):Int):= A;unfold dW;rw [Y,e];simp only [ag];have cw:eI (some (.V ((n+m:Nat):Int))) t.length t.length=some (n+m):=by simp [eI];omega
 have cy:eI (some (.V (n:Nat))) 0 (n+m)=some n:=by simp [eI];omega
 simp only [cw,cy];rw [List.drop_take,show n+m-n=m by omega];rfl
def DS(H:T):be 91 [.str s] H (.str (s.take 65536)) H:=by
 refine bj.bU (Yo s (s.take 65536) (λv _=>v=.str (s.take 65536)) ⟨?_,rfl⟩) rfl rfl H;by_cases h:65536<s.length
 .rw [az A];exact(mc (t:=s) (n:=65536) A).1
 .rw [ai A,nE A];have:=(mc (t:=s) (n:=s.length) (Nat.le_refl _)).1
  rwa [kj]at this
abbrev ls(s:Bytes)(k:Nat)(i:J):bc:=[(0,.ptr (some ⟨0,0,0,0,3⟩)),(1,.str s),(4,.ptr (some ⟨k,0,0,0,6⟩)),(7,i)]
abbrev kd(s:Bytes)(i:J):bc:=[(0,.ptr (some ⟨0,0,0,0,3⟩)),(1,.str s),(4,.ptr (some ⟨50,0,0,0,6⟩)),(9,i)]
abbrev z0:aa:=cZ (bb 0 0 0 0 0 [])
def lu(k:Bytes)(n:Bool)(t:Bytes):cu (c7 k n t):=by intro e he;rw [cF.1 he];exact b0.of rfl
def qm(x:J)(a:x.jl=true):cu (cZ x):=by intro e he;rw [cF.1 he];exact b0.of a
def Yz(a B:aa):T.rows 60 [(0,a),(50,B)]=T.bO 60 [(0,a),(50,B)]:= ao
def Lz(a B:aa):T.rows 90 [(0,a),(50,B)]=T.bO 90 [(0,a),(50,B)]:= ao
def uY{a B:aa}(b:cu a)(c:cu B):aX ([(0,a),(50,B)].map λp:Nat×aa=> ∀e∈p.2.bg,bR (Go.br.b3 ([(0,a),(50,B)].map (·.1))) e) :=
 aX.cons (λe he=>(b e he).dj _) (aX.cons (λe he=>(c e he).dj _) aX.nil)
def LA{i:Int}{h:T}{a B:aa}(b:cu a)(c:cu B)(aM:h.get 0=some a)(d:h.get 50=some B):bW 1 80 (ls s 50 (.V i)) h (ls s 50 (.V i)) (T.rows 60 [(0,a),(50,B)]):=by
 refine bW.move (K:=60) (l:=[(0,a),(50,B)]) id ?_ rfl ?_ rfl rfl ?_ rfl ?_ (uY b c)
 .simp [aM,d,b.aO,c.aO]
 .simp
 .simp [J.aO,bB.aO]
 .exact aX.cons (mj au) (aX.cons trivial (aX.cons (mj au) (aX.cons trivial aX.nil)))
def LB{a:aa}(b:cu a):bW 1 80 [(0,.ptr (some ⟨0,0,0,0,3⟩)),(1,.str s),(4,.ptr (some ⟨1,0,0,0,6⟩)),(5,.str []),(6,.bool false),(7,.V 0)] (T.bO 5 [(0,a),(1,z0)]) (ls s 50 (.V 0)) (T.rows 60 [(0,a),(50,z0)]):=by
 have c:cu z0:=qm _ rfl;refine bW.trans (G:=ls s 1 (.V 0)) (g:=T.bO 5 [(0,a),(1,z0)]) (bW.facts ?_) ?_
 .exact bc.qY [(0,.ptr (some ⟨0,0,0,0,3⟩)),(1,.str s),(4,.ptr (some ⟨1,0,0,0,6⟩)),(5,.str []),(6,.bool false),(7,.V 0)] [0,1,4,7]
 .refine bW.move (K:=60) (l:=[(0,a),(50,z0)]) (λi=>if i=50 then 1 else i) ?_ rfl ?_ rfl rfl ?_ rfl ?_ (uY b c)
  .have g0:(T.bO 5 [(0,a),(1,z0)]).get 0=some a:=rfl;have g1:(T.bO 5 [(0,a),(1,z0)]).get 1=some z0:=rfl;simp [g0,g1,b.aO,c.aO]
  .simp
  .simp [J.aO,bB.aO]
  .exact aX.cons (mj au) (aX.cons trivial (aX.cons (mj au) (aX.cons trivial aX.nil)))
def DT{i:J}(ah:i.jl=true){h:T}{a B:aa}(b:cu a)(c:cu B)(aM:h.get 0=some a)(f:h.get 50=some B):bW 1 80 (kd s i) h (kd s i) (T.rows 60 [(0,a),(50,B)])/\bW 1 80 (kd s i) h (kd s i) (T.rows 90 [(0,a),(50,B)]):=by
 have cS:i.aO id=i:=(b0.of ah).1 id;have aj:∀K,bR K i:=λK=>(b0.of ah).dj K
 have e:∀r,r=id->kd s i=(kd s i).map λp=>(p.1,p.2.aO r):=by rintro _ rfl;simp [J.aO,bB.aO,cS]
 have d:aX ((kd s i).map λp=>bR (Go.br.b3 ([(0,a),(50,B)].map (·.1))) p.2):=aX.cons (mj au) (aX.cons trivial (aX.cons (mj au) (aX.cons (aj _) aX.nil)));constructor
 .exact bW.move (K:=60) (l:=[(0,a),(50,B)]) id (by simp [aM,f,b.aO,c.aO]) rfl au rfl rfl (e _ rfl) rfl d (uY b c)
 .exact bW.move (K:=90) (l:=[(0,a),(50,B)]) id (by simp [aM,f,b.aO,c.aO]) rfl au rfl rfl (e _ rfl) rfl d (uY b c)
def LC(x:Bytes):List.isPrefixOf cm x=true↔x.take 6=cm:=by rw [qB,yP];exact eq_comm
def LD{k t:Bytes}(hs:s.length<2^40)(x:t.length<2^40):∀(m i:Nat),s.length-i<=m->i<=s.length ->
 (hA i (s.drop i)=none/\∃j:Int,dd 1 80 (bu 61 0) (ls s 50 (.V (i:Nat))) (T.rows 60 [(0,c7 k true t),(50,z0)]) (.exit 0) (ls s 50 (.V j)) (T.rows 60 [(0,c7 k true t),(50,z0)])) \/
 (∃q,hA i (s.drop i)=some q/\q+6<=s.length/\dd 1 80 (bu 61 0) (ls s 50 (.V (i:Nat))) (T.rows 60 [(0,c7 k true t),(50,z0)]) .ret [(4,.ptr (some ⟨50,0,0,0,6⟩)),(5,.str (s.drop (q+6))),(6,.bool true)] (T.rows 90 [(0,c7 k false []),(50,cZ (bp (kH ((t++s.take q).take 65536))))])):=by
 have stop:∀i,i<=s.length-> ¬i+6<=s.length->hA i (s.drop i)=none/\∃j:Int,dd 1 80 (bu 61 0) (ls s 50 (.V (i:Nat))) (T.rows 60 [(0,c7 k true t),(50,z0)]) (.exit 0) (ls s 50 (.V j)) (T.rows 60 [(0,c7 k true t),(50,z0)]):=by
  intro i ah b;refine⟨Ll _ _ λq v=> ?_,(i:Nat),?_⟩
  .have:=Lk _ v;simp only [eF]at this;omega
  .obtain⟨e,F,h,a,rfl,rfl,g0,g5⟩:=Lt s [] k t i (λe F h=>e=.exit 0/\F=ls s 50 (.V (i:Nat))/\h.get 0=some (c7 k true t)/\h.get 50=some z0) ⟨⟨A,A⟩,λh=>absurd h A,λ_=>⟨rfl,rfl,rfl,rfl⟩⟩;exact b2.last au (a.post (LA (lu _ _ _) (qm _ rfl) g0 g5))
 intro m;induction m with
 |zero =>
  intro i hm ah;exact .inl (stop i ah A)
 |succ m ih =>
  intro i hm ah;by_cases b:i+6<=s.length
  .have o:s.drop i=s[i]' A ::s.drop (i+1):=ki A;have f:=Yy (t:=s) (n:=i) (m:=6) A;by_cases ae:List.isPrefixOf cm (s.drop i)=true
   .right;have hw:=(LC _).1 ae
    have c:hA i (s.drop i)=some i:=by rw [o]at ae⊢;unfold hA;rw [az ae]
    refine⟨i,c,b,?_⟩;rw [hw]at f
    obtain⟨e,F,h,a,rfl,rfl,g0,g5⟩:=Yq s cm k t (s.take i) ((t++s.take i).take 65536) (s.drop (i+6)) i (λe F h=>e=.ret/\F=[(0,.ptr (some ⟨0,0,0,0,3⟩)),(1,.str s),(4,.ptr (some ⟨50,0,0,0,6⟩)),(5,.str (s.drop (i+6))),(6,.bool true),(7,.V (i:Nat))]/\h.get 0=some (c7 k false [])/\h.get 50=some (cZ (bp (kH ((t++s.take i).take 65536)))))
     ⟨⟨A,A⟩,λ_=>⟨⟨A,A⟩,f,rfl,(mc A).1,by
       show Nat.succ (t.length+(s.take i).length)<=2^62
       rw [lC];omega,⟨DS _⟩,rfl,λh=>⟨DS h⟩,⟨A,A⟩,(mc (t:=s) (n:=i+6) b).2,rfl,rfl,rfl,rfl⟩,λh=>absurd h A⟩
    refine b2.last au (a.post (bW.trans (G:=[(4,.ptr (some ⟨50,0,0,0,6⟩)),(5,.str (s.drop (i+6))),(6,.bool true)]) (g:=h) (bW.facts (bc.qY [(0,.ptr (some ⟨0,0,0,0,3⟩)),(1,.str s),(4,.ptr (some ⟨50,0,0,0,6⟩)),(5,.str (s.drop (i+6))),(6,.bool true),(7,.V (i:Nat))] [4,5,6])) ?_));have p:=lu k false [];have r:cu (cZ (bp (kH ((t++s.take i).take 65536)))):=qm _ rfl;refine bW.move (K:=90) (l:=[(0,c7 k false []),(50,cZ (bp (kH ((t++s.take i).take 65536))))]) id ?_ rfl ?_ rfl rfl ?_ rfl ?_ (uY p r)
    .simp only [ei,hS,id,g0,g5,p.aO,r.aO]
    .simp
    .simp [J.aO,bB.aO]
    .exact aX.cons (mj au) (aX.cons trivial (aX.cons trivial aX.nil))
   .have c:hA i (s.drop i)=hA (i+1) (s.drop (i+1)):=by
     rw [o]at ae⊢
     conv=>lhs;unfold hA
     rw [ai ae]
    rw [c]
    have u:((s.drop i).take 6 == cm)=false:=by rw [mu];exact λq=>ae ((LC _).2 q)
    obtain⟨e,F,h,a,rfl,rfl,g0,g5⟩:=Lt s ((s.drop i).take 6) k t i (λe F h=>e=.normal/\F=ls s 50 (.V ((i:Int)+1))/\h.get 0=some (c7 k true t)/\h.get 50=some z0) ⟨⟨A,A⟩,λ_=>⟨⟨A,A⟩,f,by
     show some (J.bool ((s.drop i).take 6 == cm))=_
     rw [u],⟨A,A⟩,rfl,rfl,rfl,rfl⟩,λh=>absurd h A⟩
    have w:(i:Int)+1=((i+1:Nat):Int):= A;rw [w]at a;have he:=LA (s:=s) (i:=((i+1:Nat):Int)) (lu k true t) (qm _ rfl) g0 g5;rcases ih (i+1) A A with ⟨Y,j,d⟩|⟨q,Y,ag,d⟩
    .exact .inl ⟨Y,j,b2.step (a.post he) d⟩
    .exact .inr ⟨q,Y,ag,b2.step (a.post he) d⟩
  .exact .inl (stop i ah b)
def YA{k t:Bytes}(hs:s.length<2^40):∀(m:Nat),m<=s.length->m<=5 ->
 dd 1 80 (bu 61 1) (kd s (.V (m:Nat))) (T.rows 60 [(0,c7 k true t),(50,z0)]) (.exit 2) (kd s (.V (h' s m:Nat))) (T.rows 90 [(0,c7 k true t),(50,z0)]):=by
 have aB:∀m,m<=s.length->dW (bi.D env) 9 (.str s) (some (.V ((s.length:Int)- (m:Nat)))) none none=some (.str (s.drop (s.length-m))):=λm hm=>by rw [show(s.length:Int)- (m:Nat)=((s.length-m:Nat):Int)by omega];exact(mc A).2
 have c:∀m,m<=5->dW (bi.D env) 9 (.str [27,91,50,48,49,126]) none (some (.V (m:Nat))) none=some (.str (cm.take m)):=λm hm=>(mc (t:=cm) (by show m<=6;omega)).1
 have last:∀m,m<=s.length->m<=5->s.drop (s.length-m)=cm.take m->dd 1 80 (bu 61 1) (kd s (.V (m:Nat))) (T.rows 60 [(0,c7 k true t),(50,z0)]) (.exit 2) (kd s (.V (m:Nat))) (T.rows 90 [(0,c7 k true t),(50,z0)]):=by intro m hm a he;obtain⟨e,F,h,b,rfl,rfl,g0,g5⟩:=Lv s (s.drop (s.length-m)) (cm.take m) k t m (λe F h=>e=.exit 2/\F=kd s (.V (m:Nat))/\h.get 0=some (c7 k true t)/\h.get 50=some z0) ⟨⟨A,A⟩,aB m hm,c m a,λ_=>⟨rfl,rfl,rfl,rfl⟩,λh=>absurd he h⟩;exact b2.last au (b.post (DT rfl (lu _ _ _) (qm _ rfl) g0 g5).2)
 intro m;induction m with
 |zero =>
  intro hm a;exact last 0 hm a au
 |succ m ih =>
  intro hm a;unfold h';by_cases he:s.drop (s.length- (m+1))=cm.take (m+1)
  .rw [az he];exact last (m+1) hm a he
  .rw [ai he];obtain⟨e,F,h,b,rfl,rfl,g0,g5⟩:=Lv s (s.drop (s.length- (m+1))) (cm.take (m+1)) k t (m+1) (λe F h=>e=.normal/\F=kd s (.V (((m+1:Nat):Int)-1))/\h.get 0=some (c7 k true t)/\h.get 50=some z0) ⟨⟨A,A⟩,aB (m+1) hm,c (m+1) a,λh=>absurd h he,λ_=>⟨⟨A,A⟩,rfl,rfl,rfl,rfl⟩⟩;rw [show((m+1:Nat):Int)-1=(m:Nat)by omega]at b;exact b2.step (b.post (DT rfl (lu _ _ _) (qm _ rfl) g0 g5).1) (ih A A)
structure gJ(H:T)(col:Nat->Nat)(c d:Nat)(k:Bytes)(n:Bool)(t:Bytes):Prop where
 lt:d<H.M
 get:H.get d=some (c7 k n t)
 col:col d=c
variable {col:Nat->Nat}
def gJ.de{H H':T}{cU:Nat->Nat}{c:Nat}{k:Bytes}{n:Bool}{t:Bytes}{L:List Nat}(h:gJ H col c d k n t)(m:cT H H' col cU L)(aj:c ∉ L):gJ H' cU c d k n t:=by have aw:=m.M;have a:=h.col;exact⟨by have:=h.lt;omega,by rw [m.get d h.lt (by rw [a];exact aj)];exact h.get,by rw [m.col d h.lt (by rw [a];exact aj)];exact a⟩
variable {v:J}
def gJ.place{H:T}{c:Nat}{k:Bytes}{n n2:Bool}{t t2:Bytes}{f:FuncId}{args:List J}{Z:T}(g:gJ H col c d k n t)(u:be f (.ptr (some ⟨0,0,0,0,3⟩)::args) (T.of [c7 k n t]) v Z)(aw:1<=Z.M)(o:∀a∈args,b0 a)(ab:Z.get 0=some (c7 s n2 t2)) :
 ∃H',be f (.ptr (some ⟨d,0,0,0,3⟩)::args) H (v.aO (cP [d] H.M)) H'/\gJ H' col c d s n2 t2/\cT H H' col col [c]/\(∀i b,Z.get i=some b->H'.get (cP [d] H.M i)=some (b.aO (cP [d] H.M)))/\H'.M=H.M+(Z.M-1):=by
 obtain⟨H',p,y,q,z⟩:=u.place aw (λb m=>by rw [cF.1 m];exact(lu _ _ _).dj _) ⟨by show 0<1;decide,by
  have:∀l:List J,(∀a∈l,b0 a)->dO (λi=>i<1) l:=by
   intro l;induction l with
   |nil=>intro _;exact trivial
   |cons a r ih=>intro h;exact⟨(h a au).dj _,ih λb m=>h b (by simp [m])⟩
  exact this args o⟩ (H:=H) [d] au (λj w=>by rw [cF.1 w];exact g.lt) rfl (λi b h=>by
   have ah:i=0:=by have:=(e4.1 h).1;simpa using this
   subst ah;simp only [fR,a8]at h;subst h;rw [(lu _ _ _).aO]
   exact g.get)
 have hm:args.map (J.aO (cP [d] H.M))=args:=by rw [i' (g:=id) (λa h=>(o a h).1 _)];simp
 have e0:cP [d] H.M 0=d:=rfl;refine⟨H',?_,⟨by have:=g.lt;omega,?_,g.col⟩,⟨A,λx B aj=>z x B (λe=>aj (by rw [cF.1 e,g.col];simp)),λ_ _ _=>rfl⟩,q,y⟩
 .simp only [ei,hm,J.aO,bB.aO,e0]at p;exact p
 .have:=q 0 _ ab;rw [(lu _ _ _).aO,e0]at this;exact this
def YB{H:T}{c:Nat}{k t:Bytes}(g:gJ H col c d k true t)(hs:s.length<2^40)(n:t.length<2^40)(m:hA 0 s=some q) :
 ∃H',be 61 [.ptr (some ⟨d,0,0,0,3⟩),.str s] H (.tuple [bp (kH ((t++s.take q).take 65536)),.str (s.drop (q+6)),.bool true]) H'/\gJ H' col c d k false []/\cT H H' col col [c]:=by
 have b:=LD (k:=k) (t:=t) hs n s.length 0 A A;rw [lz,m]at b;rcases b with ⟨h,_⟩|⟨o,Y,ag,b⟩
 .cases h
 .obtain rfl:q=o:=Option.some.inj Y;have e:=(cO.dn b).pre (LB (s:=s) (lu k true t));rw [Lz]at e;obtain⟨v,Z,j,rfl,ab,aw⟩:=Yr s k t k [] (s.drop (q+6)) ((t++s.take q).take 65536) false (λv Z=>v=.tuple [bp (kH ((t++s.take q).take 65536)),.str (s.drop (q+6)),.bool true]/\Z.get 0=some (c7 k false [])/\1<=Z.M) ⟨e,rfl,rfl,by show 1<=90;decide⟩;obtain⟨H',l,f,de,_,_⟩:=g.place j aw (by intro a i;rw [cF.1 i];exact b0.of rfl) ab;exact⟨H',l,f,de⟩
def YC{H:T}{c:Nat}{k t:Bytes}(g:gJ H col c d k true t)(hs:s.length<2^40)(w:t.length<2^40)(u:hA 0 s=none) :
 ∃H',be 61 [.ptr (some ⟨d,0,0,0,3⟩),.str s] H (.tuple [bp hg,.str (s.drop (s.length-h' s (min s.length 5))),.bool false]) H'/\gJ H' col c d k true ((t++s.take (s.length-h' s (min s.length 5))).take 65536)/\cT H H' col col [c]:=by
 have b:=LD (k:=k) (t:=t) hs w s.length 0 A A;rw [lz,u]at b;rcases b with ⟨_,j,b⟩|⟨y,Y,ag,b⟩
 .have f:=(cO.dn b).pre (LB (s:=s) (lu k true t));rw [Yz]at f;have x:=YA (k:=k) (t:=t) hs (min s.length 5) A A;have r:(if 5<(s.length:Int)then(5:Int)else(s.length:Int))=((min s.length 5:Nat):Int):=by split<;>omega
  have l:=(cO.dn x).pre (DT (i:= .V ((min s.length 5:Nat):Int)) rfl (lu k true t) (qm _ rfl) (h:=T.bO 64 [(0,c7 k true t),(50,z0)]) rfl rfl).1;rw [Lz,<-r]at l
  have B:h' s (min s.length 5)<=s.length:=by
   have:∀m,h' s m<=m:=by
    intro m;induction m with
    |zero=>exact Nat.le_refl _
    |succ m ih=>unfold h';split<;>omega
   have:=this (min s.length 5);omega
  generalize h' s (min s.length 5)=z at *;have e:(s.length:Int)- (z:Nat)=((s.length-z:Nat):Int):= A
  obtain⟨v,Z,p,rfl,ab,aw⟩:=Ys s k t (s.take (s.length-z)) ((t++s.take (s.length-z)).take 65536) (s.drop (s.length-z)) (.V j) z (λv Z=>v=.tuple [bp hg,.str (s.drop (s.length-z)),.bool false]/\Z.get 0=some (c7 k true ((t++s.take (s.length-z)).take 65536))/\1<=Z.M)
   ⟨f,l,⟨A,A⟩,by rw [e];exact(mc A).1,by
    show Nat.succ (t.length+(s.take (s.length-z)).length)<=2^62
    rw [lC];omega,⟨DS _⟩,⟨A,A⟩,by rw [e];exact(mc A).2,rfl,rfl,by show 1<=116;decide⟩
  obtain⟨H',q,n,de,_,_⟩:=g.place p aw (by intro a o;rw [cF.1 o];exact b0.of rfl) ab;exact⟨H',q,n,de⟩
 .cases Y
structure YD(H:T)(col:Nat->Nat)(c:Nat)(v:J)(es:List aP):Prop where
 ex:(v=.slice none 0 0/\es=[])\/(es≠[]/\∃o,o<H.M/\col o=c/\∃ad B,v=.slice (some ⟨o,ad,0,0,6⟩) es.length es.length/\H.get o=some B/\cu B/\∀(j:Nat)(h:j<es.length),B.elem? ad j=some (bp es[j]))
def gq.mH{H:T}{c:Nat}{es:List aP}(h:gq H col c 6 gF v (es.map bp)):YD H col c v es:=by
 rcases h.ex with ⟨Y,ag⟩|⟨Y,o,ag,g,ad,m,f,a,i⟩
 .exact⟨.inl ⟨Y,by simpa using ag⟩⟩
 .refine⟨.inr ⟨by simpa using Y,o,ag,g,ad,_,by rw [iF]at a;exact a,i,lT (λe he=> ?_) _ _ _ _ _,λj d=> ?_⟩⟩
  .obtain⟨b,_,rfl⟩:=dV.1 he;exact AZ b
  .unfold aa.elem?;rw [az (by simpa [aa.b6]using d)];simp [d]
def cT.uZ{H:T}{y:Nat}(B:aa)(a:col y=8):cT H (H.set y B) col col [8] :=
 ⟨Nat.le_refl _,λx _ h=>T.dN _ _ λe=>by subst e;rw [a]at h;simp at h,λ_ _ _=>rfl⟩
def cT.LF{H:T}{y c:Nat}(B:aa)(a:col y=c):cT H (H.set y B) col col [c] :=
 ⟨Nat.le_refl _,λx _ h=>T.dN _ _ λe=>by subst e;rw [a]at h;simp at h,λ_ _ _=>rfl⟩
def yE(ρ:Operand->J)(H:T)(y:Nat):bt env cr y ρ H (Op.alloc 42)=some (.ptr (some ⟨y,0,0,0,6⟩),H.set y z0):= ao
def LG{H:T}{y:Nat}(x:aP)(ab:H.get y=some z0):gz (bi.D env) 42 ⟨y,0,0,0,6⟩ (bp x) H=some (H.set y (cZ (bp x))):=by have a:(bi.D env 42).map (λd=>(d.kind.isAgg,d.size))=some (true,6):= ao;obtain⟨d,Y,ag⟩:=cb.1 a;simp only [bC]at ag;unfold gz;rw [Y,ab];simp [J.fits,ag.1,ag.2,aa.an,nN,bp,J.cells,gW,J.hV]
def YE{H:T}{y:Nat}{x:aP}(ab:H.get y=some (cZ (bp x))):a6 (bi.D env) 42 ⟨y,0,0,0,6⟩ H=some (bp x):=by have a:(bi.D env 42).map (λd=>(d.kind.isAgg,d.size))=some (true,6):= ao;obtain⟨d,Y,ag⟩:=cb.1 a;simp only [bC]at ag;unfold a6;rw [Y,ab];have b:(cZ (bp x)).elem? 0 0=some (bp x):=rfl;simp only [b];simp [eK,ag.1,ag.2,bp]
def yF{H:T}{k t:Bytes}{n:Bool}(ab:H.get d=some (c7 k n t)):a6 (bi.D env) 4 ⟨d,0,0,1,3⟩ H=some (.bool n):=by have a:(bi.D env 4).map (λd=>d.kind.isAgg)=some false:= ao;obtain⟨x,Y,ag⟩:=cb.1 a;unfold a6;rw [Y,ab];simp [aa.elem?,aa.b6,eK,ag,aa.an]
def LH{H:T}{k t:Bytes}{n:Bool}(ab:H.get d=some (c7 k n t)):a6 (bi.D env) 9 ⟨d,0,0,0,3⟩ H=some (.str k):=by have a:(bi.D env 9).map (λd=>d.kind.isAgg)=some false:= ao;obtain⟨x,Y,ag⟩:=cb.1 a;unfold a6;rw [Y,ab];simp [aa.elem?,aa.b6,eK,ag,aa.an]
def YF{H:T}{k t:Bytes}{n:Bool}(b:Bool)(ab:H.get d=some (c7 k n t)):gz (bi.D env) 4 ⟨d,0,0,1,3⟩ (.bool b) H=some (H.set d (c7 k b t)):=by have a:(bi.D env 4).map (λd=>(d.kind.isAgg,d.size))=some (false,1):= ao;obtain⟨x,Y,ag⟩:=cb.1 a;simp only [bC]at ag;unfold gz;rw [Y,ab];simp [J.fits,ag.1,ag.2,aa.an,nN,J.cells,gW]
def LI{H:T}{k t:Bytes}{n:Bool}(r:Bytes)(ab:H.get d=some (c7 k n t)):gz (bi.D env) 9 ⟨d,0,0,0,3⟩ (.str r) H=some (H.set d (c7 r n t)):=by have a:(bi.D env 9).map (λd=>(d.kind.isAgg,d.size))=some (false,1):= ao;obtain⟨x,Y,ag⟩:=cb.1 a;simp only [bC]at ag;unfold gz;rw [Y,ab];simp [J.fits,ag.1,ag.2,aa.an,nN,J.cells,gW]
def sf{t:TypeId}{F:bc}{H H1:T}{a:bB}{nid:Nat}{x y:Operand}(b:ba F x=.ptr (some a))(c:ba F y=v)(hs:gz (bi.D env) t a v H=some H1):bt env cr nid (ba F) H (Op.store t x y)=some (.tuple [],H1):=by simp only [bt,b,c,hs,eE]
def YG(H:T)(z:Nat)(x:aP):jE (bi.D env) 56 1 [(0,bp x)] z H=some (.slice (some ⟨z,0,0,0,6⟩) 1 1,H.set z (aa.an [bp x] 6 true)):=by
 obtain⟨a,b,c,d,e,f⟩:=x
 kernel_rfl
def LJ{F:bc}{nid:Nat}{H:T}(a:ba F (.tmp k)=v):bt env cr nid (ba F) H (Op.buildSlice 56 1 {toList:=[(0,Operand.tmp k)]})=jE (bi.D env) 56 1 [(0,v)] nid H:=by rw [<-a];rfl
def LK{H1:T}{b:Nat->Nat}{cj:J}{es:List aP}(x:aP){y p:Nat}(gl:gq H1 b ct 6 gF cj (es.map bp))(g:ct≠8)(w:y<H1.M)(h:b y=8)(t:j<p)(aw:n<p)(s:es.length<2^31) :
 ∃a,bt env cr y (λ_=> .undef) H1 (Op.alloc 42)=some (.ptr (some ⟨y,0,0,0,6⟩),H1.set y z0)/\gz (bi.D env) 42 ⟨y,0,0,0,6⟩ (bp x) (H1.set y z0)=some a/\a.M=H1.M/\cT H1 a b b [8] /\
  a6 (bi.D env) 42 ⟨y,0,0,0,6⟩ ⟨a.M+p,a.aF⟩=some (bp x)/\∃f e c d,jE (bi.D env) 56 1 [(0,bp x)] (a.M+j) ⟨a.M+p,a.aF⟩=some (.slice (some ⟨a.M+j,0,0,0,6⟩) 1 1,f) /\
  eY env .append #[56,56] [cj,.slice (some ⟨a.M+j,0,0,0,6⟩) 1 1] (a.M+n) f=some (e,c)/\gq c d ct 6 gF e ((es++[x]).map bp)/\cT H1 c b d [ct,8]:=by
 have g1:(H1.set y z0).get y=some z0:=T.eD _ _ _;have m1:cT H1 ((H1.set y z0).set y (cZ (bp x))) b b [8]:=((cT.uZ z0 h).trans (cT.uZ (H:=H1.set y z0) (cZ (bp x)) h)).sub au;refine⟨(H1.set y z0).set y (cZ (bp x)),yE _ _ _,LG x g1,rfl,m1,YE (T.eD _ _ _),?_⟩;have u:((H1.set y z0).set y (cZ (bp x))).M=H1.M:=rfl;have i:=gl.de m1 (by simpa using g);generalize (H1.set y z0).set y (cZ (bp x))=a at *;have m2:=cT.fresh a b p;have r:fresh a b (a.M+j)=8:=uz A;have m3:=cT.uZ (H:=⟨a.M+p,a.aF⟩) (aa.an [bp x] 6 true) r;have k:=(i.de m2 au).de m3 (by simpa using g)
 have q:ed 6 (.slice (some ⟨a.M+j,0,0,0,6⟩) 1 1) ((⟨a.M+p,a.aF⟩:T).set (a.M+j) (aa.an [bp x] 6 true))=some [bp x]:=by have m:=T.eD (⟨a.M+p,a.aF⟩:T) (a.M+j) (aa.an [bp x] 6 true);simp only [ed,dG,m];rw [ai aC,az ⟨by simp [aa.b6,aa.an],by simp [aa.an]⟩];simp [aa.an]
 obtain⟨e,c,d,o,l,m5,v⟩:=k.e9 (nid:=a.M+n) TV (by show a.M+n<a.M+p;omega) (uz A) q (by simp only [iF,qA];omega) (by simp only [iF,qA];omega);refine⟨_,e,c,d,YG _ _ _,o,by rw [nH];exact l,(m1.trans (m2.trans (m3.trans m5))).sub au⟩
abbrev iD(d:Nat)(s:Bytes)(cj:J):bc:=[(0,.ptr (some ⟨d,0,0,0,3⟩)),(5,.str s),(6,cj)]
structure oV(H H':T)(col cU:Nat->Nat)(c ct d:Nat)(k:Bytes)(n:Bool)(t:Bytes)(cj:J)(es:List aP):Prop where
 qn:gJ H' cU c d k n t
 gl:gq H' cU ct 6 gF cj (es.map bp)
 de:cT H H' col cU [c,ct,8]
def YH{H:T}{B c:Nat}{k t:Bytes}{es:List aP}{cj:J}(z:B<=H.M)(g:gJ H col c d k true t)(gl:gq H col ct 6 gF cj (es.map bp))(Y:ct≠c)(ag:ct≠8)(x:c≠8)(hs:s.length<2^40)(I:t.length<2^40)(C:es.length<2^31)(E:hA 0 s=some q) :
 ∃H' cU f,bN B 67 (bu 31 0) (iD d s cj) H .normal (iD d (s.drop (q+6)) f) H'/\oV H H' col cU c ct d k false [] f (es++[kH ((t++s.take q).take 65536)])/\B<=H'.M:=by
 have m0:=cT.fresh H col 15;have g0:=g.de m0 au;obtain⟨H1,D,g1,m1⟩:=YB g0 hs I E;have N:H.M+15<=H1.M:=m1.M;have K:fresh H col (H.M+11)=8:=uz A;have v:=(gl.de m0 au).de m1 (by simpa using Y);obtain⟨a,aQ,aZ,L,m3,o,l,i,b,m,r,u,w,m5⟩:=LK (kH ((t++s.take q).take 65536)) (y:=H.M+11) (j:=6) (p:=9) (n:=7) v ag A K A A C
 obtain⟨e,F,Z,G,rfl,rfl,rfl⟩:=Yt H H1 (H1.set (H.M+11) z0) a l b B d (H.M+11) s (s.drop (q+6)) (bp (kH ((t++s.take q).take 65536))) cj i (.slice (some ⟨a.M+6,0,0,0,6⟩) 1 1) (λe F h=>e=.normal/\F=iD d (s.drop (q+6)) i/\h=b)
  (aW z ⟨yF (H:=⟨H.M+4,H.aF⟩) g.get,aW A ⟨⟨D⟩,yE _ _ _,sf rfl rfl aZ,aW A (aW A (aW A ⟨o,(LJ rfl).trans r,u,rfl,rfl,rfl⟩))⟩⟩)
 have O:H1.M<=_:=m5.M;exact⟨_,m,_,G,⟨g1.de m5 (by simp only [dR,List.mem_nil_iff,hh,not_or];exact⟨λe=>Y e.symm,x⟩),w,(m0.trans (m1.trans m5)).sub au⟩,A⟩
def YI{H:T}{B c:Nat}{k t:Bytes}{es:List aP}{cj:J}(j:B<=H.M)(g:gJ H col c d k true t)(gl:gq H col ct 6 gF cj (es.map bp))(Y:ct≠c)(ag:ct≠8)(i:c≠8)(hs:s.length<2^40)(o:t.length<2^40)(m:hA 0 s=none) :
 ∃H' cU,bN B 67 (bu 31 0) (iD d s cj) H (.exit 0) (iD d (s.drop (s.length-h' s (min s.length 5))) cj) H'/\oV H H' col cU c ct d k true ((t++s.take (s.length-h' s (min s.length 5))).take 65536) cj es:=by
 have m0:=cT.fresh H col 15;have g0:=g.de m0 au;obtain⟨H1,l,g1,m1⟩:=YC g0 hs o m;have p:H.M+15<=H1.M:=m1.M;have a:fresh H col (H.M+11)=8:=uz A;have b:=(gl.de m0 au).de m1 (by simpa using Y);have f:(H1.set (H.M+11) z0).get (H.M+11)=some z0:=T.eD _ _ _;have m3:cT H1 ((H1.set (H.M+11) z0).set (H.M+11) (cZ (bp hg))) (fresh H col) (fresh H col) [8]:=((cT.uZ z0 a).trans (cT.uZ (H:=H1.set (H.M+11) z0) (cZ (bp hg)) a)).sub au;have q:((H1.set (H.M+11) z0).set (H.M+11) (cZ (bp hg))).M=H1.M:=rfl
 obtain⟨e,F,Z,n,rfl,rfl,rfl⟩:=Yu H H1 (H1.set (H.M+11) z0) ((H1.set (H.M+11) z0).set (H.M+11) (cZ (bp hg))) B d (H.M+11) s (s.drop (s.length-h' s (min s.length 5))) (bp hg) cj (λe F h=>e=.exit 0/\F=iD d (s.drop (s.length-h' s (min s.length 5))) cj/\h=⟨((H1.set (H.M+11) z0).set (H.M+11) (cZ (bp hg))).M+2+2,((H1.set (H.M+11) z0).set (H.M+11) (cZ (bp hg))).aF⟩)
  (aW j ⟨yF (H:=⟨H.M+4,H.aF⟩) g.get,aW A ⟨⟨l⟩,yE _ _ _,sf rfl rfl (LG hg f),aW A (aW A ⟨rfl,rfl,rfl⟩)⟩⟩)
 have m4:=cT.fresh ((H1.set (H.M+11) z0).set (H.M+11) (cZ (bp hg))) (fresh H col) 4;exact⟨_,_,n,⟨(g1.de m3 (by simpa using i)).de m4 au,(b.de m3 (by simpa using ag)).de m4 au,(m0.trans (m1.trans (m3.trans m4))).sub au⟩⟩
def YJ{H:T}{B c:Nat}{k t:Bytes}{es:List aP}{cj:J}(E:B<=H.M)(g:gJ H col c d k false t)(gl:gq H col ct 6 gF cj (es.map bp))(Y:ct≠c)(ag:ct≠8)(D:c≠8)(hs:s.length<2^40)(S:es.length<2^31) :
 ∃e F H' cU l o i,bN B 67 (bu 31 0) (iD d s cj) H e F H'/\oV H H' col cU c ct d k o t l i/\B<=H'.M /\
  (((s=[]\/(ep s).2.2=2)/\e=.exit 0/\F=iD d s l/\o=false/\i=es) \/
   (s≠[]/\(ep s).2.2=1/\e=.normal/\F=iD d (s.drop (ep s).2.1.toNat) l/\o=true/\i=es) \/
   (s≠[]/\(ep s).2.2≠2/\(ep s).2.2≠1/\e=.normal/\F=iD d (s.drop (ep s).2.1.toNat) l/\o=false/\i=es++[(ep s).1])):=by
 by_cases aM:s=[]
 .subst aM
  obtain⟨e,F,Z,b,rfl,rfl,rfl⟩:=Lx H H H H H H H B d 0 [] [] (bp hg) 0 0 cj cj cj (λe F h=>e=.exit 0/\F=iD d [] cj/\h=⟨H.M+4+2,H.aF⟩)
   (aW E ⟨yF (H:=⟨H.M+4,H.aF⟩) g.get,aW A ⟨λ_=>⟨rfl,rfl,rfl⟩,λh=>absurd rfl h⟩⟩)
  have m0:=cT.fresh H col 6;exact⟨_,_,_,_,cj,false,es,b,⟨g.de m0 au,gl.de m0 au,m0.sub au⟩,by show B<=H.M+4+2;omega,.inl ⟨.inl rfl,rfl,rfl,rfl,rfl⟩⟩
 .have m0:=cT.fresh H col 16;have g0:=g.de m0 au;have z:=gl.de m0 au;have G:=Ly hs aM ⟨H.M+16,H.aF⟩;have I:=DQ aM;have U:fresh H col (H.M+12)=8:=uz A;generalize ep s=x at G I;obtain⟨ca,n,w⟩:=x
  have aw:(∃m:Nat,n=m/\m<=s.length):=by
   rcases I with ⟨_,h,_⟩|⟨m,h,_,hm,_⟩|⟨m,h,_,hm,_⟩
   .simp only [bC]at h;exact⟨0,by rw [h.2.1];rfl,Nat.zero_le _⟩
   .simp only [bC]at h;exact⟨m,h.2.1,hm⟩
   .simp only [bC]at h;exact⟨m,h.2.1,hm⟩
  obtain⟨m,rfl,hm⟩:=aw;have aB:=(mc hm).2;obtain⟨a,aQ,aZ,v,m3,L,K,r,q,W,N,O,P,m5⟩:=LK ca (y:=H.M+12) (j:=10) (p:=13) (n:=11) z ag (by show H.M+12<H.M+16;omega) U A A S;have v:a.M=H.M+16:=v;have g3:=g0.de m3 (by simpa using D);have C:=z.de m3 (by simpa using ag);have m6:=cT.fresh a (fresh H col) 12;have g6:=g3.de m6 au;have Q:=C.de m6 au;have m7:=cT.LF (H:=⟨a.M+12,a.aF⟩) (c:=c) (c7 k true t) g6.col;have g7:gJ ((⟨a.M+12,a.aF⟩:T).set d (c7 k true t)) (fresh a (fresh H col)) c d k true t:=⟨g6.lt,T.eD _ _ _,g6.col⟩
  have R:=Q.de m7 (by simpa using Y);have X:H.M+16<=q.M:=m5.M;have u:=cT.fresh a (fresh H col) 2
  have key:=Lx H ⟨H.M+16,H.aF⟩ ((⟨H.M+16,H.aF⟩:T).set (H.M+12) z0) a K q ((⟨a.M+12,a.aF⟩:T).set d (c7 k true t)) B d (H.M+12) s (s.drop m) (bp ca) m w cj r (.slice (some ⟨a.M+10,0,0,0,6⟩) 1 1)
   (λe F h=>(w=2/\e=.exit 0/\F=iD d s cj/\h=⟨a.M+2,a.aF⟩)\/(w=1/\e=.normal/\F=iD d (s.drop m) cj/\h=(⟨a.M+12,a.aF⟩:T).set d (c7 k true t))\/(w≠2/\w≠1/\e=.normal/\F=iD d (s.drop m) r/\h=q))
   (aW E ⟨yF (H:=⟨H.M+4,H.aF⟩) g.get,aW A ⟨λh=>absurd h aM,λ_=>aW A ⟨⟨G⟩,yE _ _ _,sf rfl rfl aZ,aW A ⟨λhw=> .inl ⟨hw,rfl,rfl,rfl⟩,λhw=>aW A ⟨aB,aW A ⟨λf=>aW A ⟨sf rfl rfl (YF true g6.get),.inr (.inl ⟨f,rfl,rfl,rfl⟩)⟩,λf=>aW A ⟨L,(LJ rfl).trans N,O,.inr (.inr ⟨hw,f,rfl,rfl,rfl⟩)⟩⟩⟩⟩⟩⟩⟩)
  obtain⟨e,F,Z,b,⟨hw,rfl,rfl,rfl⟩|⟨hw,rfl,rfl,rfl⟩|⟨hw,f,rfl,rfl,rfl⟩⟩:=key
  .exact⟨_,_,_,_,cj,false,es,b,⟨g3.de u au,C.de u au,(m0.trans (m3.trans u)).sub au⟩,by show B<=a.M+2;omega,.inl ⟨.inr hw,rfl,rfl,rfl,rfl⟩⟩
  .refine⟨_,_,_,_,cj,true,es,b,⟨g7,R,(m0.trans (m3.trans (m6.trans m7))).sub au⟩,by show B<=a.M+12;omega,.inr (.inl ⟨aM,hw,rfl,?_,rfl,rfl⟩)⟩;rw [fS]
  .refine⟨_,_,_,_,r,false,_,b,⟨g0.de m5 (by simp only [dR,List.mem_nil_iff,hh,not_or];exact⟨λe=>Y e.symm,D⟩),P,(m0.trans m5).sub au⟩,A,.inr (.inr ⟨aM,hw,f,rfl,?_,rfl,rfl⟩)⟩;rw [fS]
def oV.trans{H H1 H2:T}{e f:Nat->Nat}{c:Nat}{k t t2:Bytes}{n n2:Bool}{cj h:J}{es g:List aP}(a:oV H H1 col e c ct d k n t cj es)(b:oV H1 H2 e f c ct d k n2 t2 h g):oV H H2 col f c ct d k n2 t2 h g :=
 ⟨b.qn,b.gl,(a.de.trans b.de).sub au⟩
def YK{B c:Nat}{k:Bytes}(Y:ct≠c)(ag:ct≠8)(z:c≠8):∀(f:Nat)(n:Bool)(t s:Bytes)(es:List aP)(cj:J)(H:T)(col:Nat->Nat),s.length<f->s.length<2^30->t.length<2^40->es.length+s.length<2^31->B<=H.M->gJ H col c d k n t->gq H col ct 6 gF cj (es.map bp) ->
 ∃H' cU i,dd B 67 (bu 31 0) (iD d s cj) H (.exit 0) (iD d (eB f n t s).2.2.2 i) H'/\oV H H' col cU c ct d k (eB f n t s).2.1 (eB f n t s).2.2.1 i (es++(eB f n t s).1):=by
 intro f;induction f with
 |zero=>intro n t s es cj H col N;omega
 |succ f ih =>
  intro n t s es cj H col N hs y R E g gl;cases n with
  |true =>
   cases p:hA 0 s with
   |some q =>
    obtain⟨H',cU,i,a,ok,w⟩:=YH (B:=B) E g gl Y ag z A y A p
    have S:q+6<=s.length:=by
     have:∀(x:Bytes)(j q:Nat),hA j x=some q->q+6<=j+x.length:=by
      intro x;induction x with
      |nil=>intro j q h;cases h
      |cons b r ih =>
       intro j q h;unfold hA at h;split at h
       .rename_i ae;have:=Lk _ (qB.1 ae);simp only [a8]at h;omega
       .have:=ih _ _ h;simp only [bK];omega
     have:=this s 0 q p;omega
    obtain⟨H2,l,u,o,v⟩:=ih false [] (s.drop (q+6)) (es++[kH ((t++s.take q).take 65536)]) i H' cU (by rw [eF];omega) (by rw [eF];omega) au (by simp only [dt,qA,eF];omega) w ok.qn ok.gl
    have e:eB (f+1) true t s=(kH ((t++s.take q).take 65536)::(eB f false [] (s.drop (q+6))).1,(eB f false [] (s.drop (q+6))).2):=by
     conv=>lhs;unfold eB
     rw [p]
    rw [e];refine⟨H2,l,u,b2.step a o,?_⟩;have:=ok.trans v;simpa using this
   |none =>
    obtain⟨H',cU,a,ok⟩:=YI (B:=B) E g gl Y ag z A y p
    have e:eB (f+1) true t s=([],true,(t++s.take (s.length-h' s (min s.length 5))).take 65536,s.drop (s.length-h' s (min s.length 5))):=by
     conv=>lhs;unfold eB
     rw [p]
    rw [e];exact⟨H',cU,cj,b2.last au a,by rw [gy];exact ok⟩
  |false =>
   obtain⟨e,F,H',cU,i,U,L,a,ok,w,O⟩:=YJ (B:=B) (s:=s) E g gl Y ag z A A;rcases O with ⟨hw,rfl,rfl,rfl,rfl⟩|⟨aM,hw,rfl,rfl,rfl,rfl⟩|⟨aM,I,G,rfl,rfl,rfl,rfl⟩
   .have e:eB (f+1) false t s=([],false,t,s):=by
     unfold eB;by_cases aM:s=[]
     .rw [az aM,aM]
     .rw [ai aM,az (hw.resolve_left aM)]
    rw [e];exact⟨H',cU,i,b2.last au a,by rw [gy];exact ok⟩
   .have K:∃m:Nat,(ep s).2.1=m/\1<=m/\m<=s.length:=by
     rcases DQ aM with ⟨_,h,_⟩|⟨m,h,_⟩|⟨m,h,C,D,_⟩
     .rw [h]at hw;cases hw
     .rw [h]at hw;cases hw
     .exact⟨m,by rw [h],C,D⟩
    obtain⟨m,hm,P,Q⟩:=K
    have e:eB (f+1) false t s=eB f true t (s.drop (ep s).2.1.toNat):=by
     conv=>lhs;unfold eB
     rw [ai aM,ai (by rw [hw];decide),az hw]
    rw [e];rw [hm,fS]at a⊢;obtain⟨H2,l,u,o,v⟩:=ih true t (s.drop m) L i H' cU (by rw [eF];omega) (by rw [eF];omega) y (by rw [eF];omega) w ok.qn ok.gl;exact⟨H2,l,u,b2.step a o,ok.trans v⟩
   .have K:∃m:Nat,(ep s).2.1=m/\1<=m/\m<=s.length:=by
     rcases DQ aM with ⟨_,h,_⟩|⟨m,h,C,D,_⟩|⟨m,h,_⟩
     .rw [h]at I;exact absurd rfl I
     .exact⟨m,by rw [h],C,D⟩
     .rw [h]at G;exact absurd rfl G
    obtain⟨m,hm,P,Q⟩:=K
    have e:eB (f+1) false t s=((ep s).1::(eB f false t (s.drop (ep s).2.1.toNat)).1,(eB f false t (s.drop (ep s).2.1.toNat)).2):=by
     conv=>lhs;unfold eB
     rw [ai aM,ai I,ai G]
    rw [e];rw [hm,fS]at a⊢;obtain⟨H2,l,u,o,v⟩:=ih false t (s.drop m) (es++[(ep s).1]) i H' cU (by rw [eF];omega) (by rw [eF];omega) y (by simp only [dt,qA,eF];omega) w ok.qn ok.gl;refine⟨H2,l,u,b2.step a o,?_⟩;have:=ok.trans v;simpa using this
def YL(a c d:T)(b o n k i g:Nat)(f e l:Bytes)(j:J)(m:aU)(p:aY (a.M) (a.M) (aY (a.M) (a.M+1) (aY (a.M) (a.M+3) (a6 env.D 9 ⟨b,0,0,0,3⟩ (bf a 11)=some (J.str f)/\du env (a.M+8) (ba [(19,.aB k i g o n)]) (bf a 11) (Op.convert 34 9 (Operand.tmp 19))=some (J.str e,(bf a 11))/\Nat.le (Nat.succ (bB.id ⟨k,i,g,0,1⟩)) (a.M+3)/\bY (f.length+e.length)/\aY (a.M) (a.M+11) (bN (a.M) 67 (Code.loop (bu 31 0)) [(0,J.cY b),(5,.str (f++e)),(6,.slice none 0 0)] (T.mk (a.M+11+1) (T.aF (bf a 11))) (.exit 0) [(0,J.cY b),(5,.str l),(6,j)] c/\aY (a.M) (c.M) (bt env cr (c.M+4) (ba [(65,J.cY b),(63,.str l)]) (bf c 5) (Op.store 9 (Operand.tmp 65) (Operand.tmp 63))=some (J.tuple [],d)/\aY (a.M) (d.M) (cc (a.M) (d.M+2) (m j (qb d))))))))) :
 bl 31 [J.cY b,.aB k i g o n] a m :=
 bm bL (ap 3003 (.str f)<|.aG (.v8 3005 (.str e) λh=>h)<|ab 3006<|.aG (.keep [0,5,6])<|.aG (.loop [(0,J.cY b),(5,.str l),(6,j)] c (.exit 0))<|.aG (.act 17004 .bZ λx=>d) .nil) p
def YM(a c d:T)(b j:Nat)(e g:Bytes)(f:J)(i:aU)(k:aY (a.M) (a.M) (aY (a.M) (a.M+1) (aY (a.M) (a.M+3) (a6 env.D 9 ⟨b,0,0,0,3⟩ (bf a 11)=some (J.str e)/\du env (a.M+8) (ba [(19,.slice none 0 j)]) (bf a 11) (Op.convert 34 9 (Operand.tmp 19))=some (J.str [],(bf a 11))/\bY (e.length+([]:List UInt8).length)/\aY (a.M) (a.M+11) (bN (a.M) 67 (Code.loop (bu 31 0)) [(0,J.cY b),(5,.str (e++[])),(6,.slice none 0 0)] (T.mk (a.M+11+1) (T.aF (bf a 11))) (.exit 0) [(0,J.cY b),(5,.str g),(6,f)] c/\aY (a.M) (c.M) (bt env cr (c.M+4) (ba [(65,J.cY b),(63,.str g)]) (bf c 5) (Op.store 9 (Operand.tmp 65) (Operand.tmp 63))=some (J.tuple [],d)/\aY (a.M) (d.M) (cc (a.M) (d.M+2) (i f (qb d))))))))) :
 bl 31 [J.cY b,.slice none 0 j] a i :=
 bm bL (ap 3003 (.str e)<|.aG (.v8 3005 (.str []) λh=>h)<|ab 3006<|.aG (.keep [0,5,6])<|.aG (.loop [(0,J.cY b),(5,.str g),(6,f)] c (.exit 0))<|.aG (.act 17004 .bZ λx=>d) .nil) k
def LL{F:bc}{nid c:Nat}{H:T}{o:Option bB}{l:Bytes}(e:ba F (.tmp k)=.slice o n c)(b:ed 1 (.slice o n c) H=some (aE l)):du env nid (ba F) H (Op.convert 34 9 (Operand.tmp k))=some (.str l,H):=by have Y:(bi.D env 34).map (λd=>d.kind)=some (.slice 5):= ao;have ag:(bi.D env 9).map (λd=>d.kind)=some .string:= ao;have a:(bi.D env 5).map (λd=>d.kind)=some (.int .u8):= ao;obtain⟨i,d1,f⟩:=cb.1 Y;obtain⟨j,d2,g⟩:=cb.1 ag;obtain⟨m,d3,h⟩:=cb.1 a;simp only [du,e,mw,d1,d2,f,g,d3,h,b,wo,eE]
def gJ.feed{H:T}{c c2:Nat}{k t:Bytes}{n:Bool}{o:Option bB}(g:gJ H col c d k n t)(f:mW H col c2 o bs)(Y:ct≠c)(ag:ct≠8)(j:c≠8)(w:k.length+bs.length<2^30)(s:t.length<2^40) :
 ∃H' v cU,be 31 [.ptr (some ⟨d,0,0,0,3⟩),.slice o bs.length m] H v H'/\gJ H' cU c d (eB ((k++bs).length+1) n t (k++bs)).2.2.2 (eB ((k++bs).length+1) n t (k++bs)).2.1 (eB ((k++bs).length+1) n t (k++bs)).2.2.1 /\
  gq H' cU ct 6 gF v ((eB ((k++bs).length+1) n t (k++bs)).1.map bp)/\cT H H' col cU [c,ct,8]:=by
 have m0:=cT.fresh H col 12;have g0:=g.de m0 au;obtain⟨H1,b,cj,p,ok⟩:=YK (B:=H.M) (k:=k) Y ag j ((k++bs).length+1) n t (k++bs) [] (.slice none 0 0) ⟨H.M+12,H.aF⟩ (fresh H col) A (by rw [dt];omega) s (by rw [dt];simp only [cq];omega) (by show H.M<=H.M+12;omega) g0 (gq.nil _ _ _ _ _);generalize C:eB ((k++bs).length+1) n t (k++bs)=r at *;have x:H.M+12<=H1.M:=ok.de.M;have m2:=cT.fresh H1 b 5;have g2:=ok.qn.de m2 au;have h:=ok.gl.de m2 au;have m3:=cT.LF (H:=⟨H1.M+5,H1.aF⟩) (c:=c) (c7 r.2.2.2 r.2.1 r.2.2.1) g2.col;have g3:gJ ((⟨H1.M+5,H1.aF⟩:T).set d (c7 r.2.2.2 r.2.1 r.2.2.1)) (fresh H1 b) c d r.2.2.2 r.2.1 r.2.2.1:=⟨g2.lt,T.eD _ _ _,g2.col⟩
 have i:=h.de m3 (by simpa using Y);have m4:=cT.fresh ((⟨H1.M+5,H1.aF⟩:T).set d (c7 r.2.2.2 r.2.1 r.2.2.1)) (fresh H1 b) 2;have e:=cO.dn p;have y:((⟨H1.M+5,H1.aF⟩:T).set d (c7 r.2.2.2 r.2.1 r.2.2.1)).M=H1.M+5:=rfl
 have fin:∀{v:J}{Z:T},be 31 [.ptr (some ⟨d,0,0,0,3⟩),.slice o bs.length m] H v Z->v=cj->Z=⟨((⟨H1.M+5,H1.aF⟩:T).set d (c7 r.2.2.2 r.2.1 r.2.2.1)).M+2,((⟨H1.M+5,H1.aF⟩:T).set d (c7 r.2.2.2 r.2.1 r.2.2.1)).aF⟩ ->
  ∃H' v cU,be 31 [.ptr (some ⟨d,0,0,0,3⟩),.slice o bs.length m] H v H'/\gJ H' cU c d r.2.2.2 r.2.1 r.2.2.1/\gq H' cU ct 6 gF v (r.1.map bp)/\cT H H' col cU [c,ct,8]:=by
  rintro v Z a rfl rfl;exact⟨_,_,_,a,g3.de m4 au,i.de m4 au,(m0.trans (ok.de.trans (m2.trans (m3.trans m4)))).sub au⟩
 rcases f.ex with ⟨rfl,rfl⟩|⟨q,bv,ck,rfl,u,z,_⟩
 .obtain⟨v,Z,a,aQ,aZ⟩:=YM H H1 ((⟨H1.M+5,H1.aF⟩:T).set d (c7 r.2.2.2 r.2.1 r.2.2.1)) d m k r.2.2.2 cj (λv Z=>v=cj/\Z=⟨((⟨H1.M+5,H1.aF⟩:T).set d (c7 r.2.2.2 r.2.1 r.2.2.1)).M+2,((⟨H1.M+5,H1.aF⟩:T).set d (c7 r.2.2.2 r.2.1 r.2.2.1)).aF⟩)
   (aW (Nat.le_refl _) (aW A (aW A ⟨LH (H:=⟨H.M+11,H.aF⟩) g.get,LL rfl rfl,by show Nat.succ (k.length+0)<=2^62;omega,aW A ⟨e,aW A ⟨sf rfl rfl (LI r.2.2.2 g2.get),aW A (by
    refine jS A ?_
    exact⟨rfl,rfl⟩)⟩⟩⟩)))
  exact fin a aQ aZ
 .have l:ed 1 (.aB q bv ck bs.length m) ⟨H.M+11,H.aF⟩=some (aE bs):=(f.de (cT.fresh H col 11) au).bg (n:=m)
  obtain⟨v,Z,a,aQ,aZ⟩:=YL H H1 ((⟨H1.M+5,H1.aF⟩:T).set d (c7 r.2.2.2 r.2.1 r.2.2.1)) d bs.length m q bv ck k bs r.2.2.2 cj (λv Z=>v=cj/\Z=⟨((⟨H1.M+5,H1.aF⟩:T).set d (c7 r.2.2.2 r.2.1 r.2.2.1)).M+2,((⟨H1.M+5,H1.aF⟩:T).set d (c7 r.2.2.2 r.2.1 r.2.2.1)).aF⟩)
   (aW (Nat.le_refl _) (aW A (aW A ⟨LH (H:=⟨H.M+11,H.aF⟩) g.get,LL rfl l,by show q+1<=H.M+3;omega,by show Nat.succ (k.length+bs.length)<=2^62;omega,aW A ⟨e,aW A ⟨sf rfl rfl (LI r.2.2.2 g2.get),aW A (by
    refine jS A ?_
    exact⟨rfl,rfl⟩)⟩⟩⟩)))
  exact fin a aQ aZ
abbrev fQ(b a c e f:Int)(d:Bytes):J:=J.agg [.bA b,.av a,.ac c,.V e,.V f,.str d]
abbrev oW(b a c e f:Int)(d:Bytes):T:=(af 16 [(0,aL (fQ b a c e f d))])
def YN(f e g b c:Int)(a:Bytes)(d:aU)(h:(b=0->(c=0->(a=[]->d .aK (oW f e g b c a))/\(¬a=[]->d .aJ (oW f e g b c a)))/\(¬c=0->d .aJ (oW f e g b c a)))/\(¬b=0->d .aJ (oW f e g b c a))) :
 bl 34 [bb f e g b c a] bG d :=
 bm bL (.al 1002 (.al 1006 (.al 1011 .nil .nil) .nil) .nil) h
abbrev oX(a b d e:Int)(c:Bytes):J:=J.agg [.bA 1,.av a,.ac b,.V d,.V e,.str c]
def YO(a b d e:Int)(c:Bytes)(f:aU)(g:bk 34 [(oX a b d e c)] (af 31 [(0,aL (oX a b d e c))]) .aJ (af 31 [(0,aL (oX a b d e c))])/\f (e2) (af 33 [(0,aL (oX a b d e c))])) :
 bl 20 [bb 1 a b d e c] bG f :=
 bm bL (ap 3001 .aJ .nil) g
def YP(b a d e:Int)(c:Bytes)(f:aU)(g:bk 34 [(oX b a d e c)] (af 31 [(0,aL (oX b a d e c))]) .aK (af 31 [(0,aL (oX b a d e c))])/\(cX (decide (a>7)))/\f (e2) (af 33 [(0,aL (oX b a d e c))])) :
 bl 20 [bb 1 b a d e c] bG f :=
 bm bL (ap 3001 .aK<|ap 3006 .aK .nil) g
abbrev oY(a b d e:Int)(c:Bytes):J:=J.agg [.bA 2,.av a,.ac b,.V d,.V e,.str c]
def YQ(a b d e:Int)(c:Bytes)(f:aU)(g:bk 34 [(oY a b d e c)] (af 17 [(0,aL (oY a b d e c))]) .aJ (af 17 [(0,aL (oY a b d e c))])/\f (e2) (af 19 [(0,aL (oY a b d e c))])) :
 bl 20 [bb 2 a b d e c] bG f :=
 bm bL (ap 7001 .aJ .nil) g
def YR(b a d e:Int)(c:Bytes)(f:aU)(g:bk 34 [(oY b a d e c)] (af 17 [(0,aL (oY b a d e c))]) .aK (af 17 [(0,aL (oY b a d e c))])/\(cX (decide (a>7)))/\f (e2) (af 19 [(0,aL (oY b a d e c))])) :
 bl 20 [bb 2 b a d e c] bG f :=
 bm bL (ap 7001 .aK<|ap 7006 .aK .nil) g
abbrev u0(a b d e:Int)(c:Bytes):J:=J.agg [.bA 3,.av a,.ac b,.V d,.V e,.str c]
abbrev yG(a b d e:Int)(c:Bytes):T:=(af 17 [(0,aL (u0 a b d e c))])
def YS(a b d e:Int)(c g:Bytes)(f:Bool)(h:aU)(i:bk 38 [(u0 a b d e c)] (yG a b d e c) (.tuple [.str g,.bool f]) (yG a b d e c)/\(f=true->h (.tuple [.str g,.aK]) (yG a b d e c))/\(f=false->h (.tuple [.str g,.aJ]) (yG a b d e c))) :
 bl 20 [bb 3 a b d e c] bG h :=
 bm bL (ap 11001 (.tuple [.str g,.bool f])<|.al 11003 .nil .nil) i
def YT(a b d e:Int)(c:Bytes)(f:aU)(g:(cX (5 == 5&&(a == 0&&(b == 0&&(d == 0&&(e == 0&&(c ==[]&&true)))))))/\f (.tuple [.str [27,91,79],.aK]) (af 20 [(0,aL (.agg [.bA 5,.av a,.ac b,.V d,.V e,.str c]))])) :
 bl 20 [bb 5 a b d e c] bG f :=
 bm bL (ap 18002 .aK .nil) g
abbrev LM(a b d e:Int)(c:Bytes):T:=(af 23 [(0,aL (.agg [.bA 5,.av a,.ac b,.V d,.V e,.str c]))])
def YU(a b d e:Int)(c:Bytes)(f:Bool)(g:aU)(h:(bz (5 == 5&&(a == 0&&(b == 0&&(d == 0&&(e == 0&&(c ==[]&&true)))))))/\some (J.bool (5 == 5&&(a == 1&&(b == 0&&(d == 0&&(e == 0&&(c ==[]&&true)))))))=some (J.bool f)/\(f=true->g (.tuple [.str [27,91,73],.aK]) (LM a b d e c))/\(f=false->g (.tuple [.str [27,91,73],.aJ]) (LM a b d e c))) :
 bl 20 [bb 5 a b d e c] bG g :=
 bm bL (ap 18002 .aJ<|ap 20002 (.bool f)<|.al 20004 .nil .nil) h
def YV(c d e f:Int)(a:Bytes)(b:aU)(g:bY ((Array.toList (ByteArray.data {data:= #[27,91]})).length+a.length)/\(cX (decide ((↑(((27:UInt8)::91::a).length):Int)>64)))/\b (e2) (af 26 [(0,aL (.agg [.bA 6,.av c,.ac d,.V e,.V f,.str a]))])) :
 bl 20 [bb 6 c d e f a] bG b :=
 bm bL (ab 22002<|ap 23002 .aK .nil) g
abbrev mn(a b d e:Int)(c:Bytes):J:=J.agg [.bA 6,.av a,.ac b,.V d,.V e,.str c]
abbrev lv(a:aP):J:=J.agg [.bA (aP.kind a),.av (aP.code a),.ac (aP.cI a),.V (aP.x a),.V (aP.y a),.str a.6]
def YW(b c d e:Int)(a:Bytes)(f:aP)(i g:Int)(h:aU)(j:bY ((Array.toList (ByteArray.data {data:= #[27,91]})).length+a.length)/\(bz (decide ((↑(((27:UInt8)::91::a).length):Int)>64)))/\bk 39 [.str ((27:UInt8)::91::a)] (af 34 [(0,aL (mn b c d e a))]) (.tuple [(lv f),.V i,.V g]) (af 34 [(0,aL (mn b c d e a))])/\(bz (g == 0))/\h (.tuple [.str ((27:UInt8)::91::a),.aJ]) (af 50 [(0,aL (mn b c d e a)),(30,(aL (lv f)))])) :
 bl 20 [bb 6 b c d e a] bG h :=
 bm bL (ab 22002<|ap 23002 .aJ<|ap 25001 (.tuple [bp f,.V i,.V g])<|ap 26002 .aJ .nil) j
def YX(b c d e:Int)(a:Bytes)(g:aP)(f h:Int)(i:aU)(j:bY ((Array.toList (ByteArray.data {data:= #[27,91]})).length+a.length)/\(bz (decide ((↑(((27:UInt8)::91::a).length):Int)>64)))/\bk 39 [.str ((27:UInt8)::91::a)] (af 34 [(0,aL (mn b c d e a))]) (.tuple [(lv g),.V f,.V h]) (af 34 [(0,aL (mn b c d e a))])/\(cX (h == 0))/\(bz (f == (↑(((27:UInt8)::91::a).length):Int)))/\i (.tuple [.str ((27:UInt8)::91::a),.aJ]) (af 50 [(0,aL (mn b c d e a)),(30,(aL (lv g)))])) :
 bl 20 [bb 6 b c d e a] bG i :=
 bm bL (ab 22002<|ap 23002 .aJ<|ap 25001 (.tuple [bp g,.V f,.V h])<|ap 26002 .aK<|ap 26007 .aJ .nil) j
def YY(c d e f:Int)(a:Bytes)(b:aP)(i j:Int)(g:Bool)(h:aU)(k:bY ((Array.toList (ByteArray.data {data:= #[27,91]})).length+a.length)/\(bz (decide ((↑(((27:UInt8)::91::a).length):Int)>64)))/\bk 39 [.str ((27:UInt8)::91::a)] (af 34 [(0,aL (mn c d e f a))]) (.tuple [(lv b),.V i,.V j]) (af 34 [(0,aL (mn c d e f a))])/\(cX (j == 0))/\(cX (i == (↑(((27:UInt8)::91::a).length):Int)))/\some (J.bool (aP.kind b == 6&&(aP.code b == c&&(aP.cI b == d&&(aP.x b == e&&(aP.y b == f&&(b.6 == a&&true)))))))=some (J.bool g)/\(g=true->h (.tuple [.str ((27:UInt8)::91::a),.aK]) (af 50 [(0,aL (mn c d e f a)),(30,(aL (lv b)))]))/\(g=false->h (.tuple [.str ((27:UInt8)::91::a),.aJ]) (af 50 [(0,aL (mn c d e f a)),(30,(aL (lv b)))]))) :
 bl 20 [bb 6 c d e f a] bG h :=
 bm bL (ab 22002<|ap 23002 .aJ<|ap 25001 (.tuple [bp b,.V i,.V j])<|ap 26002 .aK<|ap 26007 .aK<|ap 26012 (.bool g)<|.al 26013 .nil .nil) k
def YZ(a c d f g:Int)(e:Bytes)(b:aU)(h:(bz (a == 1))/\(bz (a == 2))/\(bz (a == 3))/\(bz (a == 4))/\(bz (a == 5))/\(bz (a == 6))/\b (e2) (af 19 [(0,aL (fQ a c d f g e))])) :
 bl 20 [bb a c d f g e] bG b :=
 bm bL (ap 2000 .aJ<|ap 6000 .aJ<|ap 10000 .aJ<|ap 12000 .aJ<|ap 17000 .aJ<|ap 21000 .aJ .nil) h
abbrev Y0(a:Bytes):b7:=(ab 7018<|ab 7021<|ap 7022 (.str a)<|ab 7023<|ab 7025 .nil)
abbrev oZ(a b d e:Int)(c:Bytes):T:=(af 43 [(0,aL (u0 a b d e c))])
abbrev LN(a b c d:Bytes):b7:=(ap 7010 (.str a)<|ab 7011<|ap 7012 (.str d)<|ab 7015<|ap 7016 (.str b)<|ab 7017 (Y0 c))
abbrev gh(a b d e:Int)(c:Bytes):T:=(af 75 [(0,aL (u0 a b d e c)),(41,aa.an [.V 0,.V 1,.V 2,.V 0,.V 64,.V 65,.V 35] 1 true)])
abbrev gi(a b d e:Int)(c:Bytes):T:=(af 76 [(0,aL (u0 a b d e c)),(41,aa.an [.V 0,.V 1,.V 2,.V 0,.V 64,.V 65,.V 35] 1 true)])
def LO(d b a c:Int)(e:Bytes)(m:bB)(k:Int)(g f i j:Bytes)(l:aU)(n:(d<0->l (e2) (oZ d b a c e))/\(¬d<0->(6<d->l (e2) (oZ d b a c e))/\(¬6<d->(7<b->l (e2) (oZ d b a c e))/\(¬7<b->(a<0->l (e2) (oZ d b a c e))/\(¬a<0->(4096<=a->l (e2) (oZ d b a c e))/\(¬4096<=a->(c<0->l (e2) (oZ d b a c e))/\(¬c<0->(4096<=c->l (e2) (oZ d b a c e))/\(¬4096<=c->(e=[]->(d=3->iM env.D 102 (.slice (b5 41) 7 7) (.av d)=some (J.ptr (some m))/\a6 env.D 3 m (gi d b a c e)=some (.V k)/\(bd (b))/\(bd (4*b))/\(bd (k+4*b))/\bk 47 [.V (k+4*b)] (gi d b a c e) (.str g) (gi d b a c e)/\hW 76 (gi d b a c e) (gi d b a c e)=true/\bY ((Array.toList (ByteArray.data {data:= #[27,91,60]})).length+g.length)/\Decidable.rec (λh=>(λa=>none) h) (λh=>(λa=>some (J.str ((27:UInt8)::91::60::g++Array.toList (ByteArray.data {data:= #[59]})))) h) (Nat.decLt (((27:UInt8)::91::60::g).length+(Array.toList (ByteArray.data {data:= #[59]})).length) (2^62))=some (J.str j)/\(bd (a+1))/\bk 47 [.V (a+1)] (gi d b a c e) (.str f) (gi d b a c e)/\hW 76 (gi d b a c e) (gi d b a c e)=true/\bY (j.length+f.length)/\bY ((j++f).length+(Array.toList (ByteArray.data {data:= #[59]})).length)/\(bd (c+1))/\bk 47 [.V (c+1)] (gi d b a c e) (.str i) (gi d b a c e)/\bY ((j++f++[(59:UInt8)]).length+i.length)/\bY ((j++f++[(59:UInt8)]++i).length+List.length [(109:UInt8)])/\lJ [.V (k+4*b)] [.V (a+1)] (gi d b a c e) (gi d b a c e) (.str g) (.str f) (gi d b a c e) (gi d b a c e)/\lJ [.V (k+4*b)] [.V (c+1)] (gi d b a c e) (gi d b a c e) (.str g) (.str i) (gi d b a c e) (gi d b a c e)/\lJ [.V (a+1)] [.V (c+1)] (gi d b a c e) (gi d b a c e) (.str f) (.str i) (gi d b a c e) (gi d b a c e)/\l (.tuple [.str (j++f++[(59:UInt8)]++i++[(109:UInt8)]),.aK]) (gi d b a c e))/\(¬d=3->iM env.D 102 (.slice (b5 41) 7 7) (.av d)=some (J.ptr (some m))/\a6 env.D 3 m (gh d b a c e)=some (.V k)/\(bd (b))/\(bd (4*b))/\(bd (k+4*b))/\bk 47 [.V (k+4*b)] (gh d b a c e) (.str g) (gh d b a c e)/\hW 75 (gh d b a c e) (gh d b a c e)=true/\bY ((Array.toList (ByteArray.data {data:= #[27,91,60]})).length+g.length)/\Decidable.rec (λh=>(λa=>none) h) (λh=>(λa=>some (J.str ((27:UInt8)::91::60::g++Array.toList (ByteArray.data {data:= #[59]})))) h) (Nat.decLt (((27:UInt8)::91::60::g).length+(Array.toList (ByteArray.data {data:= #[59]})).length) (2^62))=some (J.str j)/\(bd (a+1))/\bk 47 [.V (a+1)] (gh d b a c e) (.str f) (gh d b a c e)/\hW 75 (gh d b a c e) (gh d b a c e)=true/\bY (j.length+f.length)/\bY ((j++f).length+(Array.toList (ByteArray.data {data:= #[59]})).length)/\(bd (c+1))/\bk 47 [.V (c+1)] (gh d b a c e) (.str i) (gh d b a c e)/\bY ((j++f++[(59:UInt8)]).length+i.length)/\bY ((j++f++[(59:UInt8)]++i).length+List.length [(77:UInt8)])/\lJ [.V (k+4*b)] [.V (a+1)] (gh d b a c e) (gh d b a c e) (.str g) (.str f) (gh d b a c e) (gh d b a c e)/\lJ [.V (k+4*b)] [.V (c+1)] (gh d b a c e) (gh d b a c e) (.str g) (.str i) (gh d b a c e) (gh d b a c e)/\lJ [.V (a+1)] [.V (c+1)] (gh d b a c e) (gh d b a c e) (.str f) (.str i) (gh d b a c e) (gh d b a c e)/\l (.tuple [.str (j++f++[(59:UInt8)]++i++[(77:UInt8)]),.aK]) (gh d b a c e)))/\(¬e=[]->l (e2) (oZ d b a c e)))))))))) :
 bl 38 [bb 3 d b a c e] bG l :=
 bm bL (.al 1002 .nil<|.al 1006 .nil<|.al 1011 .nil<|.al 1016 .nil<|.al 1021 .nil<|.al 1026 .nil<|.al 1031 .nil<|.al 1036 (.al 5002 (ap 7003 (.ptr (some m)) (ap 7004 (.V k) (ab 7007 (ab 7008 (ab 7009 (LN g f i j)))))) (ap 7003 (.ptr (some m)) (ap 7004 (.V k) (ab 7007 (ab 7008 (ab 7009 (LN g f i j))))))) .nil) n
abbrev jx(a b:Nat):J:=J.slice (some ⟨a,b,0,0,6⟩) 1 1
abbrev o0:J:=J.agg [.str [],.aK,.str []]
abbrev kO(a b d e:Int)(c:Bytes):J:=J.agg [.bA 4,.av a,.ac b,.V d,.V e,.str c]
abbrev LP(d e b c k:Nat)(f g h i:Int)(a:Bytes)(j:J)(l:aP):bc:=[(83,.str ((27:UInt8)::91::50::48::48::126::a)),(82,.str a),(81,.ptr (some ⟨d,0,0,5,6⟩)),(6,.aK),(80,.aK),(79,.aK),(78,(kO f g h i a)),(77,(lv l)),(76,.ptr (some ⟨b,c,k,0,6⟩)),(75,(jx b c)),(74,.aK),(73,.aK),(72,.V 1),(71,(jx b c)),(5,(jx b c)),(70,(jx b c)),(69,j),(68,.str (a++[(27:UInt8),91,50,48,49,126])),(67,.str a),(66,.ptr (some ⟨d,0,0,5,6⟩)),(65,J.cY e),(4,J.cY e),(64,J.cY e),(63,o0),(61,.aK),(62,.aK),(55,.aJ),(56,.aJ),(41,.aJ),(42,.aJ),(13,.aJ),(14,.aJ),(12,.bA 4),(11,J.aT d),(3,.aJ),(2,.str []),(1,J.aT d),(0,(kO f g h i a))]
def Y1(c e m s a:T)(d o h i p v:Nat)(j k f l:Int)(b r:Bytes)(n:J)(g:aP)(q:Bool)(t:aU)(u:aY (c.M) (c.M) (bt env cr (c.M+0) (ba [(0,(kO j k f l b))]) (bf c 3) (Op.box 42 (Operand.tmp 0))=some (.aT d,e)/\aY (c.M) (e.M) (a6 env.D 40 ⟨d,0,0,0,6⟩ (bf e 2)=some (.bA 4)/\aY (c.M) (e.M+2) (aY (c.M) (e.M+4) (aY (c.M) (e.M+6) (aY (c.M) (e.M+8) (aY (c.M) (e.M+10) (bt env cr (e.M+11) (ba [(63,o0)]) (fw e) (Op.box 29 (Operand.tmp 63))=some (.cY o,m)/\aY (c.M) (m.M) (a6 env.D 9 ⟨d,0,0,5,6⟩ (bf m 7)=some (J.str b)/\bY (b.length+(Array.toList (ByteArray.data {data:= #[27,91,50,48,49,126]})).length)/\du env (m.M+4) (ba [(68,.str (b++[(27:UInt8),91,50,48,49,126]))]) (bf m 7) (Op.convert 9 34 (Operand.tmp 68))=some (n,s)/\bk 31 [J.cY o,n] s ((jx h i)) a/\aY (c.M) (a.M) (iM env.D 56 ((jx h i)) (.V 0)=some (J.ptr (some ⟨h,i,p,0,6⟩))/\a6 env.D 42 ⟨h,i,p,0,6⟩ (bf a 11)=some ((lv g))/\h<a.M/\a6 env.D 42 ⟨d,0,0,0,6⟩ (bf a 11)=some ((kO j k f l b))/\d<a.M/\(cX (aP.kind g == 4&&(aP.code g == j&&(aP.cI g == k&&(aP.x g == f&&(aP.y g == l&&(g.6 == b&&true)))))))/\aY (c.M) (a.M+11) (a6 env.D 9 ⟨d,0,0,5,6⟩ (bf a 24)=some (J.str b)/\d<a.M+11/\bY ((Array.toList (ByteArray.data {data:= #[27,91,50,48,48,126]})).length+b.length)/\hn env.D (bi.eS env) (gA (Operand.tmp 83) || gA (Operand.const (Value.string {data:= #[27,91,50,48,49,126]}))) BinOp.add 9 (ba (LP d o h i p j k f l b n g) (Operand.tmp 83)) (ba (LP d o h i p j k f l b n g) (Operand.const (Value.string {data:= #[27,91,50,48,49,126]})))=some (J.str r)/\a6 env.D 9 ⟨d,0,0,5,6⟩ (bf a 24)=some (J.str b)/\d<a.M+11/\some (J.bool (decide ((↑(b.length):Int)<=65536)))=some (J.bool q)/\(q=true->cc (c.M) (a.M+24) (t (.tuple [.str r,.aK]) (T.mk (a.M+11+13) (T.aF (bf a 11)))))/\(q=false->cc (c.M) (a.M+24) (t (.tuple [.str r,.aJ]) (T.mk (a.M+11+13) (T.aF (bf a 11)))))))))))))))) :
 bl 20 [bb 4 j k f l b] c t :=
 bm bL (.aG (.act 0 (.aT d) λf=>e)<|ap 1001 (.bA 4)<|.aG (.act 13001 (.cY o) λf=>m)<|ap 14002 (.str b)<|ab 14003<|.aG (.im 14004 n λf=>s)<|.aG (.act 14005 ((jx h i)) λf=>a)<|ap 15005 (.ptr (some ⟨h,i,p,0,6⟩))<|.aG (.gO 15006 (bp g))<|.aG (.gO 15007 (bb 4 j k f l b))<|ap 15008 .aK<|.aG (.gO 16001 (.str b))<|ab 16002<|ap 16003 (.str r)<|.aG (.gO 16007 (.str b))<|ap 16009 (.bool q)<|.al 16010 .nil .nil) u
abbrev LQ(d e b c k:Nat)(f g h i:Int)(a:Bytes)(j:J)(l:aP):bc:=[(83,.str ((27:UInt8)::91::50::48::48::126::a)),(82,.str a),(81,.ptr (some ⟨d,0,0,5,6⟩)),(6,.aJ),(80,.aJ),(79,.aJ),(78,(kO f g h i a)),(77,(lv l)),(76,.ptr (some ⟨b,c,k,0,6⟩)),(75,(jx b c)),(74,.aK),(73,.aK),(72,.V 1),(71,(jx b c)),(5,(jx b c)),(70,(jx b c)),(69,j),(68,.str (a++[(27:UInt8),91,50,48,49,126])),(67,.str a),(66,.ptr (some ⟨d,0,0,5,6⟩)),(65,J.cY e),(4,J.cY e),(64,J.cY e),(63,o0),(61,.aK),(62,.aK),(55,.aJ),(56,.aJ),(41,.aJ),(42,.aJ),(13,.aJ),(14,.aJ),(12,.bA 4),(11,J.aT d),(3,.aJ),(2,.str []),(1,J.aT d),(0,(kO f g h i a))]
def Y2(a d m q c:T)(g o h i p u:Nat)(j k e l:Int)(b r:Bytes)(n:J)(f:aP)(s:aU)(t:aY (a.M) (a.M) (bt env cr (a.M+0) (ba [(0,(kO j k e l b))]) (bf a 3) (Op.box 42 (Operand.tmp 0))=some (.aT g,d)/\aY (a.M) (d.M) (a6 env.D 40 ⟨g,0,0,0,6⟩ (bf d 2)=some (.bA 4)/\aY (a.M) (d.M+2) (aY (a.M) (d.M+4) (aY (a.M) (d.M+6) (aY (a.M) (d.M+8) (aY (a.M) (d.M+10) (bt env cr (d.M+11) (ba [(63,o0)]) (fw d) (Op.box 29 (Operand.tmp 63))=some (.cY o,m)/\aY (a.M) (m.M) (a6 env.D 9 ⟨g,0,0,5,6⟩ (bf m 7)=some (J.str b)/\bY (b.length+(Array.toList (ByteArray.data {data:= #[27,91,50,48,49,126]})).length)/\du env (m.M+4) (ba [(68,.str (b++[(27:UInt8),91,50,48,49,126]))]) (bf m 7) (Op.convert 9 34 (Operand.tmp 68))=some (n,q)/\bk 31 [J.cY o,n] q ((jx h i)) c/\aY (a.M) (c.M) (iM env.D 56 ((jx h i)) (.V 0)=some (J.ptr (some ⟨h,i,p,0,6⟩))/\a6 env.D 42 ⟨h,i,p,0,6⟩ (bf c 11)=some ((lv f))/\h<c.M/\a6 env.D 42 ⟨g,0,0,0,6⟩ (bf c 11)=some ((kO j k e l b))/\g<c.M/\(bz (aP.kind f == 4&&(aP.code f == j&&(aP.cI f == k&&(aP.x f == e&&(aP.y f == l&&(f.6 == b&&true)))))))/\aY (a.M) (c.M+11) (a6 env.D 9 ⟨g,0,0,5,6⟩ (bf c 24)=some (J.str b)/\g<c.M+11/\bY ((Array.toList (ByteArray.data {data:= #[27,91,50,48,48,126]})).length+b.length)/\hn env.D (bi.eS env) (gA (Operand.tmp 83) || gA (Operand.const (Value.string {data:= #[27,91,50,48,49,126]}))) BinOp.add 9 (ba (LQ g o h i p j k e l b n f) (Operand.tmp 83)) (ba (LQ g o h i p j k e l b n f) (Operand.const (Value.string {data:= #[27,91,50,48,49,126]})))=some (J.str r)/\cc (a.M) (c.M+24) (s (.tuple [.str r,.aJ]) (T.mk (c.M+11+13) (T.aF (bf c 11))))))))))))))) :
 bl 20 [bb 4 j k e l b] a s :=
 bm bL (.aG (.act 0 (.aT g) λe=>d)<|ap 1001 (.bA 4)<|.aG (.act 13001 (.cY o) λe=>m)<|ap 14002 (.str b)<|ab 14003<|.aG (.im 14004 n λe=>q)<|.aG (.act 14005 ((jx h i)) λe=>c)<|ap 15005 (.ptr (some ⟨h,i,p,0,6⟩))<|.aG (.gO 15006 (bp f))<|.aG (.gO 15007 (bb 4 j k e l b))<|ap 15008 .aJ<|.aG (.gO 16001 (.str b))<|ab 16002<|ap 16003 (.str r) .nil) t
abbrev LR(b c:Nat)(e f g h:Int)(a:Bytes)(d:J):bc:=[(83,.str ((27:UInt8)::91::50::48::48::126::a)),(82,.str a),(81,.ptr (some ⟨b,0,0,5,6⟩)),(6,.aJ),(80,.aJ),(79,.tuple []),(78,.tuple []),(77,.tuple []),(76,.tuple []),(75,.tuple []),(74,.aJ),(73,.aJ),(72,.V 0),(71,.slice none 0 0),(5,.slice none 0 0),(70,.slice none 0 0),(69,d),(68,.str (a++[(27:UInt8),91,50,48,49,126])),(67,.str a),(66,.ptr (some ⟨b,0,0,5,6⟩)),(65,J.cY c),(4,J.cY c),(64,J.cY c),(63,o0),(61,.aK),(62,.aK),(55,.aJ),(56,.aJ),(41,.aJ),(42,.aJ),(13,.aJ),(14,.aJ),(12,.bA 4),(11,J.aT b),(3,.aJ),(2,.str []),(1,J.aT b),(0,(kO e f g h a))]
def Y3(a b g m d:T)(f i t u q r:Nat)(j k e l:Int)(c n:Bytes)(h:J)(s:aP)(o:aU)(p:aY (a.M) (a.M) (bt env cr (a.M+0) (ba [(0,(kO j k e l c))]) (bf a 3) (Op.box 42 (Operand.tmp 0))=some (.aT f,b)/\aY (a.M) (b.M) (a6 env.D 40 ⟨f,0,0,0,6⟩ (bf b 2)=some (.bA 4)/\aY (a.M) (b.M+2) (aY (a.M) (b.M+4) (aY (a.M) (b.M+6) (aY (a.M) (b.M+8) (aY (a.M) (b.M+10) (bt env cr (b.M+11) (ba [(63,o0)]) (fw b) (Op.box 29 (Operand.tmp 63))=some (.cY i,g)/\aY (a.M) (g.M) (a6 env.D 9 ⟨f,0,0,5,6⟩ (bf g 7)=some (J.str c)/\bY (c.length+(Array.toList (ByteArray.data {data:= #[27,91,50,48,49,126]})).length)/\du env (g.M+4) (ba [(68,.str (c++[(27:UInt8),91,50,48,49,126]))]) (bf g 7) (Op.convert 9 34 (Operand.tmp 68))=some (h,m)/\bk 31 [J.cY i,h] m (.slice none 0 0) d/\aY (a.M) (d.M) ((bz false)/\aY (a.M) (d.M+11) (a6 env.D 9 ⟨f,0,0,5,6⟩ (bf d 24)=some (J.str c)/\f<d.M+11/\bY ((Array.toList (ByteArray.data {data:= #[27,91,50,48,48,126]})).length+c.length)/\hn env.D (bi.eS env) (gA (Operand.tmp 83) || gA (Operand.const (Value.string {data:= #[27,91,50,48,49,126]}))) BinOp.add 9 (ba (LR f i j k e l c h) (Operand.tmp 83)) (ba (LR f i j k e l c h) (Operand.const (Value.string {data:= #[27,91,50,48,49,126]})))=some (J.str n)/\cc (a.M) (d.M+24) (o (.tuple [.str n,.aJ]) (T.mk (d.M+11+13) (T.aF (bf d 11))))))))))))))) :
 bl 20 [bb 4 j k e l c] a o :=
 bm bL (.aG (.act 0 (.aT f) λe=>b)<|ap 1001 (.bA 4)<|.aG (.act 13001 (.cY i) λe=>g)<|ap 14002 (.str c)<|ab 14003<|.aG (.im 14004 h λe=>m)<|.aG (.act 14005 (.slice none 0 0) λe=>d)<|ap 15002 .aJ<|.aG (.gO 16001 (.str c))<|ab 16002<|ap 16003 (.str n) .nil) p
abbrev u1(b c a:Nat):J:=J.slice (some ⟨b,c,0,0,6⟩) a a
abbrev LS(c d e f b:Nat)(h i j k:Int)(a:Bytes)(g:J):bc:=[(83,.str ((27:UInt8)::91::50::48::48::126::a)),(82,.str a),(81,.ptr (some ⟨c,0,0,5,6⟩)),(6,.aJ),(80,.aJ),(79,.tuple []),(78,.tuple []),(77,.tuple []),(76,.tuple []),(75,.tuple []),(74,.aJ),(73,.aJ),(72,.V b),(71,(u1 e f b)),(5,(u1 e f b)),(70,(u1 e f b)),(69,g),(68,.str (a++[(27:UInt8),91,50,48,49,126])),(67,.str a),(66,.ptr (some ⟨c,0,0,5,6⟩)),(65,J.cY d),(4,J.cY d),(64,J.cY d),(63,o0),(61,.aK),(62,.aK),(55,.aJ),(56,.aJ),(41,.aJ),(42,.aJ),(13,.aJ),(14,.aJ),(12,.bA 4),(11,J.aT c),(3,.aJ),(2,.str []),(1,J.aT c),(0,(kO h i j k a))]
def Y4(a b g p d:T)(f i m n t j:Nat)(k l e o:Int)(c q:Bytes)(h:J)(u:aP)(r:aU)(s:aY (a.M) (a.M) (bt env cr (a.M+0) (ba [(0,(kO k l e o c))]) (bf a 3) (Op.box 42 (Operand.tmp 0))=some (.aT f,b)/\aY (a.M) (b.M) (a6 env.D 40 ⟨f,0,0,0,6⟩ (bf b 2)=some (.bA 4)/\aY (a.M) (b.M+2) (aY (a.M) (b.M+4) (aY (a.M) (b.M+6) (aY (a.M) (b.M+8) (aY (a.M) (b.M+10) (bt env cr (b.M+11) (ba [(63,o0)]) (fw b) (Op.box 29 (Operand.tmp 63))=some (.cY i,g)/\aY (a.M) (g.M) (a6 env.D 9 ⟨f,0,0,5,6⟩ (bf g 7)=some (J.str c)/\bY (c.length+(Array.toList (ByteArray.data {data:= #[27,91,50,48,49,126]})).length)/\du env (g.M+4) (ba [(68,.str (c++[(27:UInt8),91,50,48,49,126]))]) (bf g 7) (Op.convert 9 34 (Operand.tmp 68))=some (h,p)/\bk 31 [J.cY i,h] p ((u1 m n j)) d/\aY (a.M) (d.M) ((bz ((j:Int) == 1))/\aY (a.M) (d.M+11) (a6 env.D 9 ⟨f,0,0,5,6⟩ (bf d 24)=some (J.str c)/\f<d.M+11/\bY ((Array.toList (ByteArray.data {data:= #[27,91,50,48,48,126]})).length+c.length)/\hn env.D (bi.eS env) (gA (Operand.tmp 83) || gA (Operand.const (Value.string {data:= #[27,91,50,48,49,126]}))) BinOp.add 9 (ba (LS f i m n j k l e o c h) (Operand.tmp 83)) (ba (LS f i m n j k l e o c h) (Operand.const (Value.string {data:= #[27,91,50,48,49,126]})))=some (J.str q)/\cc (a.M) (d.M+24) (r (.tuple [.str q,.aJ]) (T.mk (d.M+11+13) (T.aF (bf d 11))))))))))))))) :
 bl 20 [bb 4 k l e o c] a r :=
 bm bL (.aG (.act 0 (.aT f) λe=>b)<|ap 1001 (.bA 4)<|.aG (.act 13001 (.cY i) λe=>g)<|ap 14002 (.str c)<|ab 14003<|.aG (.im 14004 h λe=>p)<|.aG (.act 14005 ((u1 m n j)) λe=>d)<|ap 15002 .aJ<|.aG (.gO 16001 (.str c))<|ab 16002<|ap 16003 (.str q) .nil) s
def Y5(b c:Int)(a:Bytes)(d e:T)(g h:J)(f:aU)(i:(bd (c))/\(bd (c+1))/\bk 47 [.V (c+1)] (af 9 [(0,aL (ef b c))]) (.str a) (af 9 [(0,aL (ef b c))])/\(bz (decide (b≥1)))/\bN 0 150 (Code.loop (bu 37 0)) [(1,J.aT 0),(4,.str a),(8,kJ),(9,.V 0)] (af 21 [(0,aL (ef b c)),(9,aa.an [.V 0,.V 13,.V 9,.V 127,.V 27] 1 true)]) (.exit 0) [(1,J.aT 0),(4,.str a),(8,.str [65,66,67,68,72,70]),(9,g)] d/\a6 env.D 21 ⟨0,0,0,1,6⟩ (fw d)=some (.av b)/\(bz (decide (b≥21)))/\bN 0 150 (Code.loop (bu 37 1)) [(1,J.aT 0),(4,.str a),(10,.V 2)] (nd d) (.exit 2) [(1,J.aT 0),(4,.str a),(10,h)] e/\f (e2) (qb e)) :
 bl 37 [bb 2 b c 0 0 []] bG f :=
 bm bL (ab 1002<|ab 1003<|ap 1004 (.str a)<|ap 3002 .aJ<|.aG (.keep [1,4,8,9])<|.aG (.loop [(1,J.aT 0),(4,.str a),(8,.str [65,66,67,68,72,70]),(9,g)] d (.exit 0))<|ap 21001 (.av b)<|ap 21002 .aJ<|.aG (.keep [1,4,10]) (JY a e h)) i
def Y6(a b c e f:Int)(d i:Bytes)(g:Bool)(h:aU)(j:bk 20 [(fQ a b c e f d)] (af 10 [(0,aL (fQ a b c e f d))]) (.tuple [.str i,.bool g]) (af 10 [(0,aL (fQ a b c e f d))])/\(g=true->(cX (a != 1))/\(cX (a != 2))/\h (e2) (af 24 [(0,aL (fQ a b c e f d))]))/\(g=false->h (e2) (af 24 [(0,aL (fQ a b c e f d))]))) :
 bl 22 [bb a b c e f d] bG h :=
 bm bL (ap 1001 (.tuple [.str i,.bool g])<|.al 1004 (ap 2005 .aK (ap 2009 .aK .nil)) .nil) j
def Y7(b a c e f:Int)(d h:Bytes)(g:aU)(i:bk 20 [(fQ b a c e f d)] (af 10 [(0,aL (fQ b a c e f d))]) (.tuple [.str h,.aJ]) (af 10 [(0,aL (fQ b a c e f d))])/\g (e2) (af 24 [(0,aL (fQ b a c e f d))])) :
 bl 22 [bb b a c e f d] bG g :=
 bm bL (ap 1001 (.tuple [.str h,.aJ]) .nil) i
def LU(e:aP)(H:T):be 34 [bp e] H (.bool (h7 e)) H:=by refine bj.bU (YN e.kind e.code e.cI e.x e.y e.text (λv _=>v=.bool (h7 e)) ⟨λb=>⟨λc=>⟨λa=> ?_,λa=> ?_⟩,λc=> ?_⟩,λb=> ?_⟩) rfl rfl H;all_goals simp [h7, *]
def Y8(Y:1<=k)(N:k<2147483648)(hm:m<=7)(H:T):∃s,be 37 [bp ⟨2,k,m,0,0,[]⟩] H (.tuple [.str s,.bool (eX k)]) H:=by
 have g:=l' (n:=m+1) A;have hs:=j5 (n:=m+1) (k:=9) (by simp;omega);generalize decDigits (m+1)=d at hs g;have B:d.length<100:= A;have fin:(∃v Y,be 37 [bb 2 k m 0 0 []] ⟨0,.nil⟩ v Y/\∃t,v=.tuple [.str t,.bool (eX k)])-> ∃s,be 37 [bp ⟨2,k,m,0,0,[]⟩] H (.tuple [.str s,.bool (eX k)]) H:=fun⟨v,Y,h,t,e⟩=>⟨t,bj.bU ⟨v,Y,h,e⟩ rfl rfl H⟩
 have p:(1<=k/\k<=14)\/(21<=k/\k<=32)->eX k=true:=by intro h;simp only [eX,eC,cC,Nat.ble_eq];exact h
 have not:¬((1<=k/\k<=14)\/(21<=k/\k<=32))->eX k=false:=by intro h;rw [gL];intro q;simp only [eX,eC,cC,Nat.ble_eq]at q;exact h q
 refine fin ?_;by_cases L:k<=4
 .rw [p A];obtain⟨n,aw,E⟩:=J7 Y L;obtain⟨s,f⟩:=Dn (c:=n) (m:=m) A hm ⟨0,.nil⟩;have f:∀K,be 63 [.V (n:Nat),.ac (m:Nat)] K (.str s) K:=λK=>bj.bU ⟨_,_,f,rfl⟩ rfl rfl K
  have G:a6 (bi.D env) 3 ⟨9,0,0+Int.toNat (k:Nat),0,1⟩ (T.bO 25 [(0,eW k m),(9,aa.an [.V 0,.V 13,.V 9,.V 127,.V 27] 1 true)])=some (.V (n:Nat)):=by have C:(bi.D env 3).map (λd=>d.kind.isAgg)=some false:= ao;obtain⟨x,Y,ag⟩:=cb.1 C;have ab:(T.bO 25 [(0,eW k m),(9,aa.an [.V 0,.V 13,.V 9,.V 127,.V 27] 1 true)]).get 9=some (aa.an [.V 0,.V 13,.V 9,.V 127,.V 27] 1 true):=rfl;rw [fS];unfold a6;rw [Y,ab];simp only [E,eK,ag];simp
  exact JU (k:Nat) (m:Nat) (n:Nat) d s (λv _=> ∃t,v=.tuple [.str t,.bool true]) ⟨⟨A,A⟩,⟨A,A⟩,⟨g _⟩,by simp;omega,by simp;omega,⟨A,A⟩,G,⟨A,A⟩,
   λ_=>⟨_,rfl⟩,λ_=>⟨λ_=>⟨λ_=>⟨λ_=>⟨λ_=>⟨_,rfl⟩,λ_=>⟨⟨f _⟩,_,rfl⟩⟩,λ_=>⟨⟨f _⟩,_,rfl⟩⟩,λ_=>⟨_,rfl⟩⟩,λ_=>⟨λ_=>⟨λ_=>⟨_,rfl⟩,λ_=>⟨⟨f _⟩,_,rfl⟩⟩,λ_=>⟨⟨f _⟩,_,rfl⟩⟩⟩⟩
 obtain⟨x,H1,⟨u,ab,F⟩|⟨s,u,F⟩⟩:=J2 k m d B 6 0 A A
 .have i:=(cO.dn u).pre (show bW 0 150 _ (T.bO 21 [(0,eW k m),(9,aa.an [.V 0,.V 13,.V 9,.V 127,.V 27] 1 true)]) _ _ from r1 k m d 0 _ rfl);have a:∀j,(⟨H1.M+j,H1.aF⟩:T).get 0=some (eW k m):=λj=>ab
  by_cases r:21<=k/\k<25/\m=0
  .rw [p A];obtain⟨l,o,rfl⟩:=r
   obtain⟨s,I,O⟩:∃s,dW (bi.D env) 9 (.str [80,81,82,83]) (some (.av ((k:Nat)-21))) (some (.av ((k:Nat)-21+1))) none=some (.str s)/\s.length<=1:=by
    have aj:k=21\/k=22\/k=23\/k=24:= A;rcases aj with rfl|rfl|rfl|rfl
    .exact⟨[80],ao,aC⟩
    .exact⟨[81],ao,aC⟩
    .exact⟨[82],ao,aC⟩
    .exact⟨[83],ao,aC⟩
   exact JW (k:Nat) (0:Nat) d s H1 x (λv _=> ∃t,v=.tuple [.str t,.bool true]) ⟨⟨A,A⟩,⟨A,A⟩,⟨g _⟩,by simp;omega,by simp;omega,i,fH (a 13),by simp;omega,fH (a 13),by simp;omega,l8 (a 13),rfl,
    fH (a 24),⟨A,A⟩,fH (a 24),⟨A,A⟩,⟨A,A⟩,I,by show 2+s.length+1<=2^62;omega,_,rfl⟩
  .obtain⟨y,H2,⟨w,z⟩|⟨s,w,z⟩⟩:=J6 k m d B Y 28 2 A A A
   .have b:=(cO.dn w).pre (show bW 0 150 _ (⟨H1.M+13+1,H1.aF⟩:T) _ _ from r2 k m d 2 _ ab);rw [not (λh=> ?_)]
    .exact JZ (k:Nat) (m:Nat) d [] H1 H2 x y (λv _=> ∃t,v=.tuple [.str t,.bool false]) ⟨⟨A,A⟩,⟨A,A⟩,⟨g _⟩,by simp;omega,by simp;omega,i,fH (a 13),
     λl=>⟨fH (a 13),λo=>⟨l8 (a 13),λaM=>absurd (⟨A,A,A⟩:21<=k/\k<25/\m=0) r,λaM=>⟨ao,b,_,rfl⟩⟩,λo=>⟨ao,b,_,rfl⟩⟩,λl=>⟨ao,b,_,rfl⟩⟩
    .have:=J3 ⟨k,A⟩ (by show(11<=k/\k<=14)\/(21<=k/\k<=32);omega);obtain⟨n,cw,cy,et,il,jQ⟩:=this;exact z n.val cw n.isLt cy et il jQ
   .have b:=(cO.dn w).pre (show bW 0 150 _ (⟨H1.M+13+1,H1.aF⟩:T) _ _ from r2 k m d 2 _ ab);rw [p (by unfold r3 at z;omega)]
    exact JX (k:Nat) (m:Nat) d s H1 H2 x y (λv _=> ∃t,v=.tuple [.str t,.bool true]) ⟨⟨A,A⟩,⟨A,A⟩,⟨g _⟩,by simp;omega,by simp;omega,i,fH (a 13),
     λl=>⟨fH (a 13),λo=>⟨l8 (a 13),λaM=>absurd (⟨A,A,A⟩:21<=k/\k<25/\m=0) r,λaM=>⟨ao,b,_,rfl⟩⟩,λo=>⟨ao,b,_,rfl⟩⟩,λl=>⟨ao,b,_,rfl⟩⟩
 .have i:=(cO.dn u).pre (show bW 0 150 _ (T.bO 21 [(0,eW k m),(9,aa.an [.V 0,.V 13,.V 9,.V 127,.V 27] 1 true)]) _ _ from r1 k m d 0 _ rfl);rw [p A];exact JV (k:Nat) (m:Nat) d s H1 x (λv _=> ∃t,v=.tuple [.str t,.bool true]) ⟨⟨A,A⟩,⟨A,A⟩,⟨g _⟩,by simp;omega,by simp;omega,i,_,rfl⟩
abbrev gU(c:Int)(m:Nat):aa:=dl (bb 2 c m 0 0 [])
def LV(c:Int)(m:Nat)(d:Bytes)(i:Int)(h:T)(ab:h.get 0=some (gU c m)):bW 0 150 (iY d (.V i)) h (iY d (.V i)) (T.bO 40 [(0,gU c m)]):=by have aQ:T.rows 40 [(0,gU c m)]=T.bO 40 [(0,gU c m)]:= ao;rw [<-aQ];exact bW.drop (K:=40) (l:=[(0,gU c m)]) (by simp only [ei,hS,ab]) (by rfl) (by rfl) (by rfl) (aX.cons (by simp [bR,Go.br.b3]) (aX.cons trivial (aX.cons trivial (aX.cons trivial aX.nil)))) (aX.cons (uM _ _ _ _) aX.nil)
def LW(c:Int)(m:Nat)(d:Bytes)(i:Int)(h:T)(ab:h.get 0=some (gU c m)):bW 0 150 (hQ d (.V i)) h (hQ d (.V i)) (T.bO 90 [(0,gU c m)]):=by have aQ:T.rows 90 [(0,gU c m)]=T.bO 90 [(0,gU c m)]:= ao;rw [<-aQ];exact bW.drop (K:=90) (l:=[(0,gU c m)]) (by simp only [ei,hS,ab]) (by rfl) (by rfl) (by rfl) (aX.cons (by simp [bR,Go.br.b3]) (aX.cons trivial (aX.cons trivial aX.nil))) (aX.cons (uM _ _ _ _) aX.nil)
def Y9(c:Int)(aj:c<=0)(m:Nat)(d:Bytes)(w:d.length<100):∀(t i:Nat),6-i<=t->i<=6-> ∃v H',dd 0 150 (bu 37 0) (iY d (.V (i:Nat))) (T.bO 40 [(0,gU c m)]) (.exit 0) (iY d v) H'/\H'.get 0=some (gU c m):=by
 have fin:∀i:Nat,i=6-> ∃v H',dd 0 150 (bu 37 0) (iY d (.V (i:Nat))) (T.bO 40 [(0,gU c m)]) (.exit 0) (iY d v) H'/\H'.get 0=some (gU c m):=by intro i ah;obtain⟨e,b,Y,f,rfl,rfl,ab⟩:=yb i c (m:Nat) 0 0 d [] [] (λe b Y=>e=.exit 0/\b=iY d (.V (i:Nat))/\Y.get 0=some (gU c m)) ⟨λh=>absurd h A,λ_=>⟨rfl,rfl,rfl⟩⟩;exact⟨_,_,b2.last au f,ab⟩
 intro t;induction t with
 |zero=>exact λi n ah=>fin i A
 |succ t ih =>
  intro i n ah;by_cases l:i<6
  .obtain⟨u,a,s,Y,ag,q,r,g⟩:=J0 l;have o:((i:Int)+1)=((i+1:Nat):Int):= A
   obtain⟨e,b,p,f,rfl,rfl,ab⟩:=yb i c (m:Nat) (a:Nat) (u:Nat) d s [] (λe b Y=>e=.normal/\b=iY d (.V ((i:Int)+1))/\Y.get 0=some (gU c m))
    ⟨λ_=>⟨Y,⟨g _⟩,n4 _ _,λe=>absurd e A,λe=>⟨⟨A,A⟩,rfl,rfl,rfl⟩⟩,λh=>absurd A h⟩
   obtain⟨v,H',j,k⟩:=ih (i+1) A A;rw [o]at f;exact⟨v,H',b2.round f (LV c m d _ _ ab) j,k⟩
  .exact fin i A
def Y'(c:Int)(aj:c<=0)(m:Nat)(d:Bytes)(r:d.length<100):∀(t i:Nat),30-i<=t->2<=i->i<=30-> ∃v H',dd 0 150 (bu 37 1) (hQ d (.V (i:Nat))) (T.bO 90 [(0,gU c m)]) (.exit 2) (hQ d v) H':=by
 have fin:∀i:Nat,i=30-> ∃v H',dd 0 150 (bu 37 1) (hQ d (.V (i:Nat))) (T.bO 90 [(0,gU c m)]) (.exit 2) (hQ d v) H':=by intro i ah;obtain⟨e,a,Y,b,rfl,rfl,_⟩:=yc i c (m:Nat) 0 d [] [] [] [] (λe a Y=>e=.exit 2/\a=hQ d (.V (i:Nat))/\True) ⟨λh=>absurd h A,λ_=>⟨rfl,rfl,trivial⟩⟩;exact⟨_,_,b2.last au b⟩
 intro t;induction t with
 |zero=>exact λi k ag ah=>fin i A
 |succ t ih =>
  intro i k ag ah;by_cases j:i<30
  .have l:((i:Int)+1)=((i+1:Nat):Int):= A;have f:=J4 j
   obtain⟨e,a,q,b,rfl,rfl,ab⟩:=yc i c (m:Nat) (jv i:Nat) d [] [] [] [] (λe a Y=>e=.normal/\a=hQ d (.V ((i:Int)+1))/\Y.get 0=some (gU c m))
    ⟨λ_=>⟨λn=>⟨⟨A,A⟩,rfl,rfl,rfl⟩,λs=>⟨λo=>⟨⟨A,A⟩,rfl,rfl,rfl⟩,λu=>⟨λp=>⟨⟨A,A⟩,rfl,rfl,rfl⟩,
     λw=>⟨⟨f _⟩,n4 _ _,λe=>⟨λh=>absurd h A,λh=>⟨⟨A,A⟩,rfl,rfl,rfl⟩⟩,λe=>⟨⟨A,A⟩,rfl,rfl,rfl⟩⟩⟩⟩⟩,λh=>absurd A h⟩
   obtain⟨v,H',g⟩:=ih (i+1) A A A;rw [l]at b;exact⟨v,H',b2.round b (LW c m d _ _ ab) g⟩
  .exact fin i A
def Za{c:Int}(aj:c<=0)(hm:m<=7)(H:T):be 37 [bp ⟨2,c,m,0,0,[]⟩] H (.tuple [.str [],.bool false]) H:=by
 have b:=l' (n:=m+1) A;have hs:=j5 (n:=m+1) (k:=9) (by simp;omega);generalize decDigits (m+1)=d at hs b;have a:d.length<100:= A;obtain⟨x,H1,g,ab⟩:=Y9 c aj m d a 6 0 A A;obtain⟨y,H2,h⟩:=Y' c aj m d a 28 2 A A A;have e:=(cO.dn g).pre (show bW 0 150 _ (T.bO 21 [(0,gU c m),(9,aa.an [.V 0,.V 13,.V 9,.V 127,.V 27] 1 true)]) _ _ from LV c m d 0 _ rfl);have f:=(cO.dn h).pre (show bW 0 150 _ (⟨H1.M+13+1,H1.aF⟩:T) _ _ from LW c m d 2 _ ab);have i:∀j,(⟨H1.M+j,H1.aF⟩:T).get 0=some (gU c m):=λj=>ab
 exact bj.bU (Y5 c (m:Nat) d H1 H2 x y (λv _=>v=.tuple [.str [],.bool false]) ⟨⟨A,A⟩,⟨A,A⟩,⟨b _⟩,by simp;omega,e,fH (i 13),by simp;omega,f,rfl⟩) rfl rfl H
def DU{H:T}{p es:Nat}{cs:List J}{x:J}{t:TypeId}{ty:bw}(a:(bi.D env t).map (λd=>d.kind.isAgg)=some false)(ab:H.get p=some (aa.an [.agg cs] es true ty))(ah:cs[i]? =some x):a6 (bi.D env) t ⟨p,0,0,i,es⟩ H=some x:=by obtain⟨d,Y,ag⟩:=cb.1 a;unfold a6;rw [Y,ab];have b:(aa.an [.agg cs] es true ty).elem? 0 0=some (.agg cs):=rfl;simp only [b];simp [eK,ag,ah]
def LX{H:T}{ad:Nat}{B:aa}{x:aP}(e:H.get q=some B)(he:B.elem? ad i=some (bp x)):a6 (bi.D env) 42 ⟨q,ad,i,0,6⟩ H=some (bp x):=by have a:(bi.D env 42).map (λd=>(d.kind.isAgg,d.size))=some (true,6):= ao;obtain⟨d,Y,ag⟩:=cb.1 a;simp only [bC]at ag;unfold a6;rw [Y,e];simp only [he];simp [eK,ag.1,ag.2,bp]
end Go.Proofs.zz
namespace Go.Proofs.zz
open Go.br Go.Keys
end Go.Proofs.zz
namespace Go.Keys
end Go.Keys
namespace Go.Proofs.zz
open Go.br Go.Keys
open Go.Lib
def Zb{o v N i:Nat}(ah:i<N):iM (bi.D env) 56 (.slice (some ⟨o,v,0,0,6⟩) N N) (.V (i:Nat))=some (.ptr (some ⟨o,v,0+i,0,6⟩)):=by have Y:(bi.D env 42).map (λx=>x.size)=some 6:= ao;have ag:(bi.D env 56).map (λx=>x.kind)=some (.slice 42):= ao;obtain⟨x,b,f⟩:=cb.1 Y;obtain⟨d,a,e⟩:=cb.1 ag;have:=s9.index (o:=some ⟨o,v,0,0,6⟩) (n:=N) (c:=N) (id:=o) (ad:=v) (off:=0) (es:=6) (.inl rfl) a e b f.symm (k:= .i64) (i:=((i:Nat):Int)) A A;rw [fS]at this;exact this
end Go.Proofs.zz
namespace Go.Proofs.zz
open Go.br Go.Keys
end Go.Proofs.zz
namespace Go.Proofs.zz
open Go.br
def Zc:vK (hY Tryz.prog env 400 19 [] ⟨0,.nil⟩)=true:=by decide+kernel
def LY(H:T):be 19 [] H (.bool true) H:=by obtain⟨Z,aj⟩:=NP Zc;exact(bj.lG c6 mixed aj).bare au (b0.bool _) H
open Go.Keys Go.Lib
def DV(p:aP)(k c m x z:Int)(t:Bytes):(p.kind == k&&(p.code == c&&(p.cI == m&&(p.x == x&&(p.y == z&&(p.6 == t&&true))))))=decide (p=⟨k,c,m,x,z,t⟩):=by obtain⟨a,b,g,d,e,f⟩:=p;rw [Bool.eq_iff_iff];simp
def yH{F:bc}{nid k:Nat}{H:T}(a:ba F (.tmp k)=.agg [.str [],.bool true,.str []]):bt env cr nid (ba F) H (Op.box 29 (Operand.tmp k))=some (.ptr (some ⟨nid,0,0,0,3⟩),H.set nid (c7 [] true [])):=by
 have:bt env cr nid (ba F) H (Op.box 29 (Operand.tmp k))=bt env cr nid (λ_=> .agg [.str [],.bool true,.str []]) H (Op.box 29 (Operand.tmp k)):=by simp only [bt,a]
 exact this.trans ao
def yI{F:bc}{nid k:Nat}{H:T}{t:Bytes}(b:ba F (.tmp k)=.str t):du env nid (ba F) H (Op.convert 9 34 (Operand.tmp k))=some (.aB nid 0 0 t.length t.length,H.set nid (aa.an (aE t) 1 false)):=by have Y:(bi.D env 9).map (λd=>d.kind)=some .string:= ao;have ag:(bi.D env 34).map (λd=>d.kind)=some (.slice 5):= ao;have a:(bi.D env 5).map (λd=>d.kind)=some (.int .u8):= ao;obtain⟨g,d1,c⟩:=cb.1 Y;obtain⟨h,d2,e⟩:=cb.1 ag;obtain⟨i,d3,f⟩:=cb.1 a;simp only [du,b,mw,d1,c,d2,e,d3,f];rfl
def Zd{F:bc}{k:Nat}{x y:Bytes}{b:Bool}(a:ba F (.tmp k)=.str x)(c:x.length+y.length<2^40):hn (bi.D env) (bi.eS env) b BinOp.add 9 (ba F (.tmp k)) (.str y)=some (.str (x++y)):=by rw [a];show(if x.length+y.length<2^62 then some (J.str (x++y))else none)=_;rw [az A]
def LZ{o v N:Nat}(ah:0<N):iM (bi.D env) 56 (.slice (some ⟨o,v,0,0,6⟩) N N) (.V 0)=some (.ptr (some ⟨o,v,0,0,6⟩)):=Zb (i:=0) ah
def u2(t:Bytes):List aP:=(eB ((t++cm).length+1) true [] (t++cm)).1
def Ze{c m x z:Int}{t:Bytes}(a4:t.length<2^29)(H:T) :
 be 20 [bp ⟨4,c,m,x,z,t⟩] H (.tuple [.str (27::91::50::48::48::126::t++cm),.bool (decide (u2 t=[⟨4,c,m,x,z,t⟩])&&decide (t.length<=65536))]) H:=by
 generalize he:(⟨4,c,m,x,z,t⟩:aP)=e;have a3:cm=[27,91,50,48,49,126]:=rfl;have hlen:(t++cm).length=t.length+6:=by rw [dt];rfl
 obtain⟨H1,G⟩:∃H1:T,H1=(⟨3,.nil⟩:T).set 0 (dl (bp e)):=⟨_,rfl⟩
 have a9:H1.M=3:=by rw [G];rfl
 have g1:H1.get 0=some (dl (bp e)):=by rw [G];exact T.eD _ _ _
 obtain⟨H2,i⟩:∃H2:T,H2=(⟨H1.M+13,H1.aF⟩:T).set (H1.M+11) (c7 [] true []):=⟨_,rfl⟩
 have n2:H2.M=H1.M+13:=by rw [i];rfl
 have g2:H2.get 0=some (dl (bp e)):=by rw [i,T.dN _ _ A];exact g1
 have W:H2.get (H1.M+11)=some (c7 [] true []):=by rw [i];exact T.eD _ _ _
 obtain⟨f,g⟩:∃f:T,f=(⟨H2.M+7,H2.aF⟩:T).set (H2.M+4) (aa.an (aE (t++cm)) 1 false):=⟨_,rfl⟩
 have bn:f.M=H2.M+7:=by rw [g];rfl
 have g3:f.get 0=some (dl (bp e)):=by rw [g,T.dN _ _ A];exact g2
 have X:f.get (H1.M+11)=some (c7 [] true []):=by rw [g,T.dN _ _ A];exact W
 have O:f.get (H2.M+4)=some (aa.an (aE (t++cm)) 1 false):=by rw [g];exact T.eD _ _ _
 have qn:gJ f (λx=>if x=H1.M+11 then 2 else if x=H2.M+4 then 3 else 1) 2 (H1.M+11) [] true []:=⟨A,X,az rfl⟩
 have Df:mW f (λx=>if x=H1.M+11 then 2 else if x=H2.M+4 then 3 else 1) 3 (some ⟨H2.M+4,0,0,0,1⟩) (t++cm):=by
  refine⟨.inr ⟨H2.M+4,0,0,rfl,⟨_,O,λj L=> ?_⟩,A,?_⟩⟩
  .unfold aa.elem?;rw [az (by rw [show(aa.an (aE (t++cm)) 1 false).b6 0=(aE (t++cm)).length from rfl,gD];omega)];show(aE (t++cm))[0+j]? =_;rw [gw];generalize t++cm=l at L⊢;simp [aE,L]
  .show(if _ then _ else(if _ then _ else _))=_;rw [ai A,az rfl]
 obtain⟨d,v,a0,r,_,gl,de⟩:=qn.feed (m:=(t++cm).length) (ct:=11) Df aC aC aC (by simp only [cq];omega) au;rw [eQ]at gl;have bs:f.M<=d.M:=de.M
 have g4:d.get 0=some (dl (bp e)):=by rw [de.get 0 A (by show(if _ then _ else(if _ then _ else _)) ∉ _;rw [ai A,ai A];decide)];exact g3
 have u:∀k,a6 (bi.D env) 9 ⟨0,0,0,5,6⟩ ⟨d.M+k,d.aF⟩=some (.str t):=λk=>DU (H:=⟨d.M+k,d.aF⟩) ao g4 (by rw [<-he];rfl)
 have w:bt env cr ((⟨0,.nil⟩:T).M+0) (ba [(0,bb 4 c m x z t)]) ⟨0+3,.nil⟩ (Op.box 42 (Operand.tmp 0))=some (.ptr (some ⟨0,0,0,0,6⟩),H1):=by rw [G,<-he];exact JC rfl
 have C:a6 (bi.D env) 40 ⟨0,0,0,0,6⟩ ⟨H1.M+2,H1.aF⟩=some (.bA 4):=DU (H:=⟨H1.M+2,H1.aF⟩) ao g1 (by rw [<-he];rfl);have E:a6 (bi.D env) 9 ⟨0,0,0,5,6⟩ ⟨H2.M+7,H2.aF⟩=some (.str t):=DU (H:=⟨H2.M+7,H2.aF⟩) ao g2 (by rw [<-he];rfl);have hw:∀{F:bc}{k:Nat}{b:Bool},ba F (.tmp k)=.str (27::91::50::48::48::126::t)->hn (bi.D env) (bi.eS env) b BinOp.add 9 (ba F (.tmp k)) (.str [27,91,50,48,49,126])=some (.str (27::91::50::48::48::126::t++cm)):=λP=>Zd P (by simp only [bK,cq];omega)
 have cL:Nat.le (Nat.succ (t.length+6)) (2^62):=by show t.length+6+1<=_;omega
 have c2:Nat.le (Nat.succ (6+t.length)) (2^62):=by show 6+t.length+1<=_;omega
 have a:∀n:Nat,Nat.le 0 n:=λn=>Nat.zero_le n
 rw [<-he];refine bj.bU ?_ rfl rfl H;rcases gl.mH.ex with ⟨I,Q⟩|⟨a2,o,N,a5,ad,B,I,ab,am,R⟩
 .have s:u2 t≠[⟨4,c,m,x,z,t⟩]:=by show(eB _ _ _ _).1≠_;rw [Q];simp
  rw [ie s,Bool.false_and];rw [I]at r
  exact Y3 ⟨0,.nil⟩ H1 H2 f d 0 (H1.M+11) 0 0 0 0 c m x z t (27::91::50::48::48::126::t++cm) (.aB (H2.M+4) 0 0 (t++cm).length (t++cm).length) e (λv _=>v=.tuple [.str (27::91::50::48::48::126::t++cm),.bool false])
   (aW (a _) ⟨w,aW (a _) ⟨C,aW (a _) (aW (a _) (aW (a _) (aW (a _) (aW (a _) ⟨by rw [i];exact yH rfl,aW (a _) ⟨E,cL,by rw [g];exact yI rfl,⟨r⟩,aW (a _) ⟨rfl,aW (a _) ⟨u 24,A,c2,hw rfl,jS (a _) rfl⟩⟩⟩⟩))))⟩⟩)
 .rw [I]at r;by_cases Y:(eB ((t++cm).length+1) true [] (t++cm)).1.length=1
  .obtain⟨p,ae⟩:=List.length_eq_one_iff.1 Y;have K:=R 0 A;have S:(eB ((t++cm).length+1) true [] (t++cm)).1[0]=p:=(fun(l:List aP) (h:0<l.length) (q:l=[p])=>(by subst q;rfl:l[0]=p)) _ A ae;rw [S]at K;rw [Y]at r;have eo:a6 (bi.D env) 42 ⟨o,ad,0,0,6⟩ ⟨d.M+11,d.aF⟩=some (bp p):=LX (H:=⟨d.M+11,d.aF⟩) ab K
   have le:a6 (bi.D env) 42 ⟨0,0,0,0,6⟩ ⟨d.M+11,d.aF⟩=some (bb 4 c m x z t):=by rw [show bb 4 c m x z t=bp e by rw [<-he];rfl];exact LX (H:=⟨d.M+11,d.aF⟩) g4 rfl
   by_cases y:p=⟨4,c,m,x,z,t⟩
   .have U:u2 t=[⟨4,c,m,x,z,t⟩]:=by show(eB _ _ _ _).1=_;rw [ae,y]
    rw [iH U,Bool.true_and]
    exact Y1 ⟨0,.nil⟩ H1 H2 f d 0 (H1.M+11) o ad 0 0 c m x z t (27::91::50::48::48::126::t++cm) (.aB (H2.M+4) 0 0 (t++cm).length (t++cm).length) p (decide (t.length<=65536)) (λv _=>v=.tuple [.str (27::91::50::48::48::126::t++cm),.bool (decide (t.length<=65536))])
     (aW (a _) ⟨w,aW (a _) ⟨C,aW (a _) (aW (a _) (aW (a _) (aW (a _) (aW (a _) ⟨by rw [i];exact yH rfl,aW (a _) ⟨E,cL,by rw [g];exact yI rfl,⟨r⟩,aW (a _) ⟨LZ A,eo,N,le,A,by rw [DV,iH y],aW (a _) ⟨u 24,A,c2,hw rfl,u 24,A,by congr 2;rw [Bool.eq_iff_iff];simp only [eP];omega,λq=>jS (a _) (by rw [q]),λq=>jS (a _) (by rw [q])⟩⟩⟩⟩))))⟩⟩)
   .have s:u2 t≠[⟨4,c,m,x,z,t⟩]:=by show(eB _ _ _ _).1≠_;rw [ae];simpa using y
    rw [ie s,Bool.false_and]
    exact Y2 ⟨0,.nil⟩ H1 H2 f d 0 (H1.M+11) o ad 0 0 c m x z t (27::91::50::48::48::126::t++cm) (.aB (H2.M+4) 0 0 (t++cm).length (t++cm).length) p (λv _=>v=.tuple [.str (27::91::50::48::48::126::t++cm),.bool false])
     (aW (a _) ⟨w,aW (a _) ⟨C,aW (a _) (aW (a _) (aW (a _) (aW (a _) (aW (a _) ⟨by rw [i];exact yH rfl,aW (a _) ⟨E,cL,by rw [g];exact yI rfl,⟨r⟩,aW (a _) ⟨LZ A,eo,N,le,A,by rw [DV,ie y],aW (a _) ⟨u 24,A,c2,hw rfl,jS (a _) rfl⟩⟩⟩⟩))))⟩⟩)
  .have s:u2 t≠[⟨4,c,m,x,z,t⟩]:=by intro q;have:=dm List.length q;exact Y this
   rw [ie s,Bool.false_and]
   exact Y4 ⟨0,.nil⟩ H1 H2 f d 0 (H1.M+11) o ad 0 _ c m x z t (27::91::50::48::48::126::t++cm) (.aB (H2.M+4) 0 0 (t++cm).length (t++cm).length) e (λv _=>v=.tuple [.str (27::91::50::48::48::126::t++cm),.bool false])
    (aW (a _) ⟨w,aW (a _) ⟨C,aW (a _) (aW (a _) (aW (a _) (aW (a _) (aW (a _) ⟨by rw [i];exact yH rfl,aW (a _) ⟨E,cL,by rw [g];exact yI rfl,⟨r⟩,aW (a _) ⟨by congr 2;rw [mu];omega,aW (a _) ⟨u 24,A,c2,hw rfl,jS (a _) rfl⟩⟩⟩⟩))))⟩⟩)
def sg{h:T}{a n2:Nat}{b z2:Int}(Y:b=(a:Nat))(ag:z2=(n2:Nat)):lJ [.V b] [.V z2] h h (.str (decDigits a)) (.str (decDigits n2)) h h :=
 ⟨λq _=>by
  have:b=z2:=by simpa using q
  obtain rfl:a=n2:= A
  exact⟨rfl,rfl⟩⟩
def mo(c:Nat):Nat:=[0,1,2,0,64,65,35].getD c 0
def Zf(c:Nat)(h:c<=6):mo c<=65:=by have aj:c=0\/c=1\/c=2\/c=3\/c=4\/c=5\/c=6:= A;rcases aj with rfl|rfl|rfl|rfl|rfl|rfl|rfl<;>decide
abbrev L0:aa:=aa.an [.int .i64 0,.int .i64 1,.int .i64 2,.int .i64 0,.int .i64 64,.int .i64 65,.int .i64 35] 1 true
def L1{h:T}{q c:Nat}(ab:h.get q=some L0)(aj:c<=6):a6 (bi.D env) 3 ⟨q,0,c,0,1⟩ h=some (.V (mo c:Nat)):=by
 have a:(bi.D env 3).map (λd=>d.kind.isAgg)=some false:= ao;obtain⟨x,Y,ag⟩:=cb.1 a
 have b:L0.elem? 0 c=some (.V (mo c:Nat)):=by have aj:c=0\/c=1\/c=2\/c=3\/c=4\/c=5\/c=6:= A;rcases aj with rfl|rfl|rfl|rfl|rfl|rfl|rfl<;>rfl
 unfold a6;rw [Y,ab];simp only [b,eK,ag];simp
def L2{q c:Nat}(aj:c<=6):iM (bi.D env) 102 (.aB q 0 0 7 7) (.av (c:Nat))=some (.ptr (some ⟨q,0,c,0,1⟩)):=by have Y:(bi.D env 102).map (λd=>d.kind)=some (.slice 3):= ao;have ag:(bi.D env 3).map (λd=>d.size)=some 1:= ao;obtain⟨d,aQ,a⟩:=cb.1 Y;obtain⟨x,aZ,b⟩:=cb.1 ag;have:c<7:= A;unfold iM;simp [aQ,a,aZ,b,this,bi.D];omega
def Zg{c m x z:Int}{t:Bytes}(hm:0<=m):∃s b,∀H,be 38 [bp ⟨3,c,m,x,z,t⟩] H (.tuple [.str s,.bool b]) H:=by
 have fin:(∃v Y,be 38 [bb 3 c m x z t] ⟨0,.nil⟩ v Y/\∃s b,v=.tuple [.str s,.bool b])-> ∃s b,∀H,be 38 [bp ⟨3,c,m,x,z,t⟩] H (.tuple [.str s,.bool b]) H:=fun⟨v,Y,h,s,b,e⟩=>⟨s,b,λH=>bj.bU ⟨v,Y,h,e⟩ rfl rfl H⟩
 refine fin ?_;have no:∀v:J,v=.tuple [.str [],.bool false]-> ∃s b,v=.tuple [.str s,.bool b]:=λv h=>⟨_,_,h⟩
 by_cases ok:0<=c/\c<=6/\m<=7/\0<=x/\x<4096/\0<=z/\z<4096
 .obtain⟨g,q,r,i,u,j,w⟩:=ok;obtain⟨c,rfl⟩:=kS g;obtain⟨m,rfl⟩:=kS hm;obtain⟨x,rfl⟩:=kS i;obtain⟨z,rfl⟩:=kS j;have l:=Zf c A;have d1:=l' (n:=mo c+4*m) A;have d2:=l' (n:=x+1) A;have d3:=l' (n:=z+1) A;have o:=j5 (n:=mo c+4*m) (k:=9) (by simp;omega);have l2:=j5 (n:=x+1) (k:=9) (by simp;omega);have p:=j5 (n:=z+1) (k:=9) (by simp;omega);have aQ:((mo c+4*m:Nat):Int)=(mo c:Nat)+4* (m:Nat):= A;have aZ:((x+1:Nat):Int)=(x:Nat)+1:= A;have d:((z+1:Nat):Int)=(z:Nat)+1:= A;rw [aQ]at d1;rw [aZ]at d2;rw [d]at d3;have f:∀{a b:Bytes},a.length+b.length<2^40->(if a.length+b.length<2^62 then some (J.str (a++b))else none)=some (J.str (a++b)):=λh=>az A
  have le:∀{n:Nat},n<2^40->Nat.le (Nat.succ n) (2^62):=λh=>by show _+1<=_;omega
  refine LO (c:Nat) (m:Nat) (x:Nat) (z:Nat) t ⟨41,0,c,0,1⟩ (mo c:Nat) (decDigits (mo c+4*m)) (decDigits (x+1)) (decDigits (z+1)) (27::91::60::decDigits (mo c+4*m)++[59]) (λv _=> ∃s b,v=.tuple [.str s,.bool b])
   ⟨λ_=>no _ rfl,λ_=>⟨λ_=>no _ rfl,λ_=>⟨λ_=>no _ rfl,λ_=>⟨λ_=>no _ rfl,λ_=>⟨λ_=>no _ rfl,λ_=>⟨λ_=>no _ rfl,λ_=>⟨λ_=>no _ rfl,λ_=>⟨λ_=>⟨λ_=> ?_,λ_=> ?_⟩,λ_=>no _ rfl⟩⟩⟩⟩⟩⟩⟩⟩
  .refine⟨L2 A,L1 rfl A,⟨A,A⟩,⟨A,A⟩,⟨A,A⟩,⟨d1 _⟩,n4 _ _,le ?_,f ?_,⟨A,A⟩,⟨d2 _⟩,n4 _ _,le ?_,le ?_,⟨A,A⟩,⟨d3 _⟩,le ?_,le ?_,sg aQ.symm aZ.symm,sg aQ.symm d.symm,sg aZ.symm d.symm,_,_,rfl⟩
   all_goals
    simp only [bK,cq,dt];try show 3+_<_
    omega
  .refine⟨L2 A,L1 rfl A,⟨A,A⟩,⟨A,A⟩,⟨A,A⟩,⟨d1 _⟩,n4 _ _,le ?_,f ?_,⟨A,A⟩,⟨d2 _⟩,n4 _ _,le ?_,le ?_,⟨A,A⟩,⟨d3 _⟩,le ?_,le ?_,sg aQ.symm aZ.symm,sg aQ.symm d.symm,sg aZ.symm d.symm,_,_,rfl⟩
   all_goals
    simp only [bK,cq,dt];try show 3+_<_
    omega
 .refine LO c m x z t ⟨41,0,0,0,1⟩ 0 [] [] [] [] (λv _=> ∃s b,v=.tuple [.str s,.bool b])
   ⟨λ_=>no _ rfl,λ_=>⟨λ_=>no _ rfl,λ_=>⟨λ_=>no _ rfl,λ_=>⟨λ_=>no _ rfl,λ_=>⟨λ_=>no _ rfl,λ_=>⟨λ_=>no _ rfl,λ_=>⟨λ_=>no _ rfl,λ_=>⟨λ_=>⟨λ_=>absurd ?_ ok,λ_=>absurd ?_ ok⟩,λ_=>no _ rfl⟩⟩⟩⟩⟩⟩⟩⟩
  all_goals omega
def gj(e:aP)(ok:Bool):Prop:= ∃s,∀H,be 20 [bp e] H (.tuple [.str s,.bool ok]) H
def gj.of{e:aP}{ok:Bool}(h:∃v Y,be 20 [bp e] ⟨0,.nil⟩ v Y/\∃s,v=.tuple [.str s,.bool ok]):gj e ok:=by obtain⟨v,Y,a,s,rfl⟩:=h;exact⟨s,λH=>bj.bU ⟨_,Y,a,rfl⟩ rfl rfl H⟩
def gj.fD{e:aP}{ok:Bool}(h:∃s,be 20 [bp e] ⟨0,.nil⟩ (.tuple [.str s,.bool ok]) ⟨0,.nil⟩):gj e ok:=by obtain⟨s,a⟩:=h;exact gj.of ⟨_,_,a,s,rfl⟩
def u3{c m x z:Int}{t:Bytes}(h:7<m\/h7 ⟨1,c,m,x,z,t⟩=false\/shown c=false):enc ⟨1,c,m,x,z,t⟩=none:=by
 unfold enc;rw [ai (by show ¬(1:Int)=3;decide)];split
 .rfl
 .rename_i hm;rw [ai (by rintro ⟨_,cw,cy⟩;rcases h with h|h|h;exact hm h;rw [h]at cw;cases cw;rw [show shown c=true from cy]at h;cases h),ai (by rintro ⟨q,_⟩;exact absurd q (by show ¬(1:Int)=2;decide)),ai au,ai au,ai au,ai au]
def yJ{c m x z:Int}{t:Bytes}(h:7<m\/h7 ⟨2,c,m,x,z,t⟩=false):enc ⟨2,c,m,x,z,t⟩=none:=by
 unfold enc;rw [ai (by show ¬(2:Int)=3;decide)];split
 .rfl
 .rename_i hm;rw [ai (by rintro ⟨q,_⟩;exact absurd q (by show ¬(2:Int)=1;decide)),ai (by rintro ⟨_,q⟩;rcases h with h|h;exact hm h;rw [h]at q;cases q),ai au,ai au,ai au,ai au]
def Zh{c m x z:Int}{t:Bytes}(aM:0<=m):gj ⟨1,c,m,x,z,t⟩ (enc ⟨1,c,m,x,z,t⟩).isSome:=by
 have a:=LU ⟨1,c,m,x,z,t⟩;cases ae:h7 ⟨1,c,m,x,z,t⟩with
 |false =>
  rw [ae]at a;rw [u3 (.inr (.inl ae))];exact gj.of (YO c m x z t (λv _=> ∃s,v=.tuple [.str s,.bool false]) ⟨⟨a _⟩,_,rfl⟩)
 |true =>
  rw [ae]at a;obtain⟨m,rfl⟩:=kS aM;by_cases hm:m<=7
  .obtain⟨d,e,b⟩:=uL ae;simp only at d e b;subst d e b
   have he:(enc ⟨1,c,(m:Nat),0,0,[]⟩).isSome=shown c:=by
    cases hs:shown c with
    |true=>exact Kh hs hm
    |false=>rw [u3 (.inr (.inr hs))];rfl
   rw [he];exact gj.fD (Kg hm _)
  .rw [u3 (.inl A)];exact gj.of (YP c (m:Nat) x z t (λv _=> ∃s,v=.tuple [.str s,.bool false]) ⟨⟨a _⟩,by rw [iH A],_,rfl⟩)
def Zi{c m x z:Int}{t:Bytes}(aM:0<=m)(aj:c<2147483648):gj ⟨2,c,m,x,z,t⟩ (enc ⟨2,c,m,x,z,t⟩).isSome:=by
 have d:=LU ⟨2,c,m,x,z,t⟩;cases ae:h7 ⟨2,c,m,x,z,t⟩with
 |false =>
  rw [ae]at d;rw [yJ (.inr ae)];exact gj.of (YQ c m x z t (λv _=> ∃s,v=.tuple [.str s,.bool false]) ⟨⟨d _⟩,_,rfl⟩)
 |true =>
  rw [ae]at d;obtain⟨m,rfl⟩:=kS aM;by_cases hm:m<=7
  .obtain⟨i,e,g⟩:=uL ae;simp only at i e g;subst i e g;by_cases Y:1<=c
   .obtain⟨k,rfl⟩:=kS (show 0<=c by omega);obtain⟨s,a⟩:=Y8 (k:=k) (m:=m) A A hm ⟨0,.nil⟩;have a:∀K,be 37 [bp ⟨2,k,m,0,0,[]⟩] K (.tuple [.str s,.bool (eX k)]) K:=λK=>bj.bU ⟨_,_,a,rfl⟩ rfl rfl K
    have he:(enc ⟨2,(k:Nat),(m:Nat),0,0,[]⟩).isSome=eX k:=by
     rw [yn hm];by_cases j:k<=32
     .exact Dt hm j
     .have l:eX k=false:=by rw [gL];intro q;simp only [eX,eC,cC,Nat.ble_eq]at q;omega
      rw [l];cases f:h6 k m with
      |none=>rfl
      |some b=>have:=x7 f;omega
    rw [he];exact gj.of (Dp (k:Nat) (m:Nat) s (eX k) (λv _=> ∃s,v=.tuple [.str s,.bool (eX k)]) ⟨by simp;omega,⟨a _⟩,λh=>⟨s,by rw [h]⟩,λh=>⟨s,by rw [h]⟩⟩)
   .have a:=λK=>Za (c:=c) (m:=m) A hm K
    have he:enc ⟨2,c,(m:Nat),0,0,[]⟩=none:=by
     by_cases e:c=0
     .subst e;have:=yn (k:=0) (m:=m) hm;rw [show(((0:Nat):Int))=0 from rfl]at this;rw [this];cases f:h6 0 m with
      |none=>rfl
      |some b=>have:=x7 f;omega
     .unfold enc;rw [ai (by show ¬(2:Int)=3;decide),ai (by show ¬(7:Int)<(m:Nat);omega),ai (by rintro ⟨q,_⟩;exact absurd q (by show ¬(2:Int)=1;decide)),az ⟨rfl,rfl⟩,ai (by show ¬0<=c;omega)]
    rw [he];exact gj.of (Dp c (m:Nat) [] false (λv _=> ∃s,v=.tuple [.str s,.bool false]) ⟨by simp;omega,⟨a _⟩,λh=>(by cases h),λh=>⟨_,rfl⟩⟩)
  .rw [yJ (.inl A)];exact gj.of (YR c (m:Nat) x z t (λv _=> ∃s,v=.tuple [.str s,.bool false]) ⟨⟨d _⟩,by rw [iH A],_,rfl⟩)
def Zj{c m x z:Int}{t:Bytes}(e:t.length<2^29):∃ok,gj ⟨6,c,m,x,z,t⟩ ok:=by
 have cL:Nat.le (Nat.succ (2+t.length)) (2^62):=by show 2+t.length+1<=_;omega
 have b:(27::91::t:Bytes).length=t.length+2:=rfl;by_cases d:64<t.length+2
 .exact⟨false,gj.of (YV c m x z t (λv _=> ∃s,v=.tuple [.str s,.bool false]) ⟨cL,by rw [iH (by rw [b];omega)],_,rfl⟩)⟩
 .have a:=Ly (s:=27::91::t) (by rw [b];omega) au;generalize ep (27::91::t)=r at a;obtain⟨p,n,w⟩:=r;have c2:some (J.bool (decide (((27::91::t:Bytes).length:Int)>64)))=some (J.bool false):=by rw [ie (by rw [b];omega)]
  by_cases hw:w=0
  .by_cases aw:n=((27::91::t:Bytes).length:Int)
   .refine⟨decide (p=⟨6,c,m,x,z,t⟩),gj.of (YY c m x z t p n w (decide (p=⟨6,c,m,x,z,t⟩)) (λv _=> ∃s,v=.tuple [.str s,.bool (decide (p=⟨6,c,m,x,z,t⟩))]) ⟨cL,c2,⟨a _⟩,by rw [hw];rfl,by rw [jB.2 aw],by rw [DV],λq=>⟨_,by rw [q]⟩,λq=>⟨_,by rw [q]⟩⟩)⟩
   .exact⟨false,gj.of (YX c m x z t p n w (λv _=> ∃s,v=.tuple [.str s,.bool false]) ⟨cL,c2,⟨a _⟩,by rw [hw];rfl,by rw [mv aw],_,rfl⟩)⟩
  .exact⟨false,gj.of (YW c m x z t p n w (λv _=> ∃s,v=.tuple [.str s,.bool false]) ⟨cL,c2,⟨a _⟩,by rw [mv hw],_,rfl⟩)⟩
def Zk{e:aP}(aM:0<=e.cI)(aj:e.code<2147483648)(a:e.text.length<2^29):∃ok,gj e ok/\(e.kind=1\/e.kind=2->ok=(enc e).isSome):=by
 obtain⟨k,c,m,x,z,t⟩:=e;simp only at aM aj a⊢;by_cases d:k=1
 .subst d;exact⟨_,Zh aM,λ_=>rfl⟩
 by_cases f:k=2
 .subst f;exact⟨_,Zi aM aj,λ_=>rfl⟩
 have no:k=1\/k=2-> ∀p:Prop,p:=λh _=>(h.elim d f).elim
 by_cases i:k=3
 .subst i;obtain⟨s,b,r⟩:=Zg (c:=c) (x:=x) (z:=z) (t:=t) aM;exact⟨b,gj.of (YS c m x z t s b (λv _=> ∃s,v=.tuple [.str s,.bool b]) ⟨⟨r _⟩,λq=>⟨s,by rw [q]⟩,λq=>⟨s,by rw [q]⟩⟩),λh=>no h _⟩
 by_cases j:k=4
 .subst j;exact⟨_,⟨_,λH=>Ze a H⟩,λh=>no h _⟩
 by_cases l:k=5
 .subst l;cases g:(5 == 5&&(c == 0&&(m == 0&&(x == 0&&(z == 0&&(t ==[]&&true))))):Bool)with
  |true=>exact⟨true,gj.of (YT c m x z t (λv _=> ∃s,v=.tuple [.str s,.bool true]) ⟨by simpa using g,_,rfl⟩),λh=>no h _⟩
  |false =>
   generalize o:(5 == 5&&(c == 1&&(m == 0&&(x == 0&&(z == 0&&(t ==[]&&true))))):Bool)=b;exact⟨b,gj.of (YU c m x z t b (λv _=> ∃s,v=.tuple [.str s,.bool b]) ⟨by simpa using g,by rw [<-o],λq=>⟨[27,91,73],by rw [q]⟩,λq=>⟨[27,91,73],by rw [q]⟩⟩),λh=>no h _⟩
 by_cases n:k=6
 .subst n;obtain⟨ok,h⟩:=Zj (c:=c) (m:=m) (x:=x) (z:=z) a;exact⟨ok,h,λh=>no h _⟩
 exact⟨false,gj.of (YZ k c m x z t (λv _=> ∃s,v=.tuple [.str s,.bool false]) ⟨by rw [mv d],by rw [mv f],by rw [mv i],by rw [mv j],by rw [mv l],by rw [mv n],_,rfl⟩),λh=>no h _⟩
def Zl{e:aP}(aM:0<=e.cI)(aj:e.code<2147483648)(o:e.text.length<2^29)(H:T):be 22 [bp e] H (oK e) H:=by
 obtain⟨ok,⟨s,he⟩,w⟩:=Zk aM aj o;by_cases f:e.kind=1\/e.kind=2
 .have j:=w f;cases a:(enc e).isSome with
  |true =>
   have ae:h7 e=true/\e.cI<=7/\(e.kind=2->1<=e.code/\e.code<=32):=by
    obtain⟨k,c,m,x,z,t⟩:=e;simp only at aM aj o f⊢;rcases f with rfl|rfl
    .refine⟨?_,?_,λh=>by cases h⟩
     .cases d:h7 ⟨1,c,m,x,z,t⟩with
      |true=>rfl
      |false=>rw [u3 (.inr (.inl d))]at a;cases a
     .apply vg;intro d;rw [u3 (.inl A)]at a;cases a
    .have l:h7 ⟨2,c,m,x,z,t⟩=true:=by
      cases d:h7 ⟨2,c,m,x,z,t⟩with
      |true=>rfl
      |false=>rw [yJ (.inr d)]at a;cases a
     have hm:m<=7:=by apply vg;intro d;rw [yJ (.inl A)]at a;cases a
     refine⟨l,hm,λ_=> ?_⟩;unfold enc at a;rw [ai (by show ¬(2:Int)=3;decide),ai (by show ¬7<m;omega),ai (by rintro ⟨q,_⟩;exact absurd q (by show ¬(2:Int)=1;decide)),az ⟨rfl,l⟩]at a;split at a
     .rename_i g;have g:0<=c:=g;obtain⟨b,d⟩:=nF.1 a;have d:h6 c.toNat m.toNat=some b:=d;have:=x7 d;omega
     .cases a
   obtain⟨ae,hm,i⟩:=ae;obtain⟨r,u,p⟩:=uL ae;obtain⟨m,em⟩:=kS aM;refine WT (m:=m) ?_ A H;obtain⟨k,c,C,x,z,t⟩:=e;simp only at r u p em f i⊢;subst r u p em;rcases f with rfl|rfl
   .exact .inr ⟨c,rfl⟩
   .obtain⟨aq,a2⟩:=i rfl;obtain⟨n,rfl⟩:=kS (show 0<=c by omega);exact .inl ⟨n,A,A,rfl⟩
  |false =>
   rw [a]at j;subst j
   have aw:oK e=.tuple [.str [],.bool false]:=by unfold oK hz;rw [ai (by rw [a];rintro ⟨h,_⟩;cases h)]
   rw [aw];exact bj.bU (Y7 e.kind e.code e.cI e.x e.y e.text s (λv _=>v=.tuple [.str [],.bool false]) ⟨⟨he _⟩,rfl⟩) rfl rfl H
 .have aw:oK e=.tuple [.str [],.bool false]:=by unfold oK hz;rw [ai (by rintro ⟨_,h⟩;exact f h)]
  rw [aw];have B:e.kind≠1:=λh=>f (.inl h)
  have n2:e.kind≠2:=λh=>f (.inr h)
  exact bj.bU (Y6 e.kind e.code e.cI e.x e.y e.text s ok (λv _=>v=.tuple [.str [],.bool false]) ⟨⟨he _⟩,λq=>⟨by simp [B],by simp [n2],rfl⟩,λq=>rfl⟩) rfl rfl H
def Zm(b a c e f:Int)(d:Bytes)(g:aU)(h:bk 22 [(fQ b a c e f d)] (af 9 [(0,aL (fQ b a c e f d))]) (e2) (af 9 [(0,aL (fQ b a c e f d))])/\bk 23 [(fQ b a c e f d)] (oW b a c e f d) (x6) (oW b a c e f d)/\bk 19 [] (af 28 [(0,aL (fQ b a c e f d))]) .aK (af 28 [(0,aL (fQ b a c e f d))])/\g .aK (af 28 [(0,aL (fQ b a c e f d))])) :
 bl 5 [bb b a c e f d] bG g :=
 bm bL (ap 1001 (e2)<|ap 2001 (.tuple [.str [],.V 220])<|ap 4007 .aK .nil) h
def Zn(b a c e f:Int)(d g:Bytes)(h:aU)(i:bk 22 [(fQ b a c e f d)] (af 9 [(0,aL (fQ b a c e f d))]) (.tuple [.str g,.aK]) (af 9 [(0,aL (fQ b a c e f d))])/\bk 23 [(fQ b a c e f d)] (oW b a c e f d) (.tuple [.str g,.V 0]) (oW b a c e f d)/\(cX (g == g))/\bk 19 [] (af 29 [(0,aL (fQ b a c e f d))]) .aK (af 29 [(0,aL (fQ b a c e f d))])/\h .aK (af 29 [(0,aL (fQ b a c e f d))])) :
 bl 5 [bb b a c e f d] bG h :=
 bm bL (ap 1001 (.tuple [.str g,.aK])<|ap 2001 (.tuple [.str g,.V 0])<|ap 5005 .aK<|ap 5008 .aK .nil) i
def Zo{e:aP}(aM:0<=e.cI)(aj:e.code<2147483648)(b:e.text.length<2^29)(H:T):be 5 [bp e] H (.bool true) H:=by
 have a:=λK=>Zl aM aj b K
 have ae:=λK=>Wm aM K
 unfold oK at a;unfold h9 at ae;cases aw:hz e with
 |none =>
  rw [aw]at a ae;exact bj.bU (Zm e.kind e.code e.cI e.x e.y e.text (λv _=>v=.bool true) ⟨⟨a _⟩,⟨ae _⟩,⟨LY _⟩,rfl⟩) rfl rfl H
 |some s =>
  rw [aw]at a ae;exact bj.bU (Zn e.kind e.code e.cI e.x e.y e.text s (λv _=>v=.bool true) ⟨⟨a _⟩,⟨ae _⟩,au,⟨LY _⟩,rfl⟩) rfl rfl H
end Go.Proofs.zz
namespace Go.br
noncomputable section
open Go.RowKit Go.ChangeShapes Go.WideShapes Go.ChangeAt
def bj.law{P:Program}{C:(Nat->Prop)->World->Prop}{f:FuncId}{args:List J}{h Z:T}(k:bj P C f args h (.bool true) Z){w:World}(eh:C (λk=>k<w.heap.size) w){φ:Map}(d:cv φ (λk=>k<w.heap.size) h w){a:Array Value}(c:bo φ args a.toList) :
 Calls P f a w λe a7=>e=.returned (.bool true)/\Below w.heap.size w a7:=by
 have:=(k (λk=>k<w.heap.size) w (λ_ h=>h) eh _ w a d (Safe.refl _ _) c).2
 exact this.mono λe a7 ⟨g,i,Y,_,ag,_,b,_⟩=>by simp only [aA]at ag;subst ag;exact⟨Y,b.below⟩
end
noncomputable section
open Go.RowKit Go.ChangeShapes Go.WideShapes Go.ChangeAt
def u4(P:Program):Nat->TypeId->Nat->Option iL
 |0,_,_=>none
 |d+1,t,c =>
  match P.underlying t with
  |some (.int k)=>if c=0 then some (.int k)else none
  |some .bool=>if c=0 then some .bool else none
  |some .string=>if c=0 then some .string else none
  |some (.struct fs)=>fs.toList.findSome? λf=>if f.offset<=c/\c<f.offset+P.cellsOf f.type then u4 P d f.type (c-f.offset)else none
  |some (.array n e)=>if c/P.cellsOf e<n then u4 P d e (c%P.cellsOf e)else none
  |_=>none
def u5:iL->Value->Prop
 |.int k,v=> ∃n,v=.int k n/\(Lit.int k n).wf=true
 |.bool,v=> ∃b,v=.bool b
 |.string,v=> ∃s:ByteArray,v=.string s/\s.size<=maxLen
 |_,_=>False
section
variable {H:Type}{enc:TypeId×Value->H}{P:Program}{w:World}{base:Nat}{spare:Nat->Bool}{held:Bool}
def Zp:∀(d:Nat){t:TypeId}{c:Nat}{k:iL}{i:Nat}{cs:List Value}{x:DataW H×List MemPlace},u4 P d t c=some k->DataW.trod enc P w base spare held i t cs=some x-> ∃v,cs[c]? =some v/\u5 k v:=by
 intro d;induction d with
 |zero=>intro t c k i cs x h;cases h
 |succ d ih =>
  intro t c k i cs x h g;simp only [u4]at h;split at h
  .rename_i D hu;split at h
   .rename_i aj;subst aj;simp only [a8]at h;subst h;obtain⟨n,rfl,_,hw⟩:=DataW.trod_int hu g;exact⟨_,rfl,n,rfl,hw⟩
   .cases h
  .rename_i hu;split at h
   .rename_i aj;subst aj;simp only [a8]at h;subst h;obtain⟨b,rfl,_⟩:=DataW.trod_bool hu g;exact⟨_,rfl,b,rfl⟩
   .cases h
  .rename_i hu;split at h
   .rename_i aj;subst aj;simp only [a8]at h;subst h;obtain⟨s,rfl,_,hs⟩:=DataW.trod_string hu g;exact⟨_,rfl,s,rfl,hs⟩
   .cases h
  .rename_i fs hu;obtain⟨f,u,o⟩:=List.exists_of_findSome?_eq_some h;split at o
   .rename_i aj;obtain⟨xs,n,_,_,C,q,z⟩:=DataW.trod_struct hu g;obtain⟨j,p,y⟩:=ly.1 u;have B:fs[j]? =some f:=by rw [<-Array.getElem?_toList,ds p,y]
    have Y:=z j f B;rw [ds (by rw [q];simpa using p)]at Y;obtain⟨v,a,l⟩:=ih o Y;rw [ke]at a;split at a
    .rw [lx,show f.offset+(c-f.offset)=c by omega]at a;exact⟨v,a,l⟩
    .cases a
   .cases o
  .rename_i n e hu;split at h
   .rename_i aj;obtain⟨xs,m,_,_,C,q,r⟩:=DataW.trod_array hu g;have Y:=r _ aj;rw [ds A]at Y;obtain⟨v,a,l⟩:=ih h Y;rw [ke]at a;split at a
    .rw [lx,Nat.mul_comm,Nat.div_add_mod]at a;exact⟨v,a,l⟩
    .cases a
   .cases h
  .cases h
def Ma{t:TypeId}{ts:List TypeId}{d:DataW H}{b:List (DataW H)}{R:Nat}(h:∀y∈DataW.weightsEach P (t::ts) (d::b),y<=R):(∀y∈d.weights P t,y<=R)/\∀y∈DataW.weightsEach P ts b,y<=R :=
 ⟨λy a=>h y (by simp [DataW.weightsEach,a]),λy a=>h y (by simp [DataW.weightsEach,a])⟩
def o1:J->Int
 |.int _ n=>n
 |_=>0
def u5.int{k:IntKind}{v:Value}(h:u5 (.int k) v):fK v=.int k (o1 (fK v))/\(Lit.int k (o1 (fK v))).wf=true:=by obtain⟨n,rfl,hw⟩:=h;exact⟨rfl,hw⟩
def Mb{t:TypeId}{d sz:Nat}{ks:List iL}(aj:P.cellsOf t=sz)(m:(List.range sz).map (u4 P d t)=ks.map some){cs:Array Value}(o:cs.size=P.cellsOf t){a:DataW H}{ps:List MemPlace}
 (h:DataW.Trod enc P w base spare held t (.agg cs) a ps):(∀φ:Map,aA φ (.agg (cs.toList.map fK)) (.agg cs))/\(∀j,j<sz-> ∃v k,cs.toList[j]? =some v/\ks[j]? =some k/\u5 k v):=by
 refine⟨λφ=> ?_,λj i=> ?_⟩
 .simp only [aA];refine⟨cs,rfl,?_⟩;have:=bo.map (φ:=φ) cs.toList fK id (λx _=>vu φ x);simpa using this
 .obtain⟨c,e⟩:=h;have f:DataW.trod enc P w base spare held c t cs.toList=some (a,ps):=e;have Y:=dm (fun(l:List (Option iL))=>l[j]?) m;simp only [hD,u9 i,eE]at Y;cases b:ks[j]? with
  |none=>rw [b]at Y;cases Y
  |some k =>
   rw [b]at Y;simp at Y;obtain⟨v,n,g⟩:=Zp d Y f;exact⟨v,k,n,rfl,g⟩
end
end
noncomputable section
open Go.RowKit Go.ChangeShapes Go.WideShapes Go.ChangeAt
section
variable {H:Type}{enc:TypeId×Value->H}{P:Program}{w:World}{base:Nat}{spare:Nat->Bool}{held:Bool}
end
end
end Go.br
namespace Go.Proofs.zz
open Go.ChangeShapes Go.WideShapes Go.ChangeAt Go.RowKit
open Go.br Go.Keys
def yL:List iL:=[.int .i8,.int .i32,.int .u8,.int .i64,.int .i64,.string]
def Zq{H:Type}{l:List (DataW H)}{d:DataW H}(h:d∈l):Rows.uptoBulk d<=Rows.uptoBulkAll l:=by
 induction l with
 |nil=>cases h
 |cons a r ih =>
  simp only [Rows.uptoBulkAll];rcases dR.1 h with rfl|h
  .omega
  .have:=ih h;omega
def Mc{H:Type}{enc:TypeId×Value->H}{P:Program}{w:World}{base:Nat}{spare:Nat->Bool}{held:Bool}{t:TypeId}{fs:Array Field}{f:Field}{j d:Nat}{cs:List Value}{x:DataW H×List MemPlace}(i:P.underlying t=some (.struct fs))(b:fs[j]? =some f)(hu:P.underlying f.type=some .string)(aj:P.cellsOf f.type=1)
 (k:DataW.trod enc P w base spare held d t cs=some x):∃s:ByteArray,cs[f.offset]? =some (.string s)/\s.size<=Rows.uptoBulk x.1:=by
 obtain⟨xs,n,_,he,p,o,g⟩:=DataW.trod_struct i k;have Y:=g j f b;have h:=(Array.getElem?_eq_some_iff.1 b).1;have c:j<xs.length:=by rw [o];simpa using h
 rw [ds c,aj]at Y;obtain⟨s,e,m,hs⟩:=DataW.trod_string hu Y;refine⟨s,?_,?_⟩
 .have:((cs.drop f.offset).take 1)[0]? =some (.string s):=by rw [e];rfl
  rw [ke,az aC,lx]at this;simpa using this
 .subst he;have a:=Zq (l:=xs.map (·.1)) (dV.2 ⟨_,ic c,rfl⟩);rw [m]at a;simp only [Rows.uptoBulk]at a⊢;have:s.size=s.data.toList.length:=by show s.data.size=_;exact fy.symm
  omega
def Md{cs:Array Value}{h:T}{s:ByteArray}(hs:cs.size=6)(he:∀j,j<6-> ∃v k,cs.toList[j]? =some v/\yL[j]? =some k/\u5 k v)(i:cs.toList[5]? =some (.string s))(g:s.size<=1048576) :
 ∃Z,be 5 [.agg (cs.toList.map fK)] h (.bool true) Z:=by
 obtain⟨v0,l,q,a0,ar⟩:=he 0 A;obtain⟨v1,m,r,aq,aN⟩:=he 1 A;obtain⟨v2,n,l2,a2,bx⟩:=he 2 A;obtain⟨v3,o,t,a3,b⟩:=he 3 A;obtain⟨v4,p,u,a4,c⟩:=he 4 A
 have d:cs.toList=[v0,v1,v2,v3,v4,.string s]:=by
  apply o9;intro j;rcases gK j 6 with h|h
  .have aj:j=0\/j=1\/j=2\/j=3\/j=4\/j=5:= A;rcases aj with rfl|rfl|rfl|rfl|rfl|rfl<;>assumption
  .rw [ib (by rw [fy];omega),ib (by simpa using h)]
 simp only [yL,fR,hj,a8]at a0 aq a2 a3 a4;subst a0 aq a2 a3 a4
 have e:J.agg (cs.toList.map fK)=bp ⟨o1 (fK v0),o1 (fK v1),o1 (fK v2),o1 (fK v3),o1 (fK v4),s.data.toList⟩:=by rw [d];show J.agg [fK v0,fK v1,fK v2,fK v3,fK v4,fK (.string s)]=_;rw [ar.int.1,aN.int.1,bx.int.1,b.int.1,c.int.1];rfl
 rw [e];have a:=bx.int.2;have f:=aN.int.2;simp [Lit.wf,IntKind.min,IntKind.max,IntKind.signed,IntKind.bits]at f a;have:s.size=s.data.toList.length:=by show s.data.size=_;exact fy.symm
 exact⟨h,Zo a.1 (by show o1 (fK v1)<_;omega) (by show s.data.toList.length<_;omega) h⟩
end Go.Proofs.zz
namespace Go.Proofs.zz
open Go.ChangeShapes Go.WideShapes Go.RowKit Go.Stop
open Go.br
def Zr:(Tryz.prog.globals[5]?).map (·.type)=some 179:= ao
def Zs:Tryz.prog.cellsOf 179=20:= ao
def Zt:Tryz.prog.cellsOf 151=1:= ao
variable {W:World}
def Zu(h:laidMetH Tryz.prog Rows.keysPiecesRow.laid W):Lib.TabIs Tryz.prog W "internal/strconv.uint64pow10" .u64 Lib.pow10Tab:=by rw [MakeChecks.laidMetH_plain _ _ _ ao]at h;exact Lib.tabIs_of_head z7 Zr Tryz.underlying179 Tryz.underlying151 Zt Zs (laidMet.tail (laidMet.tail h))
noncomputable def u6(os:Os):World :=
 {World.doorLaid Tryz.prog 96 os with heap:=(World.doorLaid Tryz.prog 96 os).heap.modify 8 fun
  |.cells _ t frozen=> .cells (Go.Pinned.utf8FirstZ.map fun(z:Nat)=>Value.int .u8 (z:Int)).toArray t frozen
  |o=>o}
def Zv{P:Program}{w:World}{l:List (String×DataW Unit)}(b c:Nat)(h:(DataW.laidRun P w b (l.map (·.1))).bind (λx=>if nodupBits c x.2 0&&laidRowsB P w x.2 then some x.1 else none)=some l):laidMet P l w:=by
 simp only [Option.bind_eq_some_iff]at h;obtain⟨x,e,d⟩:=h;split at d
 .rename_i a;simp only [cC]at a;simp only [a8]at d;exact laidMet_of_run (ps:=x.2) b (by rw [e,<-d]) (iH (nodupBits_sound a.1).1) a.2
 .cases d
def yK(os:Os)(args:Array Value):laidMetH Tryz.prog Rows.keysPiecesRow.laid ((u6 os).forCall (λ_ _=>0) ⟨#[],args,[]⟩).memory:=by rw [MakeChecks.laidMetH_plain _ _ _ ao];exact Zv 8 257 ao
def Zw:(Tryz.prog.globals[0]?).map (·.type)=some 113:= ao
def Zx:Tryz.prog.cellsOf 113=256:= ao
def Zy:Tryz.prog.cellsOf 5=1:= ao
def L3:Tryz.prog.globalNamed "strconv.ErrSyntax" =some 3:= ao
def L4:Tryz.prog.globalNamed "strconv.ErrRange" =some 4:= ao
def Zz:(Tryz.prog.globals[3]?).map (·.type)=some 89:= ao
def ZA:(Tryz.prog.globals[4]?).map (·.type)=some 89:= ao
def L5: "*" ++ "errors.errorString" = "*errors.errorString" := aC
def L6(u:TypeId)(h:Tryz.prog.typeName? 3 u=some "*errors.errorString"):u=187 :=
 typeName_ptr_named (nm:= "errors.errorString") (by rw [L5];kernel_rfl) ao aC u (by rw [L5];exact h)
def L7:Tryz.prog.cellsOf 189=1:= ao
def strCells:Tryz.prog.cellsOf 9=1:= ao
def L8{P:Program}{n:String}{g:Nat}{v:Value}(ab:P.globalNamed n=some g)(h:W.var? P n=some #[v]):W.cell? ⟨g,0,none⟩=some v/\g<W.heap.size:=by
 unfold World.var? at h;rw [ab]at h;simp only [qw]at h;split at h
 .rename_i cs t f a;simp only [a8]at h;subst h;refine⟨by simp [World.cell?,a],(Array.getElem?_eq_some_iff.1 a).1⟩
 .cases h
def L9{n:String}{g:Nat}{k:IntKind}{t:List Int}(ab:Tryz.prog.globalNamed n=some g)(h:Lib.TabIs Tryz.prog W n k t):g<W.heap.size:=by
 unfold Lib.TabIs World.var? at h;rw [ab]at h;simp only [qw]at h;rcases gK g W.heap.size with k|k
 .exact k
 .rw [o' k]at h;cases h
def qL{g:Nat}(h:∃m,W.cell? ⟨g,0,none⟩=some (.int .i64 m)):g<W.heap.size:=by
 obtain⟨m,e⟩:=h;rcases gK g W.heap.size with k|k
 .exact k
 .simp [World.cell?,o' k]at e
def L'(h:laidMetH Tryz.prog Rows.keysPiecesRow.laid W)(e:∃m,W.cell? ⟨2,0,none⟩=some (.int .i64 m)):cz (λk=>k<W.heap.size) W:=by have ae:=Zu h;rw [MakeChecks.laidMetH_plain _ _ _ ao]at h;have b:=laidMet.tail (laidMet.tail (laidMet.tail (laidMet.tail h)));obtain⟨a,s,g,_⟩:=laid_sentinel b L4 ZA Tryz.underlying89 L6 Tryz.underlying187 Tryz.underlying189 rfl rfl Tryz.underlying9 L7 strCells;have c:=laidMet.tail b;obtain⟨a2,s2,hs,_⟩:=laid_sentinel c L3 Zz Tryz.underlying89 L6 Tryz.underlying187 Tryz.underlying189 rfl rfl Tryz.underlying9 L7 strCells;have f:=laidMet.tail (laidMet.tail c);have d:Lib.TabIs Tryz.prog W "strings.asciiSpace" .u8 Lib.asciiSpaceTab:=Lib.tabIs_of_head z8 Zw Tryz.underlying113 Tryz.underlying5 Zy Zx (zs:=Lib.asciiSpaceTab) f;obtain⟨i,j⟩:=L8 L4 g;obtain⟨s1,s2⟩:=L8 L3 hs;exact⟨L9 z7 ae,ae,L9 z8 d,d,s2,⟨_,_,s1⟩,j,⟨_,_,i⟩,qL e,e⟩
end Go.Proofs.zz
