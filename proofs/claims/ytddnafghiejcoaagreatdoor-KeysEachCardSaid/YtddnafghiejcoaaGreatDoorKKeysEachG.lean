/-
  Parts of the proof of KeysEach.
-/
import Derived.Shelf.Strings.Search3
import Derived.Test.YtddnafghiejcoaaGreatDoorKKeysEachF
set_option linter.unusedVariables false
set_option linter.unusedSimpArgs false
namespace Go.Keys
open Go.Lib
def Scalar(r:Nat):Prop:=r<55296∨(57343<r∧r≤1114111)
theorem lS{n:Nat}(h:n<256):(u8 n).toNat=n:=by unfold u8;rw [UInt8.toNat_ofNat'];omega
theorem put_eq{r:Nat}(an:Scalar r):put r=if r<128 then [u8 r]else if r<2048 then [u8 (192+r/64),u8 (128+r%64)]
 else if r<65536 then [u8 (224+r/4096),u8 (128+r/64%64),u8 (128+r%64)]
 else [u8 (240+r/262144),u8 (128+r/4096%64),u8 (128+r/64%64),u8 (128+r%64)]:=by
 unfold Scalar at an;have e:(if 55296≤r∧r≤57343∨1114111<r then 65533 else r)=r:=if_neg (by omega);unfold put;simp only [e]
theorem rs{r:Nat}(h:r<128):put r=[u8 r]:=by rw [put_eq (.inl (by omega)),if_pos h]
theorem uT{r:Nat}(p:128≤r)(h:r<2048):put r=[u8 (192+r/64),u8 (128+r%64)]:=by rw [put_eq (.inl (by omega)),if_neg (by omega),if_pos h]
theorem s4{r:Nat}(an:Scalar r)(p:2048≤r)(h:r<65536):put r=[u8 (224+r/4096),u8 (128+r/64%64),u8 (128+r%64)]:=by rw [put_eq an,if_neg (by omega),if_neg (by omega),if_pos h]
theorem uU{r:Nat}(an:Scalar r)(p:65536≤r):put r=[u8 (240+r/262144),u8 (128+r/4096%64),u8 (128+r/64%64),u8 (128+r%64)]:=by rw [put_eq an,if_neg (by omega),if_neg (by omega),if_neg (by omega)]
theorem acp{n:Nat}(h:n<128):lead n=(1,0,0):=by unfold lead;rw [if_pos h]
theorem acq{n:Nat}(p:194≤n)(h:n≤223):lead n=(2,128,191):=by unfold lead;rw [if_neg (by omega),if_pos ⟨p,h⟩]
theorem acr{n:Nat}(p:224≤n)(h:n≤239):lead n=(3,if n=224 then 160 else 128,if n=237 then 159 else 191):=by
 unfold lead;rw [if_neg (by omega),if_neg (by omega)];by_cases a:n=224
 ·rw [if_pos a,if_pos a,if_neg (by omega)]
 ·rw [if_neg a,if_neg a];by_cases b:n=237
  ·rw [if_pos b,if_pos b]
  ·rw [if_neg b,if_neg b,if_pos (by omega)]
theorem acs{n:Nat}(p:240≤n)(h:n≤244):lead n=(4,if n=240 then 144 else 128,if n=244 then 143 else 191):=by
 unfold lead;rw [if_neg (by omega),if_neg (by omega),if_neg (by omega),if_neg (by omega),if_neg (by omega)];by_cases a:n=240
 ·rw [if_pos a,if_pos a,if_neg (by omega)]
 ·rw [if_neg a,if_neg a];by_cases b:n=244
  ·rw [if_neg (by omega),if_pos b,if_pos b]
  ·rw [if_pos (by omega),if_neg b]
structure Is(r:Nat):Prop where
 whole:first (put r)=(r,(put r).length,false)
 parts:∀k,0<k→k<(put r).length→(first ((put r).take k)).2.2=true
 acu:1<(put r).length→ ∀b∈put r,128≤b.toNat
theorem It(i a1 ak v:Nat)(l:Bytes):tail 0 i a1 ak v l=(v,i,false):=by unfold tail;rfl
theorem tail_nil(k i a1 ak v:Nat):tail (k+1) i a1 ak v []=(65533,i,true):=rfl
theorem py{k i a1 ak v:Nat}{c:UInt8}{r:Bytes}(p:a1≤c.toNat)(ad:c.toNat≤ak):tail (k+1) i a1 ak v (c::r)=tail k (i+1) 128 191 (v*64+c.toNat%64) r:=by rw [tail,if_neg (by omega)]
theorem qC{b:UInt8}{r:Bytes}{k a1 ak:Nat}(h:lead b.toNat=(k+2,a1,ak)):first (b::r)=tail (k+1) 1 a1 ak (b.toNat%2^(7- (k+2))) r:=by simp only [first,h];rw [if_neg (by omega),if_neg (by omega)];rfl
theorem chars{r:Nat}(an:Scalar r):Is r:=by
 have ez:=an;unfold Scalar at ez;by_cases p:r<128
 ·rw [show Is r=Is r from rfl];refine⟨?_,?_,?_⟩
  ·rw [rs p];simp only [first,lS (show r<256 by omega),acp p];rfl
  ·rw [rs p];intro k a b;simp only [List.length_cons,List.length_nil]at b;omega
  ·rw [rs p];intro a;simp at a
 by_cases ad:r<2048
 ·have e:=uT (by omega) ad;have a0:(u8 (192+r/64)).toNat=192+r/64:=lS (by omega);have ao:(u8 (128+r%64)).toNat=128+r%64:=lS (by omega);have nr:lead (u8 (192+r/64)).toNat=(0+2,128,191):=by rw [a0];exact acq (by omega) (by omega)
  refine⟨?_,?_,?_⟩
  ·rw [e,qC nr,py (by omega) (by omega),It,a0,ao];simp only [List.length_cons,List.length_nil,Prod.mk.injEq,and_true,Nat.reduceAdd];omega
  ·intro k c d;rw [e]at d⊢;simp only [List.length_cons,List.length_nil]at d;obtain rfl:k=1:=by omega
   show(first [_]).2.2=true;rw [qC nr,tail_nil]
  ·rw [e];intro _ b au;simp only [List.mem_cons,List.not_mem_nil,or_false]at au;rcases au with rfl|rfl<;>omega
 by_cases bd:r<65536
 ·have e:=s4 an (by omega) bd;have a0:(u8 (224+r/4096)).toNat=224+r/4096:=lS (by omega);have ao:(u8 (128+r/64%64)).toNat=128+r/64%64:=lS (by omega);have a2:(u8 (128+r%64)).toNat=128+r%64:=lS (by omega);have nr:lead (u8 (224+r/4096)).toNat=(1+2,if 224+r/4096=224 then 160 else 128,if 224+r/4096=237 then 159 else 191):=by rw [a0];exact acr (by omega) (by omega)
  refine⟨?_,?_,?_⟩
  ·rw [e,qC nr,py (by rw [ao];split<;>omega) (by rw [ao];split<;>omega),py (by omega) (by omega),It,a0,ao,a2];simp only [List.length_cons,List.length_nil,Prod.mk.injEq,and_true,Nat.reduceAdd];omega
  ·intro k c d;rw [e]at d⊢;simp only [List.length_cons,List.length_nil]at d;rcases (show k=1∨k=2 by omega)with rfl|rfl
   ·show(first [_]).2.2=true;rw [qC nr,tail_nil]
   ·show(first [_,_]).2.2=true;rw [qC nr,py (by rw [ao];split<;>omega) (by rw [ao];split<;>omega),tail_nil]
  ·rw [e];intro _ b au;simp only [List.mem_cons,List.not_mem_nil,or_false]at au;rcases au with rfl|rfl|rfl<;>omega
 ·have e:=uU an (by omega);have a0:(u8 (240+r/262144)).toNat=240+r/262144:=lS (by omega);have ao:(u8 (128+r/4096%64)).toNat=128+r/4096%64:=lS (by omega);have a2:(u8 (128+r/64%64)).toNat=128+r/64%64:=lS (by omega);have a3:(u8 (128+r%64)).toNat=128+r%64:=lS (by omega);have nr:lead (u8 (240+r/262144)).toNat=(2+2,if 240+r/262144=240 then 144 else 128,if 240+r/262144=244 then 143 else 191):=by rw [a0];exact acs (by omega) (by omega)
  refine⟨?_,?_,?_⟩
  ·rw [e,qC nr,py (by rw [ao];split<;>omega) (by rw [ao];split<;>omega),py (by omega) (by omega),py (by omega) (by omega),It,a0,ao,a2,a3];simp only [List.length_cons,List.length_nil,Prod.mk.injEq,and_true,Nat.reduceAdd];omega
  ·intro k c d;rw [e]at d⊢;simp only [List.length_cons,List.length_nil]at d;rcases (show k=1∨k=2∨k=3 by omega)with rfl|rfl|rfl
   ·show(first [_]).2.2=true;rw [qC nr,tail_nil]
   ·show(first [_,_]).2.2=true;rw [qC nr,py (by rw [ao];split<;>omega) (by rw [ao];split<;>omega),tail_nil]
   ·show(first [_,_,_]).2.2=true;rw [qC nr,py (by rw [ao];split<;>omega) (by rw [ao];split<;>omega),py (by omega) (by omega),tail_nil]
  ·rw [e];intro _ b au;simp only [List.mem_cons,List.not_mem_nil,or_false]at au;rcases au with rfl|rfl|rfl|rfl<;>omega
theorem Cg(r:Nat):put r≠[]:=by intro h;have:=L1 r;rw [h]at this;simp at this
theorem acv{r:Nat}(an:Scalar r):eJ (put r)=[r]:=by
 have h:=(chars an).whole;unfold eJ;cases ac:put r with
 |nil=>exact absurd ac (Cg r)
 |cons b t =>
  rw [ac]at h;show js (t.length+1) (b::t)=_;unfold js;simp only [h];rw [show(b::t).drop (b::t).length=[]by simp];cases t.length<;>rfl
theorem P'{r:Nat}(an:Scalar r):valid (put r)=true:=by unfold valid;rw [acv an];simp [gn]
theorem Qa{k:Nat}{x:Bytes}(ae:x≠[]):hB (k+1) x=if(first x).2.2 then([],x)else((first x).1::(hB k (x.drop (first x).2.1)).1,(hB k (x.drop (first x).2.1)).2):=by
 cases x with
 |nil=>exact absurd rfl ae
 |cons b r=>rfl
theorem acw{r:Nat}(an:Scalar r){h:Bytes}{c:UInt8}(e:put r=h++[c]):cl h c=([r],[]):=by have w:=(chars an).whole;unfold cl;rw [Qa (by simp),←e,w];simp [uN]
theorem xc{h:Bytes}{c:UInt8}(e:(first (h++[c])).2.2=true):cl h c=([],h++[c]):=by unfold cl;rw [Qa (by simp),if_pos e]
def Ch(I:Bytes):Prop:=I=[]∨I=[27]
theorem acx{I x:Bytes}(h:Ch I)(ae:x.head? ≠some 27):at' (I++x)=I.length:=by
 rcases h with rfl|rfl
 ·cases x with
  |nil=>rfl
  |cons b r =>
   simp only [List.head?_cons,ne_eq,Option.some.injEq]at ae;simp [at',ae]
 ·simp [at']
theorem Qb(I x:Bytes):(I++x).drop I.length=x:=by simp
theorem Iu{r:Nat}(an:Scalar r){I h:Bytes}(ac:Ch I){c:UInt8}(e:put r=h++[c])(bW:(put r).head? ≠some 27){cp:mZ}(no:bO→bO×List bj):gD ⟨cp,I++h,h,[]⟩ c no=(zero,[fe r (2*I.length)]):=by
 have acy:h.head? ≠some 27:=by
  cases h with
  |nil=>simp
  |cons b t=>rw [e]at bW;simpa using bW
 have aT:at' (I++h)=I.length:=acx ac acy;unfold gD;simp only [acw an e,aT];rw [if_neg (by simp),if_pos (.inr (by rw [Qb,←e];exact P' an)),List.append_assoc,Qb,←e,if_pos (P' an)];rfl
theorem Iv{I h:Bytes}{c:UInt8}(e:(first (h++[c])).2.2=true){cp:mZ}(no:bO→bO×List bj):gD ⟨cp,I++h,h,[]⟩ c no=(⟨.dd,I++(h++[c]),h++[c],[]⟩,[]):=by unfold gD;simp only [xc e];rw [if_pos (by simp),List.append_assoc]
theorem Qc{r:Nat}(an:Scalar r){I:Bytes}(ac:Ch I)(bW:(put r).head? ≠some 27):∀(t h:Bytes),put r=h++t→h≠[]→t≠[]→dh ⟨.dd,I++h,h,[]⟩ t=(zero,[fe r (2*I.length)])
 |[],h,_,_,bX=>absurd rfl bX
 |[c],h,e,_,_=>by rw [vu];show gD ⟨.dd,I++h,h,[]⟩ c (fun s1=>bad s1 c)=_;exact Iu an ac e bW _
 |c ::d::t,h,e,bm,_=>by
  have bn:put r=(h++[c])++(d::t):=by rw [e];simp
  have ab:(first (h++[c])).2.2=true:=by
   have:=(chars an).parts (h++[c]).length (by simp) (by rw [bn];simp)
   rwa [bn,List.take_left]at this
  have j8:step ⟨.dd,I++h,h,[]⟩ c=(⟨.dd,I++(h++[c]),h++[c],[]⟩,[]):=by show gD ⟨.dd,I++h,h,[]⟩ c (fun s1=>bad s1 c)=_;exact Iv ab _
  rw [dh,j8];simp only [List.nil_append];rw [Qc an ac bW (d::t) (h++[c]) bn (by simp) (by simp)]
theorem Qd{r:Nat}(an:Scalar r){I:Bytes}(ac:Ch I)(mA:32≤r)(om:r≠127){cp:mZ}(no:bO→bO×List bj){c:UInt8}{t:Bytes}(e:put r=c::t) :
 dh (gD ⟨cp,I,[],[]⟩ c no).1 t=(zero,if t=[]then []else [fe r (2*I.length)])∧(gD ⟨cp,I,[],[]⟩ c no).2=(if t=[]then [fe r (2*I.length)]else [])∧32≤c.toNat∧c.toNat≠127∧(t≠[]→128≤c.toNat)∧(t=[]→c=u8 r∧r<128):=by
 have av : 32≤c.toNat∧c.toNat≠127∧(t≠[]→128≤c.toNat)∧(t=[]→c=u8 r∧r<128):=by
  by_cases bX:t=[]
  ·subst bX
   have bb:r<128:=by
    rcases Nat.lt_or_ge r 128 with h|h
    ·exact h
    ·exfalso;have az:(put r).length=1:=by rw [e];rfl
     rcases Nat.lt_or_ge r 2048 with ad|ad
     ·rw [uT h ad]at az;simp at az
     ·rcases Nat.lt_or_ge r 65536 with bd|bd
      ·rw [s4 an ad bd]at az;simp at az
      ·rw [uU an bd]at az;simp at az
   rw [rs bb]at e;simp only [List.cons.injEq,and_true]at e;subst e;rw [lS (by omega)];exact⟨mA,om,fun h=>absurd rfl h,fun _=>⟨rfl,bb⟩⟩
  ·have p:1<(put r).length:=by rw [e];simp only [List.length_cons];have:=List.length_pos_iff.2 bX;omega
   have:=(chars an).acu p c (by rw [e];simp);exact⟨by omega,by omega,fun _=>this,fun h=>absurd h bX⟩
 have bW:(put r).head? ≠some 27:=by rw [e];intro q;simp only [List.head?_cons,Option.some.injEq]at q;subst q;exact absurd av.1 (by decide)
 have ap:I=I++[]:=by simp
 refine⟨?_,?_,av⟩
 ·by_cases bX:t=[]
  ·subst bX;have:=Iu an ac (h:=[]) (by simpa using e) bW (cp:=cp) no;rw [←ap]at this;rw [this];rfl
  ·have ab:(first ([]++[c])).2.2=true:=by have:=(chars an).parts 1 (by decide) (by rw [e];simp only [List.length_cons];have:=List.length_pos_iff.2 bX;omega);rw [e]at this;simpa using this
   have:=Iv (I:=I) (h:=[]) ab (cp:=cp) no;rw [←ap]at this;rw [this,if_neg bX];exact Qc an ac bW t _ (by simpa using e) (by simp) bX
 ·by_cases bX:t=[]
  ·subst bX;have:=Iu an ac (h:=[]) (by simpa using e) bW (cp:=cp) no;rw [←ap]at this;rw [this];rfl
  ·have ab:(first ([]++[c])).2.2=true:=by have:=(chars an).parts 1 (by decide) (by rw [e];simp only [List.length_cons];have:=List.length_pos_iff.2 bX;omega);rw [e]at this;simpa using this
   have:=Iv (I:=I) (h:=[]) ab (cp:=cp) no;rw [←ap]at this;rw [this,if_neg bX]
theorem yE{r:Int}(h:shown r=true):Scalar r.toNat∧32≤r.toNat∧r.toNat≠127∧(r.toNat:Int)=r:=by simp only [shown,Bool.and_eq_true,Bool.or_eq_true,decide_eq_true_eq]at h;unfold Scalar;omega
theorem acz{r:Nat}(an:Scalar r)(mA:32≤r)(om:r≠127):dh zero (put r)=(zero,[fe r 0]):=by
 cases e:put r with
 |nil=>exact absurd e (Cg r)
 |cons c t =>
  obtain⟨p,ad,bd,bS,_⟩:=Qd an (.inl rfl) mA om (cp:= .ground) (fun s1=>tell s1 (gV s1.kept)) e
  have j8:step zero c=gD ⟨.ground,[],[],[]⟩ c (fun s1=>tell s1 (gV s1.kept)):=by show ground zero c=_;unfold ground;rw [if_neg (by rintro rfl;exact absurd bd (by decide))];unfold ix;rw [if_neg (by omega)];rfl
  rw [dh,j8,p,ad];by_cases bX:t=[]<;>simp [bX]
theorem acA{r:Nat}(an:Scalar r)(mA:32≤r)(om:r≠127)(Iw:r≠91)(Ix:r≠79):dh zero (27::put r)=(zero,[fe r 2]):=by
 cases e:put r with
 |nil=>exact absurd e (Cg r)
 |cons c t =>
  obtain⟨p,ad,bd,bS,bI,dx⟩:=Qd an (.inr rfl) mA om (cp:= .du) (fun s1=>bad s1 c) e
  have n:∀k:UInt8,k.toNat≠r→k.toNat<128→c≠k:=by
   rintro k ap cB rfl;by_cases bX:t=[]
   ·obtain⟨a,b⟩:=dx bX;rw [a,lS (by omega)]at ap;exact ap rfl
   ·have:=bI bX;omega
  have j8:step ⟨.du,[27],[],[]⟩ c=gD ⟨.du,[27],[],[]⟩ c (fun s1=>bad s1 c):=by show du _ c=_;unfold du;rw [if_neg (by rintro rfl;exact absurd bd (by decide)),if_neg (n 91 (fun h=>Iw h.symm) (by decide)),if_neg (n 79 (fun h=>Ix h.symm) (by decide))];unfold plain ix;rw [if_neg (by omega)]
  have h6:step zero 27=(⟨.du,[27],[],[]⟩,[]):=rfl;rw [dh,h6];simp only [List.nil_append];rw [dh,j8,p,ad];by_cases bX:t=[]<;>simp [bX]
end Go.Keys
namespace Go.Proofs.YtddnafghiejcoaaGreatDoor
open Go.cM Go.Keys Go.Lib
set_option maxRecDepth 1000000
theorem yF(a:Nat):Int.tmod (a:Int) 100=((a%100:Nat):Int):=rfl
theorem yG(a:Nat):Int.tdiv (a:Int) 100=((a/100:Nat):Int):=rfl
theorem Ci(a:Nat):Int.tmod (a:Int) 10000=((a%10000:Nat):Int):=rfl
theorem Cj(a:Nat):Int.tdiv (a:Int) 10000=((a/10000:Nat):Int):=rfl
theorem tA{u:Nat}(h:10≤u):decDigits u=decDigits (u/10)++[u8 (48+u%10)]:=by rw [decDigits,dif_neg (by omega)];rfl
theorem tB{u:Nat}(h:u<10):decDigits u=[u8 (48+u)]:=by rw [decDigits,dif_pos h];rfl
theorem Ck{n:Nat}(h:n<256):((u8 n).toNat:Int)=(n:Nat):=by rw [lS h]
theorem oo{I:Nat}(h:I<100):((UInt8.toNat (List.getD h4 (Int.toNat ((I:Int)*2)) 0):Nat):Int)=((48+I/10:Nat):Int):=by
 have e:Int.toNat ((I:Int)*2)=I*2:=by omega
 rw [e];show((sm (I*2)).toNat:Int)=_;rw [sm_hi I h];exact Ck (by omega)
theorem oq{I:Nat}(h:I<100):((UInt8.toNat (List.getD h4 (Int.toNat ((I:Int)*2+1)) 0):Nat):Int)=((48+I%10:Nat):Int):=by
 have e:Int.toNat ((I:Int)*2+1)=I*2+1:=by omega
 rw [e];show((sm (I*2+1)).toNat:Int)=_;rw [sm_lo I h];exact Ck (by omega)
theorem ot{n:Nat}(h:n≤4294967295):ik .u32 (n:Int):=⟨by show(0:Int)≤_;omega,by show _≤(4294967295:Int);omega⟩
theorem yH{u:Nat}(h:u<10):aL (decDigits u)=[.int .u8 ((48+u:Nat):Int)]:=by rw [tB h];show [o.int .u8 ((u8 (48+u)).toNat:Int)]=_;rw [Ck (by omega)]
theorem jf{u:Nat}(h:10≤u):aL (decDigits u)=aL (decDigits (u/10))++[.int .u8 ((48+u%10:Nat):Int)]:=by rw [tA h];show List.map _ (_++_)=_;rw [List.map_append];show _++[o.int .u8 ((u8 (48+u%10)).toNat:Int)]=_;rw [Ck (by omega)];rfl
def iM(u kK:Nat):R:=px (aL (decDigits u)++List.replicate (24-kK) g')
theorem acB{u:Nat}(p:100≤u)(ad:u<1000):aI Tryz.prog aw 121 [.slice (some ⟨0,0,0,1,24⟩) 3 24,.int .u64 u] (j.rows 1 [(0,kJ)]) (.tuple []) (j.ar 46 [(0,iM u 3)]):=by
 obtain⟨v,aa,aC,rfl,rfl⟩:=acj u (fun v aa=>v=.tuple []∧aa=j.ar 46 [(0,iM u 3)]) (by
  simp only [yF,yG,oo (show u%100<100 by omega),oq (show u%100<100 by omega)];refine⟨by omega,by omega,by omega,⟨by omega,ot (by omega)⟩,by omega,by omega,by omega,by omega,by omega,True.intro,?_⟩;unfold iM px;rw [jf (by omega),jf (by omega),yH (by omega),Nat.div_div_eq_div_mul];simp only [show 10*10=100 from rfl,show u/10%10=u%100/10 by omega,show u%10=u%100%10 by omega]
  rfl)
 exact aC
theorem acC{u:Nat}(p:1000≤u)(ad:u<10000):aI Tryz.prog aw 121 [.slice (some ⟨0,0,0,1,24⟩) 4 24,.int .u64 u] (j.rows 1 [(0,kJ)]) (.tuple []) (j.ar 62 [(0,iM u 4)]):=by
 obtain⟨v,aa,aC,rfl,rfl⟩:=ack u (fun v aa=>v=.tuple []∧aa=j.ar 62 [(0,iM u 4)]) (by
  simp only [yF,yG,Ci,Cj,oo (show u%10000%100<100 by omega),oq (show u%10000%100<100 by omega),oo (show u%10000/100<100 by omega),oq (show u%10000/100<100 by omega)];refine⟨by omega,by omega,⟨by omega,ot (by omega)⟩,⟨by omega,ot (by omega)⟩,by omega,by omega,by omega,by omega,by omega,by omega,by omega,by omega,by omega,True.intro,?_⟩;unfold iM px;rw [jf (by omega),jf (by omega),jf (by omega),yH (by omega)];simp only [Nat.div_div_eq_div_mul,Nat.reduceMul,show 48+u/1000=48+u%10000/100/10 by omega,show u/100%10=u%10000/100%10 by omega,show u/10%10=u%10000%100/10 by omega,show u%10=u%10000%100%10 by omega]
  rfl)
 exact aC
theorem acD{u:Nat}(p:10000≤u)(ad:u<100000):aI Tryz.prog aw 121 [.slice (some ⟨0,0,0,1,24⟩) 5 24,.int .u64 u] (j.rows 1 [(0,kJ)]) (.tuple []) (j.ar 68 [(0,iM u 5)]):=by
 obtain⟨v,aa,aC,rfl,rfl⟩:=acm u (fun v aa=>v=.tuple []∧aa=j.ar 68 [(0,iM u 5)]) (by
  simp only [yF,yG,Ci,Cj,oo (show u%10000%100<100 by omega),oq (show u%10000%100<100 by omega),oo (show u%10000/100<100 by omega),oq (show u%10000/100<100 by omega)];refine⟨by omega,by omega,⟨by omega,ot (by omega)⟩,⟨by omega,ot (by omega)⟩,by omega,by omega,by omega,by omega,by omega,by omega,by omega,by omega,by omega,by omega,by omega,True.intro,?_⟩;unfold iM px;rw [jf (by omega),jf (by omega),jf (by omega),jf (by omega),yH (by omega)];simp only [Nat.div_div_eq_div_mul,Nat.reduceMul,show u/1000%10=u%10000/100/10 by omega,show u/100%10=u%10000/100%10 by omega,show u/10%10=u%10000%100/10 by omega,show u%10=u%10000%100%10 by omega]
  rfl)
 exact aC
theorem acE{u:Nat}(p:100000≤u)(ad:u<1000000):aI Tryz.prog aw 121 [.slice (some ⟨0,0,0,1,24⟩) 6 24,.int .u64 u] (j.rows 1 [(0,kJ)]) (.tuple []) (j.ar 87 [(0,iM u 6)]):=by
 obtain⟨v,aa,aC,rfl,rfl⟩:=acn u (fun v aa=>v=.tuple []∧aa=j.ar 87 [(0,iM u 6)]) (by
  simp only [yF,yG,Ci,Cj,oo (show u%10000%100<100 by omega),oq (show u%10000%100<100 by omega),oo (show u%10000/100<100 by omega),oq (show u%10000/100<100 by omega),oo (show u/10000%100<100 by omega),oq (show u/10000%100<100 by omega)];refine⟨by omega,by omega,⟨by omega,ot (by omega)⟩,⟨by omega,ot (by omega)⟩,by omega,by omega,by omega,by omega,by omega,by omega,by omega,by omega,by omega,by omega,by omega,⟨by omega,ot (by omega)⟩,by omega,by omega,by omega,True.intro,?_⟩;unfold iM px;rw [jf (by omega),jf (by omega),jf (by omega),jf (by omega),jf (by omega),yH (by omega)];simp only [Nat.div_div_eq_div_mul,Nat.reduceMul,show 48+u/100000=48+u/10000%100/10 by omega,show u/10000%10=u/10000%100%10 by omega,show u/1000%10=u%10000/100/10 by omega,show u/100%10=u%10000/100%10 by omega,show u/10%10=u%10000%100/10 by omega,show u%10=u%10000%100%10 by omega]
  rfl)
 exact aC
theorem acF{u:Nat}(p:1000000≤u)(ad:u<10000000):aI Tryz.prog aw 121 [.slice (some ⟨0,0,0,1,24⟩) 7 24,.int .u64 u] (j.rows 1 [(0,kJ)]) (.tuple []) (j.ar 93 [(0,iM u 7)]):=by
 obtain⟨v,aa,aC,rfl,rfl⟩:=aco u (fun v aa=>v=.tuple []∧aa=j.ar 93 [(0,iM u 7)]) (by
  simp only [yF,yG,Ci,Cj,oo (show u%10000%100<100 by omega),oq (show u%10000%100<100 by omega),oo (show u%10000/100<100 by omega),oq (show u%10000/100<100 by omega),oo (show u/10000%100<100 by omega),oq (show u/10000%100<100 by omega)];refine⟨by omega,by omega,⟨by omega,ot (by omega)⟩,⟨by omega,ot (by omega)⟩,by omega,by omega,by omega,by omega,by omega,by omega,by omega,by omega,by omega,by omega,by omega,⟨by omega,ot (by omega)⟩,by omega,by omega,by omega,by omega,by omega,True.intro,?_⟩;unfold iM px;rw [jf (by omega),jf (by omega),jf (by omega),jf (by omega),jf (by omega),jf (by omega),yH (by omega)];simp only [Nat.div_div_eq_div_mul,Nat.reduceMul,show u/100000%10=u/10000%100/10 by omega,show u/10000%10=u/10000%100%10 by omega,show u/1000%10=u%10000/100/10 by omega,show u/100%10=u%10000/100%10 by omega,show u/10%10=u%10000%100/10 by omega,show u%10=u%10000%100%10 by omega]
  rfl)
 exact aC
end Go.Proofs.YtddnafghiejcoaaGreatDoor
namespace Go.Proofs.YtddnafghiejcoaaGreatDoor
open Go.cM Go.Keys
set_option maxRecDepth 1000000
structure eS(H:j)(C:Nat)(v:o)(bw:Bytes):Prop where
 ex:∃b:R,v=.slice (some ⟨C,b.J,0,0,1⟩) bw.length bw.length∧H.get C=some b∧b.ro=false∧b.bi=aL bw∧(b.exact=false→b.aq=none∨b.aq=some (5,0))
 lt:C<H.next
theorem eS.cs{H aP:j}{C:Nat}{v:o}{bw:Bytes}(g:eS H C v bw)(ag:aP.get C=H.get C)(aS:H.next≤aP.next):eS aP C v bw:=by obtain⟨b,p,ad,bd⟩:=g.ex;have az:=g.lt;exact⟨⟨b,p,by rw [ag];exact ad,bd⟩,by omega⟩
theorem eS.bi{H:j}{C:Nat}{v:o}{bw:Bytes}(g:eS H C v bw):e2 1 v H=some (aL bw):=by
 obtain⟨b,rfl,ad,bd,bS,bI⟩:=g.ex;simp only [e2,if_true,ad];split
 ·rename_i h;rw [List.eq_nil_of_length_eq_zero h];rfl
 ·rw [if_pos ⟨by simp [R.cO,bS,aL],by simp [bS,aL]⟩,bS];rw [List.drop_zero,List.take_of_length_le (by rw [h1];omega)]
theorem eS.made{H:j}{C:Nat}{bw:Bytes}{e:Bool}{aq:Option (TypeId×Nat)}(ag:H.get C=some (R.made (aL bw) 1 e aq))(az:C<H.next)(bX:e=false→aq=none∨aq=some (5,0)):eS H C (.slice (some ⟨C,0,0,0,1⟩) bw.length bw.length) bw:=⟨⟨_,rfl,ag,rfl,rfl,bX⟩,az⟩
theorem eS.gJ{H:j}{C bh:Nat}{v x:o}{bw new:Bytes}(g:eS H C v bw)(ae:e2 1 x H=some (aL new))(b1:new≠[])(hlen:bw.length+new.length<2^40)(aS:bh<H.next) :
 ∃bt aP gA,hp env.D 34 v x bh H=some (bt,aP)∧eS aP gA bt (bw++new)∧(gA=C∨gA=bh)∧aP.next=H.next∧∀i,i≠C→i≠bh→aP.get i=H.get i:=by
 have fu:=g.bi;obtain⟨b,rfl,ad,bd,bS,bI⟩:=g.ex;have ek:(aL new).length=new.length:=h1 new;have ir:0<new.length:=List.length_pos_iff.2 b1;rw [←sT tv];cases he:b.exact with
 |true =>
  refine⟨_,_,bh,Ux tv ae (by rw [ek];omega) (by rw [ek];omega) ad ⟨rfl,rfl⟩ (by rw [ek];omega) he fu,?_,.inr rfl,rfl,fun i dx cP=>j.fl _ _ (Ne.symm cP)⟩;refine⟨⟨_,?_,j.hJ _ _ _,rfl,by simp [R.made,aL],fun _=> .inr rfl⟩,aS⟩;simp [j5,R.made,ek]
 |false =>
  have acG:aL new≠[]:=by intro h;have:=congrArg List.length h;rw [ek,List.length_nil]at this;omega
  refine⟨_,_,C,Lq tv ae acG (by rw [ek];omega) (by rw [ek];omega) ad ⟨rfl,rfl⟩ (by rw [ek];omega) he bd rfl (by simp [bS,h1]) (bI he),?_,.inl rfl,rfl,fun i dx cP=>j.fl _ _ (Ne.symm dx)⟩;refine⟨⟨_,?_,j.hJ _ _ _,bd,by simp [R.grow,bS,aL],fun _=>bI he⟩,g.lt⟩;simp [R.grow,ek]
theorem Cl(s x:o)(bh:Nat)(h:j):fZ env .append #[34,34] [s,x] bh h=hp env.D 34 s x bh h:=sT tv s
theorem yI(s x:o)(bh:Nat)(h:j):fZ env .append #[34,9] [s,x] bh h=hp env.D 34 s x bh h:=by
 have ad:(b5.D env 9).map (fun d=>d.kind)=some .string:=by kernel_rfl
 obtain⟨d,p,k⟩:=Option.map_eq_some_iff.1 ad;simp only [fZ,List.getElem?_toArray,List.getElem?_cons_zero,List.getElem?_cons_succ,p,k]
def Iy(i:Nat):Bytes:=if i<10 then [u8 (48+i)]else [u8 (48+i/10),u8 (48+i%10)]
theorem acH{i:Nat}(h:i<100):Lib.decDigits i=Iy i:=by
 unfold Iy;split
 ·exact tB ‹_›
 ·rw [tA (by omega),tB (by omega)];rfl
def Qe(r:Option (o×j))(i:Nat):Bool:=match r with|some (.str s,_)=>decide (s=Iy i)|_=>false
theorem acI:∀i:Fin 100,Qe (o1 Tryz.prog env 40 119 [.int .i64 (i.val:Int)] ⟨0,.nil⟩) i.val=true:=by decide+kernel
theorem acJ{i:Nat}(h:i<100)(H:j):aI Tryz.prog aw 119 [.int .i64 (i:Nat)] H (.str (Lib.decDigits i)) H:=by
 have k:=acI ⟨i,h⟩;simp only at k;unfold Qe at k;split at k
 ·rename_i s p bb;rw [wQ]at bb;have an:=of_decide_eq_true k;rw [acH h,←an];exact(aI.uo bQ mixed bb).bare (fun a aT=>by rw [List.mem_singleton.1 aT];exact cR.of rfl) (cR.of rfl) H
 ·cases k
abbrev vw(kK:Nat)(x:Nat):o:=o.slice (some ⟨x,0,0,1,24⟩) kK 24
theorem Qf(H H1 aH aZ bJ:j)(C J k n kK x:Nat)(s:Bytes)(v1 v2:o)(U:o→j→Prop)(aY:bF (H.next) (H.next) (bF (H.next) (H.next+1) (bF (H.next+6) (H.next+6) (bF (H.next+6) (H.next+7) ((0≤(n:Int)∧(n:Int)≤18446744073709551615)∧bF (H.next+6) (H.next+10) (some (o.bool false)=some (o.bool false)∧bF (H.next+6) (H.next+12) (bF (H.next+17) (H.next+17) (bF (H.next+17) (H.next+18) (bF (H.next+17) (H.next+20) (((n:Int)<100→bF (H.next+17) (H.next+22) ((-9223372036854775808≤(n:Int)∧(n:Int)≤9223372036854775807)∧c7 Tryz.prog aw 119 [.int .i64 (n:Int)] (j.mk (H.next+28) (H.2)) (.str s) (j.mk (H.next+28) (H.2))∧fZ env Builtin.append {toList:=[34,9]} [.slice (some ⟨C,J,0,0,1⟩) k k,.str s] (H.next+26) (j.mk (H.next+28) (H.2))=some (v1,H1)∧bK (H.next+17) (H1.next) (bK (H.next+6) (H1.next) (bK (H.next) (H1.next) (U v1 H1)))))∧(¬(n:Int)<100→bF (H.next+17) (H.next+22) (b0 env e7 (H.next+22) (bU [(12,.bool false),(11,.int .u64 (n:Int)),(10,.bool true),(9,.int .i64 10),(6,.slice none 0 0),(0,.slice (some ⟨C,J,0,0,1⟩) k k),(1,.int .u64 (n:Int)),(2,.int .i64 10)]) (j.mk (H.next+23) (H.2)) (Op.alloc 154)=some (o.ptr (some ⟨x,0,0,0,24⟩),aH)∧bF (H.next+17) (aH.next) (c7 Tryz.prog aw 120 [.int .u64 (n:Int)] (j.mk (aH.next+3) (aH.2)) (.int .i64 (kK:Int)) (j.mk (aH.next+3) (aH.2))∧bF (H.next+17) (aH.next+3) (kk env.D 154 (.ptr (some ⟨x,0,0,0,24⟩)) none (some (.int .i64 (kK:Int))) none=some ((vw kK x))∧c7 Tryz.prog aw 121 [(vw kK x),.int .u64 (n:Int)] (j.mk (aH.next+7) (aH.2)) (.tuple []) aZ∧bF (H.next+17) (aZ.next) (kk env.D 154 (.ptr (some ⟨x,0,0,0,24⟩)) none (some (.int .i64 (kK:Int))) none=some ((vw kK x))∧fZ env Builtin.append {toList:=[34,34]} [.slice (some ⟨C,J,0,0,1⟩) k k,(vw kK x)] (aZ.next+3) (j.mk (aZ.next+5) (aZ.2))=some (v2,bJ)∧bK (H.next+17) (bJ.next) (bK (H.next+6) (bJ.next) (bK (H.next) (bJ.next) (U v2 bJ)))))))))))))))))) :
 ∃v p,aI Tryz.prog aw 73 [.slice (some ⟨C,J,0,0,1⟩) k k,.int .i64 n,.int .i64 10] H v p∧U v p :=
 cb bQ mixed gU (an:=he 1003 (ag 1001 (.aA (.val 2001 (.bool false)) (he 5003 (.aK 2001 (ag 3002 (.aA (.val 3003 (.str s)) (.aA (.act 3004 v1 fun x=>H1) .nil))) (.aA (.act 4000 (.ptr (some ⟨x,0,0,0,24⟩)) fun x=>aH) (.aA (.val 5001 (.int .i64 (kK:Int))) (.aA (.val 6001 ((vw kK x))) (.aA (.act 6003 (.tuple []) fun x=>aZ) (.aA (.val 7002 ((vw kK x))) (.aA (.act 7003 v2 fun x=>bJ) .nil))))))))))) (by kernel_rfl) aY
theorem acK{l:List o}(h:og l=true):cR (.agg l):=by
 have au:=PK h;refine⟨fun r=> ?_,?_⟩
 ·have:∀(l:List o),(∀a∈l,cR a)→o.gK r l=l:=by
   intro l;induction l with
   |nil=>intro _;rfl
   |cons a t ih=>intro h;rw [o.gK,(h a (by simp)).1 r,ih fun x ae=>h x (by simp [ae])]
  rw [o.bc,this l au]
 ·have:∀(l:List o),(∀a∈l,cR a)→fw (fun _=>False) l:=by
   intro l;induction l with
   |nil=>intro _;exact trivial
   |cons a t ih=>intro h;exact⟨(h a (by simp)).2,ih fun x ae=>h x (by simp [ae])⟩
  exact this l au
theorem Iz{l:List o}(h:og l=true):dl (px l):=by intro e he;simp only [px,R.made,List.mem_singleton]at he;subst he;exact acK h
theorem acL(a b:List o):og (a++b)=(og a&&og b):=by simp [og]
theorem acM(l:Bytes):og (aL l)=true:=by simp [og,aL]
theorem acN(u kK:Nat):dl (iM u kK):=Iz (by rw [acL,acM];simp [og,g'])
theorem acO{u:Nat}(p:100≤u)(ad:u<10000000):∃k,aI Tryz.prog aw 121 [.slice (some ⟨0,0,0,1,24⟩) (jR u) 24,.int .u64 u] (j.of [kJ]) (.tuple []) (j.ar (k+1) [(0,iM u (jR u))]):=by
 have e:j.of [kJ]=j.rows 1 [(0,kJ)]:=by kernel_rfl
 rw [e];unfold jR;rw [if_neg (by omega),if_neg (by omega)];by_cases a:u<1000
 ·rw [if_pos a];exact⟨45,acB p a⟩
 ·rw [if_neg a];by_cases b:u<10000
  ·rw [if_pos b];exact⟨61,acC (by omega) b⟩
  ·rw [if_neg b];by_cases c:u<100000
   ·rw [if_pos c];exact⟨67,acD (by omega) c⟩
   ·rw [if_neg c];by_cases d:u<1000000
    ·rw [if_pos d];exact⟨86,acE (by omega) d⟩
    ·rw [if_neg d,if_pos ad];exact⟨92,acF (by omega) ad⟩
theorem acP{u x:Nat}{H:j}(p:100≤u)(ad:u<10000000)(ag:H.get x=some kJ)(ae:x<H.next) :
 ∃aP,aI Tryz.prog aw 121 [.slice (some ⟨x,0,0,1,24⟩) (jR u) 24,.int .u64 u] H (.tuple []) aP∧aP.get x=some (iM u (jR u))∧H.next≤aP.next∧∀i,i<H.next→i≠x→aP.get i=H.get i:=by
 obtain⟨k,aC⟩:=acO p ad;have j3:dJ [x] H.next 0=x:=sX (ids:=[x]) (by simp)
 obtain⟨aP,hN,aS,e0,jr⟩:=aC.place (by show 1≤k+1;omega) (fun b au=>by rw [List.mem_singleton.1 au];exact(Iz (by decide)).e1 _) ⟨by show(0:Nat)<1;decide,trivial,trivial⟩ (H:=H) [x] (by simp) (fun C aV=>by rw [List.mem_singleton.1 aV];exact ae) rfl (fun i b h=>by
  cases i with
  |zero =>
   simp only [List.getElem?_cons_zero,Option.some.injEq]at h;subst h;rw [j3,(Iz (by decide)).bc];exact ag
  |succ i=>simp at h)
 have g:=e0 0 (iM u (jR u)) rfl;rw [j3,(acN u (jR u)).bc]at g;refine⟨aP,?_,g,by rw [aS];omega,fun i ak acQ=>jr i ak (by simpa using acQ)⟩;simpa [o.bc,o.gK,bG.bc,j3]using hN
theorem acR{u:Nat}(p:100≤u)(ad:u<10000000):3≤jR u∧jR u≤7:=by
 unfold jR
 repeat' split
 all_goals omega
theorem Qg(u:Nat)(h:u<10000000):(Lib.decDigits u).length=jR u:=by rw [Lib.decDigits_length,Lv _ (by omega)]
theorem acS{u x n:Nat}{H:j}(ad:u<10000000)(ag:H.get x=some (iM u n))(aS:n=jR u)(mD:n≠0)(agp:n≤24):e2 1 (.slice (some ⟨x,0,0,1,24⟩) n 24) H=some (aL (Lib.decDigits u)):=by
 have az:=Qg u ad;have ek:(aL (Lib.decDigits u)).length=n:=by rw [h1,az,aS]
 simp only [e2];rw [if_neg (by decide),if_neg mD];simp only [if_true,ag];simp only [iM,px,R.made,R.elem?,R.cO,if_true,List.length_cons,List.length_nil];simp only [Nat.lt_add_one,if_true,List.getElem?_cons_zero];have bX:List.take n (aL (Lib.decDigits u)++List.replicate (24-n) g')=aL (Lib.decDigits u):=by rw [←ek,List.take_left]
 have hr:(List.take n (List.drop (1-1) (aL (Lib.decDigits u)++List.replicate (24-n) g'))).all (fun x=>x.j4)=true:=by show(List.take n (List.drop 0 _)).all _=true;rw [List.drop_zero,bX];simp [aL,o.j4]
 rw [if_pos ⟨by simp [ek];try omega,hr⟩];show some (List.take n (List.drop 0 _))=_;rw [List.drop_zero,bX]
theorem Qh{x n:Nat}(aS:n≤24):kk (b5.D env) 154 (o.ptr (some ⟨x,0,0,0,24⟩)) none (some (o.int .i64 (n:Nat))) none=some (o.slice (some ⟨x,0,0,1,24⟩) n 24):=by
 have p:(b5.D env 154).map (fun d=>d.kind)=some (.array 24 5):=by kernel_rfl
 have bd:(b5.D env 5).map (fun d=>d.size)=some 1:=by kernel_rfl
 obtain⟨kt,d1,aM⟩:=Option.map_eq_some_iff.1 p;obtain⟨sy,d3,bu⟩:=Option.map_eq_some_iff.1 bd;simp only [kk,d1,aM,d3,bu,hd];rw [if_neg (by simp),if_pos ⟨by omega,by omega⟩];simp
theorem Qi{H:j}{C n:Nat}{v:o}{bw:Bytes}(g:eS H C v bw)(au:bw.length<2^32)(aS:n<10000000) :
 ∃bt aP gA,aI Tryz.prog aw 73 [v,.int .i64 (n:Nat),.int .i64 10] H bt aP∧eS aP gA bt (bw++Lib.decDigits n)∧(gA=C∨H.next≤gA)∧H.next≤aP.next∧∀i,i<H.next→i≠C→aP.get i=H.get i:=by
 have fP:∀{a b:Nat}{I:Prop},a≤b→I→_root_.cond (Nat.ble a b) I False:=fun h k=>by rw [Nat.ble_eq.mpr h];exact k
 have az:=Qg n aS;have b1:=Io n;have tC:(Lib.decDigits n).length≤7:=pw (k:=6) (by simpa using aS);have Cm:=g.lt;obtain⟨b,rfl,_⟩:=g.ex;by_cases an:n<100
 ·obtain⟨bt,aP,gA,aT,dv,aV,kC,hold⟩:=(g.cs (aP:=⟨H.next+28,H.aJ⟩) rfl (by show H.next≤H.next+28;omega)).gJ (bh:=H.next+26) (x:= .str (Lib.decDigits n)) (by rfl) b1 (by omega) (by show H.next+26<H.next+28;omega);have kC:aP.next=H.next+28:=kC
  obtain⟨v,aa,aC,rfl,rfl⟩:=Qf H aP H H H C b.J bw.length n 0 0 (Lib.decDigits n) bt (.undef) (fun v aa=>v=bt∧aa=aP)
   (bq (Nat.le_refl _) (bq (by omega) (bq (by omega) (bq (by omega) ⟨by omega,bq (by omega) ⟨rfl,bq (by omega) (bq (by omega) (bq (by omega) (bq (by omega) ⟨fun _=>bq (by omega) ⟨by omega,⟨acJ an _⟩,(yI _ _ _ _).trans aT,fP (by omega) (fP (by omega) (fP (by omega) ⟨rfl,rfl⟩))⟩,fun h=>absurd (by omega) h⟩)))⟩⟩))))
  refine⟨_,_,gA,aC,dv,?_,by omega,fun i ak iE=>hold i iE (by omega)⟩;rcases aV with h|h
  ·exact .inl h
  ·exact .inr (by omega)
 ·
   have agq:=acR (u:=n) (by omega) aS
   obtain⟨aH,Cc,kc,hC,jc⟩:∃aH,(∀F,b0 env e7 (H.next+22) (bU F) ⟨H.next+23,H.aJ⟩ (Op.alloc 154)=some (.ptr (some ⟨H.next+22,0,0,0,24⟩),aH))∧aH.get (H.next+22)=some kJ∧(∀i,i<H.next→aH.get i=H.get i)∧aH.next=H.next+23 :=
    ⟨(⟨H.next+23,H.aJ⟩:j).set (H.next+22) kJ,fun F=>by kernel_rfl,j.hJ _ _ _,fun i ak=>j.fl _ _ (by omega),rfl⟩
   obtain⟨aZ,a8,nm,iL,h3⟩:=acP (u:=n) (x:=H.next+22) (H:=⟨aH.next+7,aH.aJ⟩) (by omega) aS kc (by show H.next+22<aH.next+7;omega);have iL:aH.next+7≤aZ.next:=iL
   have acT:aI Tryz.prog aw 120 [.int .u64 (n:Nat)] ⟨aH.next+3,aH.aJ⟩ (.int .i64 (jR n:Nat)) ⟨aH.next+3,aH.aJ⟩:=aI.TO Lw (by
    simp only [An]
    rw [if_pos ⟨by omega,by omega⟩,Int.toNat_natCast])
   have g3:eS ⟨aZ.next+5,aZ.aJ⟩ C (.slice (some ⟨C,b.J,0,0,1⟩) bw.length bw.length) bw:=g.cs (by
    show aZ.get C=H.get C;rw [h3 C (by show C<aH.next+7;omega) (by omega)]
    exact hC C Cm) (by show H.next≤aZ.next+5;omega)
   obtain⟨bt,aP,gA,aT,dv,aV,kC,hold⟩:=g3.gJ (bh:=aZ.next+3) (x:= .slice (some ⟨H.next+22,0,0,1,24⟩) (jR n) 24) (acS (H:=⟨aZ.next+5,aZ.aJ⟩) aS nm rfl (by omega) (by omega)) b1 (by omega) (by show aZ.next+3<aZ.next+5;omega);have kC:aP.next=aZ.next+5:=kC
   obtain⟨v,aa,aC,rfl,rfl⟩:=Qf H H aH aZ aP C b.J bw.length n (jR n) (H.next+22) [] (.undef) bt (fun v aa=>v=bt∧aa=aP)
    (bq (Nat.le_refl _) (bq (by omega) (bq (by omega) (bq (by omega) ⟨by omega,bq (by omega) ⟨rfl,bq (by omega) (bq (by omega) (bq (by omega) (bq (by omega) ⟨fun h=>absurd h (by omega),fun _=>bq (by omega) ⟨Cc _,bq (by omega) ⟨⟨acT⟩,bq (by omega) ⟨Qh (by omega),⟨a8⟩,bq (by omega) ⟨Qh (by omega),(Cl _ _ _ _).trans aT,fP (by omega) (fP (by omega) (fP (by omega) ⟨rfl,rfl⟩))⟩⟩⟩⟩⟩)))⟩⟩))))
   refine⟨_,_,gA,aC,dv,?_,by omega,fun i ak iE=> ?_⟩
   ·rcases aV with h|h
    ·exact .inl h
    ·exact .inr (by omega)
   ·rw [hold i iE (by omega)];show aZ.get i=_;rw [h3 i (by show i<aH.next+7;omega) (by omega)];exact hC i ak
abbrev j1(y:Nat):o:=o.slice (some ⟨y,0,0,0,1⟩) 2 2
theorem Qj(H H1 aH:j)(y:Nat)(es:Bytes)(v1:o)(U:o→j→Prop)(aY:bF (H.next) (H.next) (bF (H.next) (H.next+1) (b0 env e7 (H.next+1) (bU [(4,.slice none 0 0),(0,.str es),(1,.slice none 0 0)]) (j.mk (H.next+4) (H.2)) (Op.buildSlice 34 2 {toList:=[(0,Operand.const (Value.int .u8 (27))),(1,Operand.const (Value.int .u8 (91)))]})=some ((j1 y),H1)∧eO env (H.next+2) (bU [(8,(j1 y)),(4,.slice none 0 0),(0,.str es),(1,.slice none 0 0)]) H1 (Op.convert 34 34 (Operand.tmp 8))=some ((j1 y),H1)∧bF (H.next) (H1.next) (bF (H.next) (H1.next+3) (bF (H.next) (H1.next+4) (fZ env Builtin.append {toList:=[34,9]} [(j1 y),.str es] (H1.next+6) (j.mk (H1.next+8) (H1.2))=some (v1,aH)∧bK (H.next) (aH.next) (U v1 aH))))))) :
 ∃v p,aI Tryz.prog aw 44 [.str es,.slice none 0 0] H v p∧U v p :=
 cb bQ mixed gU (an:= .aA (.act 1000 ((j1 y)) fun x=>H1) (.aA (.kZ 1001 ((j1 y)) fun h=>h) (.aA (.rounds 300) (.aA (.act 9002 v1 fun x=>aH) .nil)))) (by kernel_rfl) aY
theorem IA(H H1 aH aZ:j)(B q lT y n c i:Nat)(x:Int)(es:Bytes)(bv v1 v2:o)(U:dc→bP→j→Prop)(aY:bF B (H.next) (((i:Int)<(n:Int)→bF B (H.next+1) ((0≤(i:Int)∧(i:Int)<(n:Int))∧cj env.D 3 ⟨q,lT,0+Int.toNat (i:Int),0,1⟩ (j.mk (H.next+6) (H.2))=some (.int .i64 x)∧bF B (H.next+6) ((0<(i:Int)→bF B (H.next+8) (b0 env e7 (H.next+9) (bU [(19,bv),(18,.bool true),(17,.int .i64 (i:Int)),(7,.int .i64 x),(6,.int .i64 (i:Int)),(16,.int .i64 x),(15,.ptr (some ⟨q,lT,0+Int.toNat (i:Int),0,1⟩)),(14,.int .i64 (i:Int)),(13,.bool true),(0,.str es),(5,bv),(10,.slice (some ⟨q,lT,0,0,1⟩) n c),(11,.int .i64 (n:Int)),(12,.int .i64 (i:Int))]) (j.mk (H.next+12) (H.2)) (Op.buildSlice 34 1 {toList:=[(0,Operand.const (Value.int .u8 (59)))]})=some (o.slice (some ⟨y,0,0,0,1⟩) 1 1,H1)∧fZ env Builtin.append {toList:=[34,34]} [bv,.slice (some ⟨y,0,0,0,1⟩) 1 1] (H.next+10) H1=some (v1,aH)∧bF B (aH.next) (c7 Tryz.prog aw 73 [v1,.int .i64 x,.int .i64 10] (j.mk (aH.next+4) (aH.2)) v2 aZ∧bF B (aZ.next) ((-9223372036854775808≤(i:Int)+1∧(i:Int)+1≤9223372036854775807)∧U .normal [(0,.str es),(5,v2),(10,.slice (some ⟨q,lT,0,0,1⟩) n c),(11,.int .i64 (n:Int)),(12,.int .i64 ((i:Int)+1))] (j.mk (aZ.next+2) (j.aJ aZ))))))∧(¬0<(i:Int)→bF B (H.next+8) (c7 Tryz.prog aw 73 [bv,.int .i64 x,.int .i64 10] (j.mk (H.next+12) (H.2)) v2 aZ∧bF B (aZ.next) ((-9223372036854775808≤(i:Int)+1∧(i:Int)+1≤9223372036854775807)∧U .normal [(0,.str es),(5,v2),(10,.slice (some ⟨q,lT,0,0,1⟩) n c),(11,.int .i64 (n:Int)),(12,.int .i64 ((i:Int)+1))] (j.mk (aZ.next+2) (j.aJ aZ))))))))∧(¬(i:Int)<(n:Int)→U (.exit 0) [(0,.str es),(5,bv),(10,.slice (some ⟨q,lT,0,0,1⟩) n c),(11,.int .i64 (n:Int)),(12,.int .i64 (i:Int))] (j.mk (H.next+1) (j.aJ H))))) :
 ∃e aW p,cx Tryz.prog aw B 29 (cF Tryz.prog 44 0) [(0,.str es),(5,bv),(10,.slice (some ⟨q,lT,0,0,1⟩) n c),(11,.int .i64 n),(12,.int .i64 i)] H e aW p∧U e aW p :=
 gm bQ mixed gU (an:= .aK 3000 (ag 4001 (.aA (.val 4002 (.int .i64 x)) (.aK 5001 (.aA (.act 6001 (.slice (some ⟨y,0,0,0,1⟩) 1 1) fun x=>H1) (.aA (.act 6002 v1 fun x=>aH) (.aA (.act 7002 v2 fun x=>aZ) (ag 8000 .nil)))) (.aA (.act 7002 v2 fun x=>aZ) (ag 8000 .nil))))) .nil) (cs:=[0,5,10,11,12]) (by kernel_rfl) aY
theorem acU(H H1 aH aZ:j)(y q lT n c:Nat)(es:Bytes)(bv v1 ep:o)(U:o→j→Prop)(aY:bF (H.next) (H.next) (bF (H.next) (H.next+1) (b0 env e7 (H.next+1) (bU [(4,.slice none 0 0),(0,.str es),(1,.slice (some ⟨q,lT,0,0,1⟩) n c)]) (j.mk (H.next+4) (H.2)) (Op.buildSlice 34 2 {toList:=[(0,Operand.const (Value.int .u8 (27))),(1,Operand.const (Value.int .u8 (91)))]})=some ((j1 y),H1)∧eO env (H.next+2) (bU [(8,(j1 y)),(4,.slice none 0 0),(0,.str es),(1,.slice (some ⟨q,lT,0,0,1⟩) n c)]) H1 (Op.convert 34 34 (Operand.tmp 8))=some ((j1 y),H1)∧bF (H.next) (H1.next) (cx Tryz.prog aw (H.next) 29 (Code.loop (cF Tryz.prog 44 0)) [(0,.str es),(5,(j1 y)),(10,.slice (some ⟨q,lT,0,0,1⟩) n c),(11,.int .i64 (n:Int)),(12,.int .i64 0)] (j.mk (H1.next+3) (j.aJ H1)) (.exit 0) [(0,.str es),(5,bv),(10,.slice (some ⟨q,lT,0,0,1⟩) n c),(11,.int .i64 (n:Int)),(12,ep)] aH∧bF (H.next) (aH.next) (fZ env Builtin.append {toList:=[34,9]} [bv,.str es] (aH.next+2) (j.mk (aH.next+4) (aH.2))=some (v1,aZ)∧bK (H.next) (aZ.next) (U v1 aZ)))))) :
 ∃v p,aI Tryz.prog aw 44 [.str es,.slice (some ⟨q,lT,0,0,1⟩) n c] H v p∧U v p :=
 cb bQ mixed gU (an:= .aA (.act 1000 ((j1 y)) fun x=>H1) (.aA (.kZ 1001 ((j1 y)) fun h=>h) (.aA (.cs [0,5,10,11,12]) (.aA (.loop [(0,.str es),(5,bv),(10,.slice (some ⟨q,lT,0,0,1⟩) n c),(11,.int .i64 (n:Int)),(12,ep)] aH (.exit 0)) (.aA (.act 9002 v1 fun x=>aZ) .nil))))) (by kernel_rfl) aY
theorem IB:∀(l:List Nat)(n:Nat),eu (l++[n])=if l=[]then Lib.decDigits n else eu l++59::Lib.decDigits n
 |[],n=>rfl
 |[m],n=>rfl
 |m::k::r,n=>by have ih:=IB (k::r) n;rw [if_neg (by simp)]at ih⊢;show Lib.decDigits m++59::eu ((k::r)++[n])=_;rw [ih,eu];simp
theorem Cn:∀(l:List Nat),(∀n∈l,n<10000000)→(eu l).length≤8*l.length
 |[],_=>by simp [eu]
 |[n],h=>by have:=pw (n:=n) (k:=6) (by have:=h n (by simp);simpa using this);simp only [eu,List.length_cons,List.length_nil];omega
 |n::m::r,h=>by
  have p:=pw (n:=n) (k:=6) (by have:=h n (by simp);simpa using this);have ad:=Cn (m::r) fun x ae=>h x (by simp [ae])
  simp only [eu,List.length_append,List.length_cons]at ad⊢; omega
abbrev r2(l:List Nat):R:=R.made (l.map fun n=>o.int .i64 (n:Nat)) 1 true
theorem acV{h:j}{q i:Nat}{l:List Nat}(e:h.get q=some (r2 l))(ak:i<l.length):cj (b5.D env) 3 ⟨q,0,0+i,0,1⟩ h=some (.int .i64 (l[i]:Nat)):=by
 have b':(b5.D env 3).map (fun d=>d.kind.isAgg)=some false:=by kernel_rfl
 obtain⟨x,p,ad⟩:=Option.map_eq_some_iff.1 b';unfold cj;rw [p,e];simp [R.elem?,R.cO,iD,ad,R.made,ak]
theorem Co{F:bP}{bh k n c:Nat}{H:j}{a:bG}{b:R}(a8:bU F (.tmp k)=.slice (some a) n c)(ag:H.get a.id=some b)(bb:b.ro=false)(aT:a.bR=0)(av:0<c):eO env bh (bU F) H (Op.convert 34 34 (Operand.tmp k))=some (.slice (some a) n c,H):=by
 have p:(b5.D env 34).map (fun d=>d.kind)=some (.slice 5):=by kernel_rfl
 have bd:(b5.D env 5).map (fun d=>d.kind)=some (.int .u8):=by kernel_rfl
 obtain⟨kt,d1,aM⟩:=Option.map_eq_some_iff.1 p;obtain⟨sy,d3,bu⟩:=Option.map_eq_some_iff.1 bd;simp only [eO,a8,oG,d1,aM,d3,bu,ag];simp [bb,aT,av]
abbrev ou(e:Bytes)(bv:o)(q n c i:Nat):bP:=[(0,.str e),(5,bv),(10,.slice (some ⟨q,0,0,0,1⟩) n c),(11,.int .i64 (n:Nat)),(12,.int .i64 (i:Nat))]
theorem acW{B q c : Nat}{l : List Nat}{e:Bytes}(az:l.length<2^20)(aS:∀n∈l,n<10000000)(aD:q<B):∀(t i:Nat)(H:j)(bv:o)(C:Nat),l.length-i≤t→i≤l.length→B≤H.next→B≤C→eS H C bv (27::91::eu (l.take i))→H.get q=some (r2 l) →
 ∃aP pz gA,cN Tryz.prog aw B 29 (cF Tryz.prog 44 0) (ou e bv q l.length c i) H (.exit 0) (ou e pz q l.length c l.length) aP∧eS aP gA pz (27::91::eu l)∧B≤gA∧H.next≤aP.next∧∀x,x<B→aP.get x=H.get x:=by
 intro t
 have fin:∀(H:j)(bv:o)(C:Nat),B≤H.next→B≤C→eS H C bv (27::91::eu (l.take l.length)) →
  ∃aP pz gA,cN Tryz.prog aw B 29 (cF Tryz.prog 44 0) (ou e bv q l.length c l.length) H (.exit 0) (ou e pz q l.length c l.length) aP∧eS aP gA pz (27::91::eu l)∧B≤gA∧H.next≤aP.next∧∀x,x<B→aP.get x=H.get x:=by
  intro H bv C cE aV g;rw [List.take_length]at g;obtain⟨bn,aW,p,bb,rfl,rfl,rfl⟩:=IA H H H H B q 0 0 l.length c l.length 0 e bv bv bv (fun bn aW p=>bn=.exit 0∧aW=ou e bv q l.length c l.length∧p=⟨H.next+1,H.aJ⟩) (bq cE ⟨fun h=>by omega,fun _=>⟨rfl,rfl,rfl⟩⟩);exact⟨_,bv,C,cN.last (by simp) bb,g.cs rfl (by show H.next≤H.next+1;omega),aV,by show H.next≤H.next+1;omega,fun _ _=>rfl⟩
 induction t with
 |zero =>
  intro i H bv C bX ak cE aV g _;obtain rfl:i=l.length:=by omega
  exact fin H bv C cE aV g
 |succ t ih =>
  intro i H bv C bX ak cE aV g ag;by_cases av:i<l.length
  ·have ae : l[i] < 10000000 := aS _ (List.getElem_mem av)
   have mM:∀k,cj (b5.D env) 3 ⟨q,0,0+Int.toNat (i:Int),0,1⟩ ⟨H.next+k,H.aJ⟩=some (.int .i64 (l[i]:Nat)):=fun k=>by rw [Int.toNat_natCast];exact acV (h:=⟨H.next+k,H.aJ⟩) ag av
   have Qk:l.take (i+1)=l.take i++[l[i]]:=by rw [List.take_add_one,List.getElem?_eq_getElem av];rfl
   have sE:(eu (l.take i)).length≤8*l.length:=by
    have:=Cn (l.take i) fun n h=>aS n (List.mem_of_mem_take h)
    rw [List.length_take]at this;omega
   have step:∀(aZ:j)(v2:o)(bl:Nat),eS aZ bl v2 (27::91::eu (l.take (i+1)))→B≤bl→H.next≤aZ.next→(∀x,x<B→aZ.get x=H.get x)→cx Tryz.prog aw B 29 (cF Tryz.prog 44 0) (ou e bv q l.length c i) H .normal (ou e v2 q l.length c (i+1)) ⟨aZ.next+2,aZ.aJ⟩ →
    ∃aP pz gA,cN Tryz.prog aw B 29 (cF Tryz.prog 44 0) (ou e bv q l.length c i) H (.exit 0) (ou e pz q l.length c l.length) aP∧eS aP gA pz (27::91::eu l)∧B≤gA∧H.next≤aP.next∧∀x,x<B→aP.get x=H.get x:=by
    intro aZ v2 bl g2 vx iL h3 bb;obtain⟨aP,pz,gA,ds,dv,ov,lA,hK⟩:=ih (i+1) ⟨aZ.next+2,aZ.aJ⟩ v2 bl (by omega) (by omega) (by show B≤aZ.next+2;omega) vx (g2.cs rfl (by show aZ.next≤aZ.next+2;omega)) ((h3 q aD).trans ag);have lA:aZ.next+2≤aP.next:=lA
    exact⟨aP,pz,gA,cN.step bb ds,dv,ov,by omega,fun x ae=>(hK x ae).trans (h3 x ae)⟩
   have gR:((i:Int)+1)=((i+1:Nat):Int):=by omega
   by_cases bm:0<i
   ·
     have b1:l.take i≠[]:=by intro h;have:=congrArg List.length h;rw [List.length_take,List.length_nil]at this;omega
     have vy:∀F,b0 env e7 (H.next+9) (bU F) ⟨H.next+12,H.aJ⟩ (Op.buildSlice 34 1 {toList:=[(0,Operand.const (Value.int .u8 (59)))]})=some (o.slice (some ⟨H.next+9,0,0,0,1⟩) 1 1,(⟨H.next+12,H.aJ⟩:j).set (H.next+9) (R.made (aL [59]) 1 true)):=by intro F;kernel_rfl
     have jt:((⟨H.next+12,H.aJ⟩:j).set (H.next+9) (R.made (aL [59]) 1 true)).get (H.next+9)=some (R.made (aL [59]) 1 true):=j.hJ _ _ _;have jv:∀x,x<H.next→((⟨H.next+12,H.aJ⟩:j).set (H.next+9) (R.made (aL [59]) 1 true)).get x=H.get x:=fun x ae=>j.fl _ _ (by omega)
     have kF:((⟨H.next+12,H.aJ⟩:j).set (H.next+9) (R.made (aL [59]) 1 true)).next=H.next+12:=rfl
     generalize (⟨H.next+12,H.aJ⟩:j).set (H.next+9) (R.made (aL [59]) 1 true)=H1 at vy jt jv kF;have g1:=g.cs (jv C g.lt) (by omega);have kt:eS H1 (H.next+9) (.slice (some ⟨H.next+9,0,0,0,1⟩) 1 1) [59]:=eS.made jt (by omega) (fun h=>by cases h);obtain⟨v1,aH,bz,aT,g2,Ql,jc,hC⟩:=g1.gJ (bh:=H.next+10) kt.bi (by simp) (by simp only [List.length_cons,List.length_nil];omega) (by omega);obtain⟨v2,aZ,bl,aC,g3,vx,iL,h3⟩:=Qi (n:=l[i]) (g2.cs (aP:=⟨aH.next+4,aH.aJ⟩) rfl (by show aH.next≤aH.next+4;omega)) (by simp only [List.length_append,List.length_cons,List.length_nil];omega) ae;have iL:aH.next+4≤aZ.next:=iL
     have agr:B≤bz:=by rcases Ql with h|h<;>omega
     obtain⟨bn,aW,p,bb,rfl,rfl,rfl⟩:=IA H H1 aH aZ B q 0 (H.next+9) l.length c i (l[i]:Nat) e bv v1 v2 (fun bn aW p=>bn=.normal∧aW=ou e v2 q l.length c (i+1)∧p=⟨aZ.next+2,aZ.aJ⟩)
      (bq cE ⟨fun _=>bq (by omega) ⟨⟨by omega,by omega⟩,mM 6,bq (by omega) ⟨fun _=>bq (by omega) ⟨vy _,(Cl _ _ _ _).trans aT,bq (by omega) ⟨⟨aC⟩,bq (by omega) ⟨⟨by omega,by omega⟩,rfl,by rw [gR],rfl⟩⟩⟩,fun h=>absurd (by omega) h⟩⟩,fun h=>absurd (by omega) h⟩)
     refine step aZ v2 bl ?_ (by rcases vx with h|h; · omega
                                 ·have h:aH.next+4≤bl:=h
                                  omega) (by omega) (fun x ae=> ?_) bb
     ·have bs:(27::91::eu (l.take (i+1)):Bytes)=27::91::eu (l.take i)++[59]++Lib.decDigits l[i]:=by rw [Qk,IB,if_neg b1];simp
      rw [bs];exact g3
     ·rw [h3 x (by show x<aH.next+4;omega) (by omega)];show aH.get x=_;rw [hC x (by omega) (by omega)];exact jv x (by omega)
   ·obtain rfl:i=0:=by omega
    obtain⟨v2,aZ,bl,aC,g3,vx,iL,h3⟩:=Qi (n:=l[0]) (g.cs (aP:=⟨H.next+12,H.aJ⟩) rfl (by show H.next≤H.next+12;omega)) (by simp only [List.length_cons];omega) ae;have iL:H.next+12≤aZ.next:=iL
    obtain⟨bn,aW,p,bb,rfl,rfl,rfl⟩:=IA H H H aZ B q 0 0 l.length c 0 (l[0]:Nat) e bv bv v2 (fun bn aW p=>bn=.normal∧aW=ou e v2 q l.length c 1∧p=⟨aZ.next+2,aZ.aJ⟩)
     (bq cE ⟨fun _=>bq (by omega) ⟨⟨by omega,by omega⟩,mM 6,bq (by omega) ⟨fun h=>absurd h (by omega),fun _=>bq (by omega) ⟨⟨aC⟩,bq (by omega) ⟨⟨by omega,by omega⟩,rfl,rfl,rfl⟩⟩⟩⟩,fun h=>absurd (by omega) h⟩)
    refine step aZ v2 bl ?_ (by rcases vx with h|h; · omega
                                ·have h:H.next+12≤bl:=h
                                 omega) (by omega) (fun x ae=> ?_) bb
    ·have bs:(27::91::eu (l.take (0+1)):Bytes)=27::91::eu (l.take 0)++Lib.decDigits l[0]:=by rw [Qk,IB,if_pos (by simp)];rfl
     rw [bs];exact g3
    ·exact h3 x (by show x<H.next+12;omega) (by omega)
  ·obtain rfl:i=l.length:=by omega
   exact fin H bv C cE aV g
def Qm(H:j)(args:List o)(bw:Bytes):Prop :=
 ∃v aP C,aI Tryz.prog aw 44 args H v aP∧eS aP C v bw∧H.next≤C∧∀x,x<H.next→aP.get x=H.get x
theorem IC(H:j):∃H1,(∀F,b0 env e7 (H.next+1) (bU F) ⟨H.next+4,H.aJ⟩ (Op.buildSlice 34 2 {toList:=[(0,Operand.const (Value.int .u8 (27))),(1,Operand.const (Value.int .u8 (91)))]})=some (o.slice (some ⟨H.next+1,0,0,0,1⟩) 2 2,H1))∧(∀F,bU F (.tmp 8)=o.slice (some ⟨H.next+1,0,0,0,1⟩) 2 2→eO env (H.next+2) (bU F) H1 (Op.convert 34 34 (Operand.tmp 8))=some (o.slice (some ⟨H.next+1,0,0,0,1⟩) 2 2,H1)) ∧
 eS H1 (H.next+1) (.slice (some ⟨H.next+1,0,0,0,1⟩) 2 2) [27,91]∧H1.next=H.next+4∧∀x,x<H.next→H1.get x=H.get x:=by
 have jt:((⟨H.next+4,H.aJ⟩:j).set (H.next+1) (R.made (aL [27,91]) 1 true)).get (H.next+1)=some (R.made (aL [27,91]) 1 true):=j.hJ _ _ _;exact⟨(⟨H.next+4,H.aJ⟩:j).set (H.next+1) (R.made (aL [27,91]) 1 true),(fun F=>by kernel_rfl),fun F a8=>Co a8 jt rfl rfl (by decide),eS.made (bw:=[27,91]) jt (by show H.next+1<H.next+4;omega) (fun h=>by cases h),rfl,fun x ae=>j.fl _ _ (by omega)⟩
theorem acX(H:j){e:Bytes}(he:e≠[])(az:e.length<2^30):Qm H [.str e,.slice none 0 0] (27::91::e):=by
 have fP:∀{a b:Nat}{I:Prop},a≤b→I→_root_.cond (Nat.ble a b) I False:=fun h k=>by rw [Nat.ble_eq.mpr h];exact k
 obtain⟨H1,au,av,g1,kF,jv⟩:=IC H;obtain⟨v,aH,C,aT,g2,aV,jc,hC⟩:=(g1.cs (aP:=⟨H1.next+8,H1.aJ⟩) rfl (by show H1.next≤H1.next+8;omega)).gJ (bh:=H1.next+6) (x:= .str e) (by rfl) he (by simp only [List.length_cons,List.length_nil];omega) (by show H1.next+6<H1.next+8;omega);have jc:aH.next=H1.next+8:=jc
 obtain⟨w,aa,aC,rfl,rfl⟩:=Qj H H1 aH (H.next+1) e v (fun w aa=>w=v∧aa=aH)
  (bq (Nat.le_refl _) (bq (by omega) ⟨au _,av _ rfl,bq (by omega) (bq (by omega) (bq (by omega) ⟨(yI _ _ _ _).trans aT,fP (by omega) ⟨rfl,rfl⟩⟩))⟩))
 refine⟨_,_,C,aC,g2,by rcases aV with h|h<;>omega,fun x ae=> ?_⟩;rw [hC x (by omega) (by omega)];exact jv x ae
theorem ID{H:j}{q c:Nat}{l:List Nat}{e:Bytes}(ag:H.get q=some (r2 l))(aD:q<H.next)(l6:l.length<2^20)(aS:∀n∈l,n<10000000)(he:e≠[])(az:e.length<2^30):Qm H [.str e,.slice (some ⟨q,0,0,0,1⟩) l.length c] (gx e l):=by
 have fP:∀{a b:Nat}{I:Prop},a≤b→I→_root_.cond (Nat.ble a b) I False:=fun h k=>by rw [Nat.ble_eq.mpr h];exact k
 obtain⟨H1,au,av,g1,kF,jv⟩:=IC H;obtain⟨aH,bv,bl,ds,g2,vx,jc,hC⟩:=acW (B:=H.next) (c:=c) (e:=e) l6 aS aD l.length 0 ⟨H1.next+3,H1.aJ⟩ _ (H.next+1) (by omega) (by omega) (by show H.next≤H1.next+3;omega) (by omega) (g1.cs rfl (by show H1.next≤H1.next+3;omega)) ((jv q aD).trans ag);have jc:H1.next+3≤aH.next:=jc
 have sE:=Cn l aS;obtain⟨v,aZ,C,aT,g3,aV,iL,h3⟩:=(g2.cs (aP:=⟨aH.next+4,aH.aJ⟩) rfl (by show aH.next≤aH.next+4;omega)).gJ (bh:=aH.next+2) (x:= .str e) (by rfl) he (by simp only [List.length_cons];omega) (by show aH.next+2<aH.next+4;omega);have iL:aZ.next=aH.next+4:=iL
 obtain⟨w,aa,aC,rfl,rfl⟩:=acU H H1 aH aZ (H.next+1) q 0 l.length c e bv v (.int .i64 (l.length:Nat)) (fun w aa=>w=v∧aa=aZ)
  (bq (Nat.le_refl _) (bq (by omega) ⟨au _,av _ rfl,bq (by omega) ⟨cx.gL ds,bq (by omega) ⟨(yI _ _ _ _).trans aT,fP (by omega) ⟨rfl,rfl⟩⟩⟩⟩))
 refine⟨_,_,C,aC,?_,by rcases aV with h|h<;>omega,fun x ae=> ?_⟩
 ·have bs:gx e l=27::91::eu l++e:=rfl;rw [bs];exact g3
 ·rw [h3 x (by omega) (by omega)];show aH.get x=_;rw [hC x ae];exact jv x ae
abbrev k'(x:Nat):R:=R.made [o.int .i32 (x:Nat)] 1 true
abbrev IE:dk:=(ag 19002 (ag 19003 (ag 20001 (ag 21001 (ag 21005 .nil)))))
theorem acY(x:Nat)(U:o→j→Prop)(aY:some (o.bool (decide ((x:Int)≥55296)))=some (o.bool false)∧some (o.bool (decide ((x:Int)>1114111)))=some (o.bool false)∧((x:Int)<128→(0≤(x:Int)∧(x:Int)≤255)∧U (.str [UInt8.ofNat x]) (j.ar 43 [(0,(R.made ([.int .i32 (x:Int)]) 1 true)),(34,R.made [.int .u8 (x:Int)] 1 true),(35,R.made [.int .u8 (x:Int)] 1 false (some (5,0)))]))∧(¬(x:Int)<128→(2048≤(x:Int)→some (o.bool (decide ((x:Int)≥65536)))=some (o.bool false)∧True∧(0≤bx .i32 (x:Int) (63)∧bx .i32 (x:Int) (63)≤255)∧True∧Int.NonNeg (6-0)∧True∧(0≤bx .i32 (bD .i32 (x:Int) (6)) (63)∧bx .i32 (bD .i32 (x:Int) (6)) (63)≤255)∧True∧Int.NonNeg (6-0)∧(0≤bD .i32 (bD .i32 (x:Int) (6)) (6)∧bD .i32 (bD .i32 (x:Int) (6)) (6)≤255)∧True∧U (.str [UInt8.ofNat (Int.toNat (cg .u8 (bD .i32 (bD .i32 (x:Int) 6) 6) 224)),UInt8.ofNat (Int.toNat (cg .u8 128 (bx .i32 (bD .i32 (x:Int) 6) 63))),UInt8.ofNat (Int.toNat (cg .u8 128 (bx .i32 (x:Int) 63)))]) (j.ar 80 [(0,(R.made ([.int .i32 (x:Int)]) 1 true)),(37,(R.made ([.agg [.int .u8 (cg .u8 (bD .i32 (bD .i32 (x:Int) (6)) (6)) (224)),.int .u8 (cg .u8 (128) (bx .i32 (bD .i32 (x:Int) (6)) (63))),.int .u8 (cg .u8 (128) (bx .i32 (x:Int) (63))),.int .u8 0]]) 4 true (some (95,4)))),(72,R.made [.int .u8 (cg .u8 (bD .i32 (bD .i32 (x:Int) (6)) (6)) (224)),.int .u8 (cg .u8 (128) (bx .i32 (bD .i32 (x:Int) (6)) (63))),.int .u8 (cg .u8 (128) (bx .i32 (x:Int) (63)))] 1 false (some (5,0)))]))∧(¬2048≤(x:Int)→some (o.bool (decide ((x:Int)≥65536)))=some (o.bool false)∧True∧(0≤bx .i32 (x:Int) (63)∧bx .i32 (x:Int) (63)≤255)∧True∧Int.NonNeg (6-0)∧(0≤bD .i32 (x:Int) (6)∧bD .i32 (x:Int) (6)≤255)∧True∧U (.str [UInt8.ofNat (Int.toNat (cg .u8 (bD .i32 (x:Int) 6) 192)),UInt8.ofNat (Int.toNat (cg .u8 128 (bx .i32 (x:Int) 63)))]) (j.ar 72 [(0,(R.made ([.int .i32 (x:Int)]) 1 true)),(36,(R.made ([.agg [.int .u8 (cg .u8 (bD .i32 (x:Int) (6)) (192)),.int .u8 (cg .u8 (128) (bx .i32 (x:Int) (63))),.int .u8 0,.int .u8 0]]) 4 true (some (95,4)))),(64,R.made [.int .u8 (cg .u8 (bD .i32 (x:Int) (6)) (192)),.int .u8 (cg .u8 (128) (bx .i32 (x:Int) (63)))] 1 false (some (5,0)))])))) :
 ∃v p,aI Tryz.prog aw 51 [.slice (some ⟨0,0,0,0,1⟩) 1 1] (j.rows 1 [(0,k' x)]) v p∧U v p :=
 cb bQ mixed c8 (an:= .aA (.rounds 300) (he 5002 (.aA (.val 1004 (.bool false)) (.aA (.val 1012 (.bool false)) (.aK 3001 (ag 4002 .nil) (.aK 6001 (.aA (.val 8001 (.bool false)) (ag 17001 (ag 17002 (ag 17003 (ag 18001 (ag 19001 IE)))))) (.aA (.val 8001 (.bool false)) (ag 19001 IE)))))))) (by kernel_rfl) aY
abbrev Qn:dk:=(ag 17001 (ag 17002 (ag 17003 (ag 18001 (ag 19001 IE)))))
theorem acZ(x:Nat)(U:o→j→Prop)(aY:some (o.bool (decide ((x:Int)≥55296)))=some (o.bool true)∧some (o.bool (decide ((x:Int)≤57343)))=some (o.bool false)∧some (o.bool (decide ((x:Int)>1114111)))=some (o.bool false)∧some (o.bool (decide ((x:Int)<128)))=some (o.bool false)∧some (o.bool (decide ((x:Int)≥2048)))=some (o.bool true)∧(65536≤(x:Int)→True∧(0≤bx .i32 (x:Int) (63)∧bx .i32 (x:Int) (63)≤255)∧True∧Int.NonNeg (6-0)∧True∧(0≤bx .i32 (bD .i32 (x:Int) (6)) (63)∧bx .i32 (bD .i32 (x:Int) (6)) (63)≤255)∧True∧Int.NonNeg (6-0)∧True∧(0≤bx .i32 (bD .i32 (bD .i32 (x:Int) (6)) (6)) (63)∧bx .i32 (bD .i32 (bD .i32 (x:Int) (6)) (6)) (63)≤255)∧True∧Int.NonNeg (6-0)∧(0≤bD .i32 (bD .i32 (bD .i32 (x:Int) (6)) (6)) (6)∧bD .i32 (bD .i32 (bD .i32 (x:Int) (6)) (6)) (6)≤255)∧True∧U (.str [UInt8.ofNat (Int.toNat (cg .u8 (bD .i32 (bD .i32 (bD .i32 (x:Int) 6) 6) 6) 240)),UInt8.ofNat (Int.toNat (cg .u8 128 (bx .i32 (bD .i32 (bD .i32 (x:Int) 6) 6) 63))),UInt8.ofNat (Int.toNat (cg .u8 128 (bx .i32 (bD .i32 (x:Int) 6) 63))),UInt8.ofNat (Int.toNat (cg .u8 128 (bx .i32 (x:Int) 63)))]) (j.ar 88 [(0,(R.made ([.int .i32 (x:Int)]) 1 true)),(38,(R.made ([.agg [.int .u8 (cg .u8 (bD .i32 (bD .i32 (bD .i32 (x:Int) (6)) (6)) (6)) (240)),.int .u8 (cg .u8 (128) (bx .i32 (bD .i32 (bD .i32 (x:Int) (6)) (6)) (63))),.int .u8 (cg .u8 (128) (bx .i32 (bD .i32 (x:Int) (6)) (63))),.int .u8 (cg .u8 (128) (bx .i32 (x:Int) (63)))]]) 4 true (some (95,4)))),(80,R.made [.int .u8 (cg .u8 (bD .i32 (bD .i32 (bD .i32 (x:Int) (6)) (6)) (6)) (240)),.int .u8 (cg .u8 (128) (bx .i32 (bD .i32 (bD .i32 (x:Int) (6)) (6)) (63))),.int .u8 (cg .u8 (128) (bx .i32 (bD .i32 (x:Int) (6)) (63))),.int .u8 (cg .u8 (128) (bx .i32 (x:Int) (63)))] 1 false (some (5,0)))]))∧(¬65536≤(x:Int)→True∧(0≤bx .i32 (x:Int) (63)∧bx .i32 (x:Int) (63)≤255)∧True∧Int.NonNeg (6-0)∧True∧(0≤bx .i32 (bD .i32 (x:Int) (6)) (63)∧bx .i32 (bD .i32 (x:Int) (6)) (63)≤255)∧True∧Int.NonNeg (6-0)∧(0≤bD .i32 (bD .i32 (x:Int) (6)) (6)∧bD .i32 (bD .i32 (x:Int) (6)) (6)≤255)∧True∧U (.str [UInt8.ofNat (Int.toNat (cg .u8 (bD .i32 (bD .i32 (x:Int) 6) 6) 224)),UInt8.ofNat (Int.toNat (cg .u8 128 (bx .i32 (bD .i32 (x:Int) 6) 63))),UInt8.ofNat (Int.toNat (cg .u8 128 (bx .i32 (x:Int) 63)))]) (j.ar 80 [(0,(R.made ([.int .i32 (x:Int)]) 1 true)),(37,(R.made ([.agg [.int .u8 (cg .u8 (bD .i32 (bD .i32 (x:Int) (6)) (6)) (224)),.int .u8 (cg .u8 (128) (bx .i32 (bD .i32 (x:Int) (6)) (63))),.int .u8 (cg .u8 (128) (bx .i32 (x:Int) (63))),.int .u8 0]]) 4 true (some (95,4)))),(72,R.made [.int .u8 (cg .u8 (bD .i32 (bD .i32 (x:Int) (6)) (6)) (224)),.int .u8 (cg .u8 (128) (bx .i32 (bD .i32 (x:Int) (6)) (63))),.int .u8 (cg .u8 (128) (bx .i32 (x:Int) (63)))] 1 false (some (5,0)))]))) :
 ∃v p,aI Tryz.prog aw 51 [.slice (some ⟨0,0,0,0,1⟩) 1 1] (j.rows 1 [(0,k' x)]) v p∧U v p :=
 cb bQ mixed c8 (an:= .aA (.rounds 300) (he 5002 (.aA (.val 1004 (.bool true)) (.aA (.val 1007 (.bool false)) (.aA (.val 1012 (.bool false)) (.aA (.val 3001 (.bool false)) (.aA (.val 6001 (.bool true)) (.aK 8001 (ag 15001 (ag 15002 (ag 15003 (ag 16001 Qn)))) Qn)))))))) (by kernel_rfl) aY
theorem ac0(H H1 aH:j)(r q x k:Nat)(s:Bytes)(U:o→j→Prop)(aY:bF (H.next) (H.next) (bF (H.next) (H.next+1) (b0 env e7 (H.next+2) (bU [(7,.int .i32 (r:Int)),(4,.slice none 0 0),(0,.int .i32 (r:Int)),(1,.int .u8 0)]) (j.mk (H.next+6) (H.2)) (Op.buildSlice 84 1 {toList:=[(0,Operand.tmp 7)]})=some (o.slice (some ⟨q,0,0,0,1⟩) 1 1,H1)∧c7 Tryz.prog aw 51 [.slice (some ⟨q,0,0,0,1⟩) 1 1] H1 (.str s) H1∧eO env (H.next+4) (bU [(9,.str s),(8,.slice (some ⟨q,0,0,0,1⟩) 1 1),(7,.int .i32 (r:Int)),(4,.slice none 0 0),(0,.int .i32 (r:Int)),(1,.int .u8 0)]) H1 (Op.convert 9 34 (Operand.tmp 9))=some (o.slice (some ⟨x,0,0,0,1⟩) k k,aH)∧bF (H.next) (aH.next) (bF (H.next) (aH.next+3) (bK (H.next) (aH.next+5) (U (.slice (some ⟨x,0,0,0,1⟩) k k) (j.mk (aH.next+3+2) (j.aJ (j.mk (aH.next+3) (j.aJ aH)))))))))) :
 ∃v p,aI Tryz.prog aw 42 [.int .i32 r,.int .u8 0] H v p∧U v p :=
 cb bQ mixed c8 (an:= .aA (.act 1001 (.slice (some ⟨q,0,0,0,1⟩) 1 1) fun x=>H1) (.aA (.val 1002 (.str s)) (.aA (.kZ 1003 (.slice (some ⟨x,0,0,0,1⟩) k k) fun x=>aH) .nil))) (by kernel_rfl) aY
abbrev la(q:Nat):o:=o.slice (some ⟨q,0,0,0,1⟩) 1 1
theorem ac1(H H1 aH aZ bJ:j)(r q x y k:Nat)(s:Bytes)(v:o)(U:o→j→Prop)(aY:bF (H.next) (H.next) (bF (H.next) (H.next+1) (b0 env e7 (H.next+2) (bU [(7,.int .i32 (r:Int)),(4,.slice none 0 0),(0,.int .i32 (r:Int)),(1,.int .u8 2)]) (j.mk (H.next+6) (H.2)) (Op.buildSlice 84 1 {toList:=[(0,Operand.tmp 7)]})=some ((la q),H1)∧c7 Tryz.prog aw 51 [(la q)] H1 (.str s) H1∧eO env (H.next+4) (bU [(9,.str s),(8,(la q)),(7,.int .i32 (r:Int)),(4,.slice none 0 0),(0,.int .i32 (r:Int)),(1,.int .u8 2)]) H1 (Op.convert 9 34 (Operand.tmp 9))=some (o.slice (some ⟨x,0,0,0,1⟩) k k,aH)∧bF (H.next) (aH.next) (bF (H.next) (aH.next+3) (some (o.bool ((r:Int) != 91))=some (o.bool true)∧some (o.bool ((r:Int) != 79))=some (o.bool true)∧bF (H.next) (aH.next+14) (b0 env e7 (aH.next+14) (bU [(15,.bool true),(25,.bool true),(24,.bool true),(23,.int .i32 (r:Int)),(22,.bool true),(21,.bool true),(20,.bool true),(19,.int .i32 (r:Int)),(18,.bool true),(17,.bool true),(16,.int .u8 2),(11,.bool false),(13,.bool false),(12,.int .u8 2),(5,.slice (some ⟨x,0,0,0,1⟩) k k),(10,.slice (some ⟨x,0,0,0,1⟩) k k),(9,.str s),(8,(la q)),(7,.int .i32 (r:Int)),(4,.slice none 0 0),(0,.int .i32 (r:Int)),(1,.int .u8 2)]) (j.mk (aH.next+18) (aH.2)) (Op.buildSlice 34 1 {toList:=[(0,Operand.const (Value.int .u8 (27)))]})=some (o.slice (some ⟨y,0,0,0,1⟩) 1 1,aZ)∧fZ env Builtin.append {toList:=[34,34]} [.slice (some ⟨y,0,0,0,1⟩) 1 1,.slice (some ⟨x,0,0,0,1⟩) k k] (aH.next+16) aZ=some (v,bJ)∧bK (H.next) (bJ.next) (U v bJ))))))) :
 ∃v p,aI Tryz.prog aw 42 [.int .i32 r,.int .u8 2] H v p∧U v p :=
 cb bQ mixed c8 (an:= .aA (.act 1001 ((la q)) fun x=>H1) (.aA (.val 1002 (.str s)) (.aA (.kZ 1003 (.slice (some ⟨x,0,0,0,1⟩) k k) fun x=>aH) (.aA (.val 4004 (.bool true)) (.aA (.val 4008 (.bool true)) (.aA (.act 5000 (.slice (some ⟨y,0,0,0,1⟩) 1 1) fun x=>aZ) (.aA (.act 5002 v fun x=>bJ) .nil))))))) (by kernel_rfl) aY
theorem ac2(H H1 aH aZ bJ:j)(r m q x y k:Nat)(s:Bytes)(v:o)(U:o→j→Prop)(aY:bF (H.next) (H.next) (bF (H.next) (H.next+1) (b0 env e7 (H.next+2) (bU [(7,.int .i32 (r:Int)),(4,.slice none 0 0),(0,.int .i32 (r:Int)),(1,.int .u8 (m:Int))]) (j.mk (H.next+6) (H.2)) (Op.buildSlice 84 1 {toList:=[(0,Operand.tmp 7)]})=some ((la q),H1)∧c7 Tryz.prog aw 51 [(la q)] H1 (.str s) H1∧eO env (H.next+4) (bU [(9,.str s),(8,(la q)),(7,.int .i32 (r:Int)),(4,.slice none 0 0),(0,.int .i32 (r:Int)),(1,.int .u8 (m:Int))]) H1 (Op.convert 9 34 (Operand.tmp 9))=some (o.slice (some ⟨x,0,0,0,1⟩) k k,aH)∧bF (H.next) (aH.next) (some (o.bool ((m:Int) == 0))=some (o.bool false)∧bF (H.next) (aH.next+3) (some (o.bool ((m:Int) == 2))=some (o.bool false)∧bF (H.next) (aH.next+14) (True∧some (o.bool (dP .u8 (m:Int) 2 == 4))=some (o.bool false)∧bF (H.next) (aH.next+18) ((-9223372036854775808≤(r:Int)∧(r:Int)≤9223372036854775807)∧(-9223372036854775808≤(m:Int)∧(m:Int)≤9223372036854775807)∧(-9223372036854775808≤(m:Int)+1∧(m:Int)+1≤9223372036854775807)∧b0 env e7 (aH.next+23) (bU [(81,.int .i64 ((m:Int)+1)),(80,.int .i64 (m:Int)),(79,.int .u8 (m:Int)),(78,.int .i64 (r:Int)),(77,.int .i32 (r:Int)),(29,.bool false),(32,.bool false),(31,.int .u8 (dP .u8 (m:Int) (2))),(30,.int .u8 (m:Int)),(15,.bool false),(25,.bool false),(24,.tuple []),(23,.tuple []),(22,.bool false),(21,.bool false),(20,.tuple []),(19,.tuple []),(18,.bool false),(17,.bool false),(16,.int .u8 (m:Int)),(11,.bool false),(13,.bool false),(12,.int .u8 (m:Int)),(5,.slice (some ⟨x,0,0,0,1⟩) k k),(10,.slice (some ⟨x,0,0,0,1⟩) k k),(9,.str s),(8,(la q)),(7,.int .i32 (r:Int)),(4,.slice none 0 0),(0,.int .i32 (r:Int)),(1,.int .u8 (m:Int))]) (j.mk (aH.next+26) (aH.2)) (Op.buildSlice 102 2 {toList:=[(0,Operand.tmp 78),(1,Operand.tmp 81)]})=some ((j1 y),aZ)∧c7 Tryz.prog aw 44 [.str [117],(j1 y)] aZ v bJ∧bK (H.next) (bJ.next) (U v bJ)))))))) :
 ∃v p,aI Tryz.prog aw 42 [.int .i32 r,.int .u8 m] H v p∧U v p :=
 cb bQ mixed c8 (an:= .aA (.act 1001 ((la q)) fun x=>H1) (.aA (.val 1002 (.str s)) (.aA (.kZ 1003 (.slice (some ⟨x,0,0,0,1⟩) k k) fun x=>aH) (.aA (.val 2001 (.bool false)) (.aA (.val 4001 (.bool false)) (ag 6001 (.aA (.val 6002 (.bool false)) (ag 17001 (ag 17003 (ag 17004 (.aA (.act 17005 ((j1 y)) fun x=>aZ) (.aA (.act 17006 v fun x=>bJ) .nil)))))))))))) (by kernel_rfl) aY
theorem ac3(H H1 aH aZ bJ:j)(r m q x y k:Nat)(s:Bytes)(v:o)(U:o→j→Prop)(aY:bF (H.next) (H.next) (bF (H.next) (H.next+1) (b0 env e7 (H.next+2) (bU [(7,.int .i32 (r:Int)),(4,.slice none 0 0),(0,.int .i32 (r:Int)),(1,.int .u8 (m:Int))]) (j.mk (H.next+6) (H.2)) (Op.buildSlice 84 1 {toList:=[(0,Operand.tmp 7)]})=some ((la q),H1)∧c7 Tryz.prog aw 51 [(la q)] H1 (.str s) H1∧eO env (H.next+4) (bU [(9,.str s),(8,(la q)),(7,.int .i32 (r:Int)),(4,.slice none 0 0),(0,.int .i32 (r:Int)),(1,.int .u8 (m:Int))]) H1 (Op.convert 9 34 (Operand.tmp 9))=some (o.slice (some ⟨x,0,0,0,1⟩) k k,aH)∧bF (H.next) (aH.next) (some (o.bool ((m:Int) == 0))=some (o.bool false)∧bF (H.next) (aH.next+3) (some (o.bool ((m:Int) == 2))=some (o.bool false)∧bF (H.next) (aH.next+14) (True∧some (o.bool (dP .u8 (m:Int) 2 == 4))=some (o.bool true)∧bF (H.next) (aH.next+18) (bF (H.next) (aH.next+19) (some (o.bool ((r:Int) == 32))=some (o.bool false)∧bF (H.next) (aH.next+22) (some (o.bool (decide ((r:Int)≥97)))=some (o.bool true)∧some (o.bool (decide ((r:Int)≤122)))=some (o.bool false)∧bF (H.next) (aH.next+37) (some (o.bool (decide ((r:Int)≥92)))=some (o.bool true)∧some (o.bool (decide ((r:Int)≤95)))=some (o.bool false)∧bF (H.next) (aH.next+44) ((-9223372036854775808≤(r:Int)∧(r:Int)≤9223372036854775807)∧(-9223372036854775808≤(m:Int)∧(m:Int)≤9223372036854775807)∧(-9223372036854775808≤(m:Int)+1∧(m:Int)+1≤9223372036854775807)∧b0 env e7 (aH.next+49) (bU [(37,.int .i64 ((m:Int)+1)),(36,.int .i64 (m:Int)),(35,.int .u8 (m:Int)),(34,.int .i64 (r:Int)),(33,.int .i32 (r:Int)),(61,.bool false),(67,.bool false),(66,.bool false),(65,.int .i32 (r:Int)),(64,.bool true),(63,.bool true),(62,.int .i32 (r:Int)),(43,.bool false),(57,.bool false),(56,.tuple []),(55,.tuple []),(54,.bool false),(53,.bool false),(52,.tuple []),(51,.tuple []),(50,.bool false),(49,.bool false),(48,.bool false),(47,.int .i32 (r:Int)),(46,.bool true),(45,.bool true),(44,.int .i32 (r:Int)),(40,.bool false),(42,.bool false),(41,.int .i32 (r:Int)),(6,.int .u8 0),(29,.bool true),(32,.bool true),(31,.int .u8 (dP .u8 (m:Int) (2))),(30,.int .u8 (m:Int)),(15,.bool false),(25,.bool false),(24,.tuple []),(23,.tuple []),(22,.bool false),(21,.bool false),(20,.tuple []),(19,.tuple []),(18,.bool false),(17,.bool false),(16,.int .u8 (m:Int)),(11,.bool false),(13,.bool false),(12,.int .u8 (m:Int)),(5,.slice (some ⟨x,0,0,0,1⟩) k k),(10,.slice (some ⟨x,0,0,0,1⟩) k k),(9,.str s),(8,(la q)),(7,.int .i32 (r:Int)),(4,.slice none 0 0),(0,.int .i32 (r:Int)),(1,.int .u8 (m:Int))]) (j.mk (aH.next+52) (aH.2)) (Op.buildSlice 102 2 {toList:=[(0,Operand.tmp 34),(1,Operand.tmp 37)]})=some ((j1 y),aZ)∧c7 Tryz.prog aw 44 [.str [117],(j1 y)] aZ v bJ∧bK (H.next) (bJ.next) (U v bJ)))))))))))) :
 ∃v p,aI Tryz.prog aw 42 [.int .i32 r,.int .u8 m] H v p∧U v p :=
 cb bQ mixed c8 (an:= .aA (.act 1001 ((la q)) fun x=>H1) (.aA (.val 1002 (.str s)) (.aA (.kZ 1003 (.slice (some ⟨x,0,0,0,1⟩) k k) fun x=>aH) (.aA (.val 2001 (.bool false)) (.aA (.val 4001 (.bool false)) (ag 6001 (.aA (.val 6002 (.bool true)) (.aA (.val 9001 (.bool false)) (.aA (.val 10001 (.bool true)) (.aA (.val 10004 (.bool false)) (.aA (.val 12001 (.bool true)) (.aA (.val 12004 (.bool false)) (ag 8001 (ag 8003 (ag 8004 (.aA (.act 8005 ((j1 y)) fun x=>aZ) (.aA (.act 8006 v fun x=>bJ) .nil))))))))))))))))) (by kernel_rfl) aY
theorem Qo(H:j)(B q i z:Nat)(k:Int)(m:Nat)(U:dc→bP→j→Prop)(aY:bF B (H.next) (((i:Int)<6→bF B (H.next+1) ((0≤(i:Int)∧(i:Int)<6)∧cj env.D 5 ⟨q,0,0+Int.toNat (i:Int),0,1⟩ (j.mk (H.next+4) (H.2))=some (.int .u8 (z:Int))∧bF B (H.next+4) (some (o.bool (hi (z:Int) != k))=some (o.bool true)∧bF B (H.next+8) ((-9223372036854775808≤(i:Int)+1∧(i:Int)+1≤9223372036854775807)∧U .normal [(0,.int .i32 k),(1,.int .u8 (m:Int)),(5,.int .i64 ((m:Int)+1)),(52,.slice (some ⟨q,0,0,0,1⟩) 6 6),(53,.int .i64 6),(54,.int .i64 ((i:Int)+1))] (j.mk (H.next+8+2) (j.aJ (j.mk (H.next+4+4) (j.aJ (j.mk (H.next+1+3) (j.aJ (j.mk (H.next+1) (j.aJ H))))))))))))∧(¬(i:Int)<6→U (.exit 1) [(0,.int .i32 k),(1,.int .u8 (m:Int)),(5,.int .i64 ((m:Int)+1)),(52,.slice (some ⟨q,0,0,0,1⟩) 6 6),(53,.int .i64 6),(54,.int .i64 (i:Int))] (j.mk (H.next+1) (j.aJ H))))) :
 ∃e aW p,cx Tryz.prog aw B 111 (cF Tryz.prog 43 0) [(0,.int .i32 k),(1,.int .u8 m),(5,.int .i64 (m+1)),(52,.slice (some ⟨q,0,0,0,1⟩) 6 6),(53,.int .i64 6),(54,.int .i64 i)] H e aW p∧U e aW p :=
 gm bQ mixed c8 (an:= .aK 12000 (ag 13000 (.aA (.val 13001 (.int .u8 (z:Int))) (.aA (.val 14003 (.bool true)) (ag 18000 .nil)))) .nil) (cs:=[0,1,5,52,53,54]) (by kernel_rfl) aY
abbrev Qp(H:j):j:=(j.mk (H.next+10+3) (j.aJ (j.mk (H.next+2+8) (j.aJ (j.mk (H.next+2) (j.aJ H))))))
theorem Qq(H:j)(B i:Nat)(k:Int)(m:Nat)(U:dc→bP→j→Prop)(aY:bF B (H.next) (((i:Int)≤24→bF B (H.next+2) ((0<k→some (o.bool (hO (i:Int) == k))=some (o.bool false)∧bF B (H.next+10) ((-9223372036854775808≤(i:Int)+1∧(i:Int)+1≤9223372036854775807)∧U .normal [(0,.int .i32 k),(1,.int .u8 (m:Int)),(5,.int .i64 ((m:Int)+1)),(9,.int .i64 ((i:Int)+1))] (Qp H)))∧(¬0<k→bF B (H.next+10) ((-9223372036854775808≤(i:Int)+1∧(i:Int)+1≤9223372036854775807)∧U .normal [(0,.int .i32 k),(1,.int .u8 (m:Int)),(5,.int .i64 ((m:Int)+1)),(9,.int .i64 ((i:Int)+1))] (Qp H)))))∧(¬(i:Int)≤24→U (.exit 3) [(0,.int .i32 k),(1,.int .u8 (m:Int)),(5,.int .i64 ((m:Int)+1)),(9,.int .i64 (i:Int))] (j.mk (H.next+2) (j.aJ H))))) :
 ∃e aW p,cx Tryz.prog aw B 111 (cF Tryz.prog 43 1) [(0,.int .i32 k),(1,.int .u8 m),(5,.int .i64 (m+1)),(9,.int .i64 i)] H e aW p∧U e aW p :=
 gm bQ mixed c8 (an:= .aK 22001 (.aK 24001 (.aA (.val 24006 (.bool false)) (ag 23001 .nil)) (ag 23001 .nil)) .nil) (cs:=[0,1,5,9]) (by kernel_rfl) aY
abbrev kL(q:Nat):o:=o.slice (some ⟨q,0,0,0,1⟩) 6 6
abbrev yJ(aZ:j)(m:Nat)(k:Int):dk:=(.aA (.loop [(0,.int .i32 k),(1,.int .u8 (m:Int)),(5,.int .i64 ((m:Int)+1)),(9,.int .i64 25)] aZ (.exit 3)) .nil)
theorem ac4(H H1 aH aZ:j)(q m:Nat)(k:Int)(ep:o)(U:o→j→Prop)(aY:bF (H.next) (H.next) (bF (H.next) (H.next+1) ((-9223372036854775808≤(m:Int)∧(m:Int)≤9223372036854775807)∧(-9223372036854775808≤(m:Int)+1∧(m:Int)+1≤9223372036854775807)∧bF (H.next) (H.next+5) (some (o.bool (decide (k≥1)))=some (o.bool false)∧bF (H.next) (H.next+11) (b0 env e7 (H.next+11) (bU [(18,.bool false),(17,.tuple []),(16,.tuple []),(15,.bool false),(14,.bool false),(13,.int .i32 k),(5,.int .i64 ((m:Int)+1)),(12,.int .i64 ((m:Int)+1)),(11,.int .i64 (m:Int)),(10,.int .u8 (m:Int)),(4,.slice none 0 0),(0,.int .i32 k),(1,.int .u8 (m:Int))]) (j.mk (H.next+15) (H.2)) (Op.buildSlice 34 6 {toList:=[(0,Operand.const (Value.int .u8 (65))),(1,Operand.const (Value.int .u8 (66))),(2,Operand.const (Value.int .u8 (67))),(3,Operand.const (Value.int .u8 (68))),(4,Operand.const (Value.int .u8 (72))),(5,Operand.const (Value.int .u8 (70)))]})=some ((kL q),H1)∧eO env (H.next+12) (bU [(51,(kL q)),(18,.bool false),(17,.tuple []),(16,.tuple []),(15,.bool false),(14,.bool false),(13,.int .i32 k),(5,.int .i64 ((m:Int)+1)),(12,.int .i64 ((m:Int)+1)),(11,.int .i64 (m:Int)),(10,.int .u8 (m:Int)),(4,.slice none 0 0),(0,.int .i32 k),(1,.int .u8 (m:Int))]) H1 (Op.convert 34 34 (Operand.tmp 51))=some ((kL q),H1)∧cx Tryz.prog aw (H.next) 111 (Code.loop (cF Tryz.prog 43 0)) [(0,.int .i32 k),(1,.int .u8 (m:Int)),(5,.int .i64 ((m:Int)+1)),(52,(kL q)),(53,.int .i64 6),(54,.int .i64 0)] H1 (.exit 1) [(0,.int .i32 k),(1,.int .u8 (m:Int)),(5,.int .i64 ((m:Int)+1)),(52,(kL q)),(53,.int .i64 6),(54,ep)] aH∧bF (H.next) (aH.next) (((m:Int)=0→some (o.bool (decide (k≥21)))=some (o.bool false)∧bF (H.next) (aH.next+10) (cx Tryz.prog aw (H.next) 111 (Code.loop (cF Tryz.prog 43 1)) [(0,.int .i32 k),(1,.int .u8 (m:Int)),(5,.int .i64 ((m:Int)+1)),(9,.int .i64 2)] (j.mk (aH.next+10+1) (j.aJ (j.mk (aH.next+10) (j.aJ aH)))) (.exit 3) [(0,.int .i32 k),(1,.int .u8 (m:Int)),(5,.int .i64 ((m:Int)+1)),(9,.int .i64 25)] aZ∧bF (H.next) (aZ.next) (bK (H.next) (aZ.next+1) (U (.slice none 0 0) (j.mk (aZ.next+1) (j.aJ aZ))))))∧(¬(m:Int)=0→bF (H.next) (aH.next+10) (cx Tryz.prog aw (H.next) 111 (Code.loop (cF Tryz.prog 43 1)) [(0,.int .i32 k),(1,.int .u8 (m:Int)),(5,.int .i64 ((m:Int)+1)),(9,.int .i64 2)] (j.mk (aH.next+10+1) (j.aJ (j.mk (aH.next+10) (j.aJ aH)))) (.exit 3) [(0,.int .i32 k),(1,.int .u8 (m:Int)),(5,.int .i64 ((m:Int)+1)),(9,.int .i64 25)] aZ∧bF (H.next) (aZ.next) (bK (H.next) (aZ.next+1) (U (.slice none 0 0) (j.mk (aZ.next+1) (j.aJ aZ)))))))))))) :
 ∃v p,aI Tryz.prog aw 43 [.int .i32 k,.int .u8 m] H v p∧U v p :=
 cb bQ mixed c8 (an:=ag 1001 (ag 1002 (.aA (.val 2001 (.bool false)) (.aA (.act 11000 ((kL q)) fun x=>H1) (.aA (.kZ 11001 ((kL q)) fun h=>h) (.aA (.cs [0,1,5,52,53,54]) (.aA (.loop [(0,.int .i32 k),(1,.int .u8 (m:Int)),(5,.int .i64 ((m:Int)+1)),(52,(kL q)),(53,.int .i64 6),(54,ep)] aH (.exit 1)) (.aK 19001 (.aA (.val 19004 (.bool false)) (.aA (.cs [0,1,5,9]) (yJ aZ m k))) (.aA (.cs [0,1,5,9]) (yJ aZ m k)))))))))) (by kernel_rfl) aY
abbrev IF(aH:j):j:=(j.mk (aH.next+10+1) (j.aJ (j.mk (aH.next+10) (j.aJ aH))))
theorem ac5(H H1 aH aZ:j)(q m:Nat)(k:Int)(ep:o)(U:o→j→Prop)(aY:bF (H.next) (H.next) (bF (H.next) (H.next+1) ((-9223372036854775808≤(m:Int)∧(m:Int)≤9223372036854775807)∧(-9223372036854775808≤(m:Int)+1∧(m:Int)+1≤9223372036854775807)∧bF (H.next) (H.next+5) (some (o.bool (decide (k≥1)))=some (o.bool true)∧some (o.bool (decide (k≤4)))=some (o.bool false)∧bF (H.next) (H.next+11) (b0 env e7 (H.next+11) (bU [(18,.bool false),(17,.bool false),(16,.int .i32 k),(15,.bool true),(14,.bool true),(13,.int .i32 k),(5,.int .i64 ((m:Int)+1)),(12,.int .i64 ((m:Int)+1)),(11,.int .i64 (m:Int)),(10,.int .u8 (m:Int)),(4,.slice none 0 0),(0,.int .i32 k),(1,.int .u8 (m:Int))]) (j.mk (H.next+15) (H.2)) (Op.buildSlice 34 6 {toList:=[(0,Operand.const (Value.int .u8 (65))),(1,Operand.const (Value.int .u8 (66))),(2,Operand.const (Value.int .u8 (67))),(3,Operand.const (Value.int .u8 (68))),(4,Operand.const (Value.int .u8 (72))),(5,Operand.const (Value.int .u8 (70)))]})=some ((kL q),H1)∧eO env (H.next+12) (bU [(51,(kL q)),(18,.bool false),(17,.bool false),(16,.int .i32 k),(15,.bool true),(14,.bool true),(13,.int .i32 k),(5,.int .i64 ((m:Int)+1)),(12,.int .i64 ((m:Int)+1)),(11,.int .i64 (m:Int)),(10,.int .u8 (m:Int)),(4,.slice none 0 0),(0,.int .i32 k),(1,.int .u8 (m:Int))]) H1 (Op.convert 34 34 (Operand.tmp 51))=some ((kL q),H1)∧cx Tryz.prog aw (H.next) 111 (Code.loop (cF Tryz.prog 43 0)) [(0,.int .i32 k),(1,.int .u8 (m:Int)),(5,.int .i64 ((m:Int)+1)),(52,(kL q)),(53,.int .i64 6),(54,.int .i64 0)] H1 (.exit 1) [(0,.int .i32 k),(1,.int .u8 (m:Int)),(5,.int .i64 ((m:Int)+1)),(52,(kL q)),(53,.int .i64 6),(54,ep)] aH∧bF (H.next) (aH.next) (((m:Int)=0→(21≤k→some (o.bool (decide (k<25)))=some (o.bool false)∧bF (H.next) (aH.next+10) (cx Tryz.prog aw (H.next) 111 (Code.loop (cF Tryz.prog 43 1)) [(0,.int .i32 k),(1,.int .u8 (m:Int)),(5,.int .i64 ((m:Int)+1)),(9,.int .i64 2)] (IF aH) (.exit 3) [(0,.int .i32 k),(1,.int .u8 (m:Int)),(5,.int .i64 ((m:Int)+1)),(9,.int .i64 25)] aZ∧bF (H.next) (aZ.next) (bK (H.next) (aZ.next+1) (U (.slice none 0 0) (j.mk (aZ.next+1) (j.aJ aZ))))))∧(¬21≤k→bF (H.next) (aH.next+10) (cx Tryz.prog aw (H.next) 111 (Code.loop (cF Tryz.prog 43 1)) [(0,.int .i32 k),(1,.int .u8 (m:Int)),(5,.int .i64 ((m:Int)+1)),(9,.int .i64 2)] (IF aH) (.exit 3) [(0,.int .i32 k),(1,.int .u8 (m:Int)),(5,.int .i64 ((m:Int)+1)),(9,.int .i64 25)] aZ∧bF (H.next) (aZ.next) (bK (H.next) (aZ.next+1) (U (.slice none 0 0) (j.mk (aZ.next+1) (j.aJ aZ)))))))∧(¬(m:Int)=0→bF (H.next) (aH.next+10) (cx Tryz.prog aw (H.next) 111 (Code.loop (cF Tryz.prog 43 1)) [(0,.int .i32 k),(1,.int .u8 (m:Int)),(5,.int .i64 ((m:Int)+1)),(9,.int .i64 2)] (IF aH) (.exit 3) [(0,.int .i32 k),(1,.int .u8 (m:Int)),(5,.int .i64 ((m:Int)+1)),(9,.int .i64 25)] aZ∧bF (H.next) (aZ.next) (bK (H.next) (aZ.next+1) (U (.slice none 0 0) (j.mk (aZ.next+1) (j.aJ aZ)))))))))))) :
 ∃v p,aI Tryz.prog aw 43 [.int .i32 k,.int .u8 m] H v p∧U v p :=
 cb bQ mixed c8 (an:=ag 1001 (ag 1002 (.aA (.val 2001 (.bool true)) (.aA (.val 2004 (.bool false)) (.aA (.act 11000 ((kL q)) fun x=>H1) (.aA (.kZ 11001 ((kL q)) fun h=>h) (.aA (.cs [0,1,5,52,53,54]) (.aA (.loop [(0,.int .i32 k),(1,.int .u8 (m:Int)),(5,.int .i64 ((m:Int)+1)),(52,(kL q)),(53,.int .i64 6),(54,ep)] aH (.exit 1)) (.aK 19001 (.aK 19004 (.aA (.val 19008 (.bool false)) (.aA (.cs [0,1,5,9]) (yJ aZ m k))) (.aA (.cs [0,1,5,9]) (yJ aZ m k))) (.aA (.cs [0,1,5,9]) (yJ aZ m k))))))))))) (by kernel_rfl) aY
abbrev c3(k c m x y:Int)(t:Bytes):o:= .agg [.int .i8 k,.int .i32 c,.int .u8 m,.int .i64 x,.int .i64 y,.str t]
theorem ac6(H:j)(c m x y:Int)(t:Bytes)(a:bG)(n:Nat)(U:o→j→Prop)(aY:c7 Tryz.prog aw 40 [.agg [.int .i8 3,.int .i32 c,.int .u8 m,.int .i64 x,.int .i64 y,.str t]] (j.ar 18 [(0,R.made [.agg [.int .i8 3,.int .i32 c,.int .u8 m,.int .i64 x,.int .i64 y,.str t]] 6 true (some (42,6))),(4,(R.made ([.agg [.int .i8 3,.int .i32 0,.int .u8 0,.int .i64 x,.int .i64 y,.str t]]) 6 true (some (42,6))))]) (.slice (some a) n n) H∧U (.tuple [.slice (some a) n n,.int .i64 0]) (j.mk (H.next+2+3) (j.aJ (j.mk (H.next+2) (j.aJ H))))) :
 ∃v p,aI Tryz.prog aw 21 [c3 3 c m x y t] (⟨0,.nil⟩) v p∧U v p :=
 cb bQ mixed c8 (an:= .aA (.act 5001 (.slice (some a) n n) fun x=>H) .nil) (by kernel_rfl) aY
theorem ac7(H:j)(c m x y:Int)(t:Bytes)(U:o→j→Prop)(aY:c7 Tryz.prog aw 40 [.agg [.int .i8 3,.int .i32 c,.int .u8 m,.int .i64 x,.int .i64 y,.str t]] (j.ar 18 [(0,R.made [.agg [.int .i8 3,.int .i32 c,.int .u8 m,.int .i64 x,.int .i64 y,.str t]] 6 true (some (42,6))),(4,(R.made ([.agg [.int .i8 3,.int .i32 0,.int .u8 0,.int .i64 x,.int .i64 y,.str t]]) 6 true (some (42,6))))]) (.slice none 0 0) H∧U (.tuple [.slice none 0 0,.int .i64 220]) (j.mk (H.next+2+2) (j.aJ (j.mk (H.next+2) (j.aJ H))))) :
 ∃v p,aI Tryz.prog aw 21 [c3 3 c m x y t] (⟨0,.nil⟩) v p∧U v p :=
 cb bQ mixed c8 (an:= .aA (.act 5001 (.slice none 0 0) fun x=>H) .nil) (by kernel_rfl) aY
theorem ac8(k:Int)(c m x y:Int)(t:Bytes)(U:o→j→Prop)(aY:some (o.bool (k == 3))=some (o.bool false)∧some (o.bool (decide (m>7)))=some (o.bool true)∧U (.tuple [.slice none 0 0,.int .i64 220]) (j.ar 23 [(0,R.made [.agg [.int .i8 k,.int .i32 c,.int .u8 m,.int .i64 x,.int .i64 y,.str t]] 6 true (some (42,6))),(4,(R.made ([.agg [.int .i8 k,.int .i32 0,.int .u8 0,.int .i64 x,.int .i64 y,.str t]]) 6 true (some (42,6))))])) :
 ∃v p,aI Tryz.prog aw 21 [c3 k c m x y t] (⟨0,.nil⟩) v p∧U v p :=
 cb bQ mixed c8 (an:= .aA (.val 4002 (.bool false)) (.aA (.val 6002 (.bool true)) .nil)) (by kernel_rfl) aY
abbrev IG(c:Int)(m:Int):o:=o.agg [.int .i8 1,.int .i32 c,.int .u8 m,.int .i64 0,.int .i64 0,.str []]
abbrev IH:o:=o.agg [.int .i8 1,.int .i32 0,.int .u8 0,.int .i64 0,.int .i64 0,.str []]
abbrev Cp(c:Int)(m:Int):j:=(j.ar 33 [(0,R.made [(IG c m)] 6 true (some (42,6))),(4,(R.made ([IH]) 6 true (some (42,6))))])
theorem ac9(H:j)(c m:Int)(a:bG)(n:Nat)(U:o→j→Prop)(aY:some (o.bool (decide (m>7)))=some (o.bool false)∧c7 Tryz.prog aw 41 [.int .i32 c] (Cp c m) (.bool true) (Cp c m)∧c7 Tryz.prog aw 42 [.int .i32 c,.int .u8 m] (j.ar 39 [(0,R.made [(IG c m)] 6 true (some (42,6))),(4,(R.made ([IH]) 6 true (some (42,6))))]) (.slice (some a) n n) H∧U (.tuple [.slice (some a) n n,.int .i64 0]) (j.mk (H.next+2+3) (j.aJ (j.mk (H.next+2) (j.aJ H))))) :
 ∃v p,aI Tryz.prog aw 21 [c3 1 c m 0 0 []] (⟨0,.nil⟩) v p∧U v p :=
 cb bQ mixed c8 (an:= .aA (.val 6002 (.bool false)) (.aA (.val 7011 (.bool true)) (.aA (.act 8004 (.slice (some a) n n) fun x=>H) .nil))) (by kernel_rfl) aY
theorem ac'(c m x y:Int)(t:Bytes)(U:o→j→Prop)(aY:some (o.bool (decide (m>7)))=some (o.bool false)∧some (o.bool (1 == 1&&(0 == 0&&(0 == 0&&(x == 0&&(y == 0&&(t ==[]&&true)))))))=some (o.bool false)∧U (.tuple [.slice none 0 0,.int .i64 220]) (j.ar 84 [(0,R.made [.agg [.int .i8 1,.int .i32 c,.int .u8 m,.int .i64 x,.int .i64 y,.str t]] 6 true (some (42,6))),(4,(R.made ([.agg [.int .i8 1,.int .i32 0,.int .u8 0,.int .i64 x,.int .i64 y,.str t]]) 6 true (some (42,6))))])) :
 ∃v p,aI Tryz.prog aw 21 [c3 1 c m x y t] (⟨0,.nil⟩) v p∧U v p :=
 cb bQ mixed c8 (an:= .aA (.val 6002 (.bool false)) (.aA (.val 7006 (.bool false)) .nil)) (by kernel_rfl) aY
theorem ada(c m:Int)(U:o→j→Prop)(aY:some (o.bool (decide (m>7)))=some (o.bool false)∧c7 Tryz.prog aw 41 [.int .i32 c] (Cp c m) (.bool false) (Cp c m)∧U (.tuple [.slice none 0 0,.int .i64 220]) (j.ar 84 [(0,R.made [(IG c m)] 6 true (some (42,6))),(4,(R.made ([IH]) 6 true (some (42,6))))])) :
 ∃v p,aI Tryz.prog aw 21 [c3 1 c m 0 0 []] (⟨0,.nil⟩) v p∧U v p :=
 cb bQ mixed c8 (an:= .aA (.val 6002 (.bool false)) (.aA (.val 7011 (.bool false)) .nil)) (by kernel_rfl) aY
theorem adb(H:j)(c m:Int)(a:bG)(n:Nat)(U:o→j→Prop)(aY:some (o.bool (decide (m>7)))=some (o.bool false)∧c7 Tryz.prog aw 43 [.int .i32 c,.int .u8 m] (j.ar 48 [(0,R.made [.agg [.int .i8 2,.int .i32 c,.int .u8 m,.int .i64 0,.int .i64 0,.str []]] 6 true (some (42,6))),(4,(R.made ([.agg [.int .i8 2,.int .i32 0,.int .u8 0,.int .i64 0,.int .i64 0,.str []]]) 6 true (some (42,6))))]) (.slice (some a) n n) H∧U (.tuple [.slice (some a) n n,.int .i64 0]) (j.mk (H.next+2+3) (j.aJ (j.mk (H.next+2) (j.aJ H))))) :
 ∃v p,aI Tryz.prog aw 21 [c3 2 c m 0 0 []] (⟨0,.nil⟩) v p∧U v p :=
 cb bQ mixed c8 (an:= .aA (.val 6002 (.bool false)) (.aA (.act 10004 (.slice (some a) n n) fun x=>H) .nil)) (by kernel_rfl) aY
theorem ade(H:j)(c m:Int)(U:o→j→Prop)(aY:some (o.bool (decide (m>7)))=some (o.bool false)∧c7 Tryz.prog aw 43 [.int .i32 c,.int .u8 m] (j.ar 48 [(0,R.made [.agg [.int .i8 2,.int .i32 c,.int .u8 m,.int .i64 0,.int .i64 0,.str []]] 6 true (some (42,6))),(4,(R.made ([.agg [.int .i8 2,.int .i32 0,.int .u8 0,.int .i64 0,.int .i64 0,.str []]]) 6 true (some (42,6))))]) (.slice none 0 0) H∧U (.tuple [.slice none 0 0,.int .i64 220]) (j.mk (H.next+2+2) (j.aJ (j.mk (H.next+2) (j.aJ H))))) :
 ∃v p,aI Tryz.prog aw 21 [c3 2 c m 0 0 []] (⟨0,.nil⟩) v p∧U v p :=
 cb bQ mixed c8 (an:= .aA (.val 6002 (.bool false)) (.aA (.act 10004 (.slice none 0 0) fun x=>H) .nil)) (by kernel_rfl) aY
theorem adf(c m x y:Int)(t:Bytes)(U:o→j→Prop)(aY:some (o.bool (decide (m>7)))=some (o.bool false)∧some (o.bool (2 == 2&&(0 == 0&&(0 == 0&&(x == 0&&(y == 0&&(t ==[]&&true)))))))=some (o.bool false)∧U (.tuple [.slice none 0 0,.int .i64 220]) (j.ar 84 [(0,R.made [.agg [.int .i8 2,.int .i32 c,.int .u8 m,.int .i64 x,.int .i64 y,.str t]] 6 true (some (42,6))),(4,(R.made ([.agg [.int .i8 2,.int .i32 0,.int .u8 0,.int .i64 x,.int .i64 y,.str t]]) 6 true (some (42,6))))])) :
 ∃v p,aI Tryz.prog aw 21 [c3 2 c m x y t] (⟨0,.nil⟩) v p∧U v p :=
 cb bQ mixed c8 (an:= .aA (.val 6002 (.bool false)) (.aA (.val 9006 (.bool false)) .nil)) (by kernel_rfl) aY
theorem adg(H:j)(a:bG)(n:Nat)(U:o→j→Prop)(aY:c7 Tryz.prog aw 44 [.str [79],.slice none 0 0] (j.ar 48 [(0,R.made [qu] 6 true (some (42,6))),(4,(R.made ([qu]) 6 true (some (42,6))))]) (.slice (some a) n n) H∧U (.tuple [.slice (some a) n n,.int .i64 0]) (j.mk (H.next+2+3) (j.aJ (j.mk (H.next+2) (j.aJ H))))) :
 ∃v p,aI Tryz.prog aw 21 [c3 5 0 0 0 0 []] (⟨0,.nil⟩) v p∧U v p :=
 cb bQ mixed c8 (an:= .aA (.act 12000 (.slice (some a) n n) fun x=>H) .nil) (by kernel_rfl) aY
theorem adh(H:j)(a:bG)(n:Nat)(U:o→j→Prop)(aY:c7 Tryz.prog aw 44 [.str [73],.slice none 0 0] (j.ar 52 [(0,R.made [tj] 6 true (some (42,6))),(4,(R.made ([qu]) 6 true (some (42,6))))]) (.slice (some a) n n) H∧U (.tuple [.slice (some a) n n,.int .i64 0]) (j.mk (H.next+2+3) (j.aJ (j.mk (H.next+2) (j.aJ H))))) :
 ∃v p,aI Tryz.prog aw 21 [c3 5 1 0 0 0 []] (⟨0,.nil⟩) v p∧U v p :=
 cb bQ mixed c8 (an:= .aA (.act 14000 (.slice (some a) n n) fun x=>H) .nil) (by kernel_rfl) aY
theorem adi(c m x y:Int)(t:Bytes)(U:o→j→Prop)(aY:some (o.bool (decide (m>7)))=some (o.bool false)∧some (o.bool (5 == 5&&(c == 0&&(m == 0&&(x == 0&&(y == 0&&(t ==[]&&true)))))))=some (o.bool false)∧some (o.bool (5 == 5&&(c == 1&&(m == 0&&(x == 0&&(y == 0&&(t ==[]&&true)))))))=some (o.bool false)∧U (.tuple [.slice none 0 0,.int .i64 220]) (j.ar 84 [(0,R.made [.agg [.int .i8 5,.int .i32 c,.int .u8 m,.int .i64 x,.int .i64 y,.str t]] 6 true (some (42,6))),(4,(R.made ([.agg [.int .i8 5,.int .i32 0,.int .u8 0,.int .i64 x,.int .i64 y,.str t]]) 6 true (some (42,6))))])) :
 ∃v p,aI Tryz.prog aw 21 [c3 5 c m x y t] (⟨0,.nil⟩) v p∧U v p :=
 cb bQ mixed c8 (an:= .aA (.val 6002 (.bool false)) (.aA (.val 11002 (.bool false)) (.aA (.val 13002 (.bool false)) .nil))) (by kernel_rfl) aY
abbrev r3(t:Bytes):o:=o.agg [.int .i8 4,.int .i32 0,.int .u8 0,.int .i64 0,.int .i64 0,.str t]
abbrev tD(t:Bytes):R:=(R.made ([(r3 t)]) 6 true (some (42,6)))
abbrev Qr(t:Bytes):j:=(j.ar 75 [(0,R.made [(r3 t)] 6 true (some (42,6))),(4,(tD t)),(68,R.made [.int .i64 200] 1 true)])
theorem adj(H H1:j)(t:Bytes)(a a2:bG)(n aO:Nat)(U:o→j→Prop)(aY:some (o.bool (4 == 4&&(0 == 0&&(0 == 0&&(0 == 0&&(0 == 0&&(t == t&&true)))))))=some (o.bool true)∧some (o.bool (decide ((↑(List.length t):Int)≤65536)))=some (o.bool true)∧c7 Tryz.prog aw 45 [.str t,.str [27,91,50,48,49,126]] (j.ar 68 [(0,R.made [(r3 t)] 6 true (some (42,6))),(4,(tD t))]) (.bool false) (j.ar 68 [(0,R.made [(r3 t)] 6 true (some (42,6))),(4,(tD t))])∧c7 Tryz.prog aw 44 [.str [126],.slice (some ⟨68,0,0,0,1⟩) 1 1] (Qr t) (.slice (some a) n n) H∧qM 75 (Qr t) H=true∧cj env.D 9 ⟨0,0,0,5,6⟩ H=some (o.str t)∧Nat.le (Nat.succ (List.length t+List.length (Array.toList (ByteArray.data {data:= #[27,91,50,48,49,126]})))) (2^62)∧fZ env Builtin.append {toList:=[34,9]} [.slice (some a) n n,.str (t++[(27:UInt8),(91:UInt8),(50:UInt8),(48:UInt8),(49:UInt8),(126:UInt8)])] 73 H=some (o.slice (some a2) aO aO,H1)∧(bG.id a<68∨75≤bG.id a)∧U (.tuple [.slice (some a2) aO aO,.int .i64 0]) (j.mk (H1.next+2+3) (j.aJ (j.mk (H1.next+2) (j.aJ H1))))) :
 ∃v p,aI Tryz.prog aw 21 [c3 4 0 0 0 0 t] (⟨0,.nil⟩) v p∧U v p :=
 cb bQ mixed c8 (an:= .aA (.val 15004 (.bool true)) (.aA (.val 15009 (.bool true)) (.aA (.val 15014 (.bool false)) (.aA (.act 16001 (.slice (some a) n n) fun x=>H) (.aA (.val 16003 (.str t)) (ag 16004 (.aA (.EG 16005 (.slice (some a2) aO aO) fun x=>H1) .nil))))))) (by kernel_rfl) aY
theorem adk(c m x y:Int)(t:Bytes)(U:o→j→Prop)(aY:some (o.bool (decide (m>7)))=some (o.bool false)∧some (o.bool (4 == 4&&(c == 0&&(m == 0&&(x == 0&&(y == 0&&(t == t&&true)))))))=some (o.bool false)∧U (.tuple [.slice none 0 0,.int .i64 220]) (j.ar 84 [(0,R.made [.agg [.int .i8 4,.int .i32 c,.int .u8 m,.int .i64 x,.int .i64 y,.str t]] 6 true (some (42,6))),(4,(R.made ([.agg [.int .i8 4,.int .i32 0,.int .u8 0,.int .i64 x,.int .i64 y,.str t]]) 6 true (some (42,6))))])) :
 ∃v p,aI Tryz.prog aw 21 [c3 4 c m x y t] (⟨0,.nil⟩) v p∧U v p :=
 cb bQ mixed c8 (an:= .aA (.val 6002 (.bool false)) (.aA (.val 15004 (.bool false)) .nil)) (by kernel_rfl) aY
theorem adl(t:Bytes)(U:o→j→Prop)(aY:some (o.bool (4 == 4&&(0 == 0&&(0 == 0&&(0 == 0&&(0 == 0&&(t == t&&true)))))))=some (o.bool true)∧some (o.bool (decide ((↑(List.length t):Int)≤65536)))=some (o.bool false)∧U (.tuple [.slice none 0 0,.int .i64 220]) (j.ar 84 [(0,R.made [(r3 t)] 6 true (some (42,6))),(4,(tD t))])) :
 ∃v p,aI Tryz.prog aw 21 [c3 4 0 0 0 0 t] (⟨0,.nil⟩) v p∧U v p :=
 cb bQ mixed c8 (an:= .aA (.val 15004 (.bool true)) (.aA (.val 15009 (.bool false)) .nil)) (by kernel_rfl) aY
theorem adm(t:Bytes)(U:o→j→Prop)(aY:some (o.bool (4 == 4&&(0 == 0&&(0 == 0&&(0 == 0&&(0 == 0&&(t == t&&true)))))))=some (o.bool true)∧some (o.bool (decide ((↑(List.length t):Int)≤65536)))=some (o.bool true)∧c7 Tryz.prog aw 45 [.str t,.str [27,91,50,48,49,126]] (j.ar 68 [(0,R.made [(r3 t)] 6 true (some (42,6))),(4,(tD t))]) (.bool true) (j.ar 68 [(0,R.made [(r3 t)] 6 true (some (42,6))),(4,(tD t))])∧U (.tuple [.slice none 0 0,.int .i64 220]) (j.ar 84 [(0,R.made [(r3 t)] 6 true (some (42,6))),(4,(tD t))])) :
 ∃v p,aI Tryz.prog aw 21 [c3 4 0 0 0 0 t] (⟨0,.nil⟩) v p∧U v p :=
 cb bQ mixed c8 (an:= .aA (.val 15004 (.bool true)) (.aA (.val 15009 (.bool true)) (.aA (.val 15014 (.bool true)) .nil))) (by kernel_rfl) aY
abbrev lb(t:Bytes):o:=o.agg [.int .i8 6,.int .i32 0,.int .u8 0,.int .i64 0,.int .i64 0,.str t]
theorem adn(H1 aH aZ bJ fY:j)(t:Bytes)(d n yK:Nat)(a:bG)(a1:Option bG)(U:o→j→Prop)(aY:some (o.bool (6 == 6&&(0 == 0&&(0 == 0&&(0 == 0&&(0 == 0&&(t == t&&true)))))))=some (o.bool true)∧some (o.bool (decide ((↑(List.length t):Int)≤62)))=some (o.bool true)∧c7 Tryz.prog aw 14 [] (j.ar 82 [(0,R.made [(lb t)] 6 true (some (42,6))),(4,(R.made ([(lb t)]) 6 true (some (42,6))))]) (.ptr (some ⟨d,0,0,0,6⟩)) H1∧cj env.D 9 ⟨0,0,0,5,6⟩ (j.mk (H1.next+6) (H1.2))=some (o.str t)∧c7 Tryz.prog aw 44 [.str t,.slice none 0 0] (j.mk (H1.next+6) (H1.2)) (.slice (some a) n n) aH∧c7 Tryz.prog aw 26 [.ptr (some ⟨d,0,0,0,6⟩),.slice (some a) n n] aH (.slice a1 yK yK) aZ∧some (o.bool ((yK:Int) == 1))=some (o.bool false)∧U (.tuple [.slice none 0 0,.int .i64 220]) (j.mk (aZ.next+17+2) (j.aJ (j.mk (aZ.next+15+2) (j.aJ (j.mk (aZ.next+15) (j.aJ aZ))))))) :
 ∃v p,aI Tryz.prog aw 21 [c3 6 0 0 0 0 t] (⟨0,.nil⟩) v p∧U v p :=
 cb bQ mixed c8 (an:= .aA (.val 17004 (.bool true)) (.aA (.val 17009 (.bool true)) (.aA (.act 18000 (.ptr (some ⟨d,0,0,0,6⟩)) fun x=>H1) (.aA (.val 19002 (.str t)) (.aA (.act 19003 (.slice (some a) n n) fun x=>aH) (.aA (.act 19004 (.slice a1 yK yK) fun x=>aZ) (.aA (.val 20002 (.bool false)) .nil))))))) (by kernel_rfl) aY
theorem ado(H1 aH aZ bJ fY:j)(t:Bytes)(d n l eD:Nat)(a a2:bG)(aO:Nat)(k c m x y:Int)(t2:Bytes)(U:o→j→Prop)(aY:some (o.bool (6 == 6&&(0 == 0&&(0 == 0&&(0 == 0&&(0 == 0&&(t == t&&true)))))))=some (o.bool true)∧some (o.bool (decide ((↑(List.length t):Int)≤62)))=some (o.bool true)∧c7 Tryz.prog aw 14 [] (j.ar 82 [(0,R.made [(lb t)] 6 true (some (42,6))),(4,(R.made ([(lb t)]) 6 true (some (42,6))))]) (.ptr (some ⟨d,0,0,0,6⟩)) H1∧cj env.D 9 ⟨0,0,0,5,6⟩ (j.mk (H1.next+6) (H1.2))=some (o.str t)∧c7 Tryz.prog aw 44 [.str t,.slice none 0 0] (j.mk (H1.next+6) (H1.2)) (.slice (some a) n n) aH∧c7 Tryz.prog aw 26 [.ptr (some ⟨d,0,0,0,6⟩),.slice (some a) n n] aH (.slice (some ⟨l,eD,0,0,6⟩) 1 1) aZ∧cj env.D 42 ⟨l,eD,0,0,6⟩ (j.mk (aZ.next+15) (aZ.2))=some (o.agg [.int .i8 k,.int .i32 c,.int .u8 m,.int .i64 x,.int .i64 y,.str t2])∧l<aZ.next∧cj env.D 42 ⟨0,0,0,0,6⟩ (j.mk (aZ.next+15) (aZ.2))=some ((lb t))∧0<aZ.next∧some (o.bool (k == 6&&(c == 0&&(m == 0&&(x == 0&&(y == 0&&(t2 == t&&true)))))))=some (o.bool false)∧U (.tuple [.slice none 0 0,.int .i64 220]) (j.mk (aZ.next+17+2) (j.aJ (j.mk (aZ.next+15+2) (j.aJ (j.mk (aZ.next+15) (j.aJ aZ))))))) :
 ∃v p,aI Tryz.prog aw 21 [c3 6 0 0 0 0 t] (⟨0,.nil⟩) v p∧U v p :=
 cb bQ mixed c8 (an:= .aA (.val 17004 (.bool true)) (.aA (.val 17009 (.bool true)) (.aA (.act 18000 (.ptr (some ⟨d,0,0,0,6⟩)) fun x=>H1) (.aA (.val 19002 (.str t)) (.aA (.act 19003 (.slice (some a) n n) fun x=>aH) (.aA (.act 19004 (.slice (some ⟨l,eD,0,0,6⟩) 1 1) fun x=>aZ) (.aA (.rb 20006 (c3 k c m x y t2)) (.aA (.rb 20007 (c3 6 0 0 0 0 t)) (.aA (.val 20008 (.bool false)) .nil))))))))) (by kernel_rfl) aY
theorem adp(H1 aH aZ bJ fY:j)(t:Bytes)(d n l eD:Nat)(a a2:bG)(aO:Nat)(w:o)(bg:Int)(U:o→j→Prop)(aY:some (o.bool (6 == 6&&(0 == 0&&(0 == 0&&(0 == 0&&(0 == 0&&(t == t&&true)))))))=some (o.bool true)∧some (o.bool (decide ((↑(List.length t):Int)≤62)))=some (o.bool true)∧c7 Tryz.prog aw 14 [] (j.ar 82 [(0,R.made [(lb t)] 6 true (some (42,6))),(4,(R.made ([(lb t)]) 6 true (some (42,6))))]) (.ptr (some ⟨d,0,0,0,6⟩)) H1∧cj env.D 9 ⟨0,0,0,5,6⟩ (j.mk (H1.next+6) (H1.2))=some (o.str t)∧c7 Tryz.prog aw 44 [.str t,.slice none 0 0] (j.mk (H1.next+6) (H1.2)) (.slice (some a) n n) aH∧c7 Tryz.prog aw 26 [.ptr (some ⟨d,0,0,0,6⟩),.slice (some a) n n] aH (.slice (some ⟨l,eD,0,0,6⟩) 1 1) aZ∧cj env.D 42 ⟨l,eD,0,0,6⟩ (j.mk (aZ.next+15) (aZ.2))=some ((lb t))∧l<aZ.next∧cj env.D 42 ⟨0,0,0,0,6⟩ (j.mk (aZ.next+15) (aZ.2))=some ((lb t))∧0<aZ.next∧some (o.bool (6 == 6&&(0 == 0&&(0 == 0&&(0 == 0&&(0 == 0&&(t == t&&true)))))))=some (o.bool true)∧c7 Tryz.prog aw 16 [.ptr (some ⟨d,0,0,0,6⟩)] (j.mk (aZ.next+15) (aZ.2)) (.int .i64 bg) bJ∧some (o.bool (bg == 0))=some (o.bool false)∧U (.tuple [.slice none 0 0,.int .i64 220]) (j.mk (bJ.next+2+2) (j.aJ (yt bJ)))) :
 ∃v p,aI Tryz.prog aw 21 [c3 6 0 0 0 0 t] (⟨0,.nil⟩) v p∧U v p :=
 cb bQ mixed c8 (an:= .aA (.val 17004 (.bool true)) (.aA (.val 17009 (.bool true)) (.aA (.act 18000 (.ptr (some ⟨d,0,0,0,6⟩)) fun x=>H1) (.aA (.val 19002 (.str t)) (.aA (.act 19003 (.slice (some a) n n) fun x=>aH) (.aA (.act 19004 (.slice (some ⟨l,eD,0,0,6⟩) 1 1) fun x=>aZ) (.aA (.rb 20006 (c3 6 0 0 0 0 t)) (.aA (.rb 20007 (c3 6 0 0 0 0 t)) (.aA (.val 20008 (.bool true)) (.aA (.act 20012 (.int .i64 bg) fun x=>bJ) (.aA (.val 20013 (.bool false)) .nil))))))))))) (by kernel_rfl) aY
theorem adq(H1 aH aZ bJ fY:j)(t:Bytes)(d n l eD:Nat)(a a2:bG)(aO:Nat)(w:o)(bg:Int)(U:o→j→Prop)(aY:some (o.bool (6 == 6&&(0 == 0&&(0 == 0&&(0 == 0&&(0 == 0&&(t == t&&true)))))))=some (o.bool true)∧some (o.bool (decide ((↑(List.length t):Int)≤62)))=some (o.bool true)∧c7 Tryz.prog aw 14 [] (j.ar 82 [(0,R.made [(lb t)] 6 true (some (42,6))),(4,(R.made ([(lb t)]) 6 true (some (42,6))))]) (.ptr (some ⟨d,0,0,0,6⟩)) H1∧cj env.D 9 ⟨0,0,0,5,6⟩ (j.mk (H1.next+6) (H1.2))=some (o.str t)∧c7 Tryz.prog aw 44 [.str t,.slice none 0 0] (j.mk (H1.next+6) (H1.2)) (.slice (some a) n n) aH∧c7 Tryz.prog aw 26 [.ptr (some ⟨d,0,0,0,6⟩),.slice (some a) n n] aH (.slice (some ⟨l,eD,0,0,6⟩) 1 1) aZ∧cj env.D 42 ⟨l,eD,0,0,6⟩ (j.mk (aZ.next+15) (aZ.2))=some ((lb t))∧l<aZ.next∧cj env.D 42 ⟨0,0,0,0,6⟩ (j.mk (aZ.next+15) (aZ.2))=some ((lb t))∧0<aZ.next∧some (o.bool (6 == 6&&(0 == 0&&(0 == 0&&(0 == 0&&(0 == 0&&(t == t&&true)))))))=some (o.bool true)∧c7 Tryz.prog aw 16 [.ptr (some ⟨d,0,0,0,6⟩)] (j.mk (aZ.next+15) (aZ.2)) (.int .i64 0) bJ∧cj env.D 9 ⟨0,0,0,5,6⟩ (j.mk (bJ.next+4) (bJ.2))=some (o.str t)∧c7 Tryz.prog aw 44 [.str t,.slice none 0 0] (j.mk (bJ.next+4) (bJ.2)) (.slice (some a2) aO aO) fY∧U (.tuple [.slice (some a2) aO aO,.int .i64 0]) (j.mk (fY.next+2+3) (j.aJ (j.mk (fY.next+2) (j.aJ fY))))) :
 ∃v p,aI Tryz.prog aw 21 [c3 6 0 0 0 0 t] (⟨0,.nil⟩) v p∧U v p :=
 cb bQ mixed c8 (an:= .aA (.val 17004 (.bool true)) (.aA (.val 17009 (.bool true)) (.aA (.act 18000 (.ptr (some ⟨d,0,0,0,6⟩)) fun x=>H1) (.aA (.val 19002 (.str t)) (.aA (.act 19003 (.slice (some a) n n) fun x=>aH) (.aA (.act 19004 (.slice (some ⟨l,eD,0,0,6⟩) 1 1) fun x=>aZ) (.aA (.rb 20006 (c3 6 0 0 0 0 t)) (.aA (.rb 20007 (c3 6 0 0 0 0 t)) (.aA (.val 20008 (.bool true)) (.aA (.act 20012 (.int .i64 0) fun x=>bJ) (.aA (.val 21001 (.str t)) (.aA (.act 21002 (.slice (some a2) aO aO) fun x=>fY) .nil)))))))))))) (by kernel_rfl) aY
theorem adr(c m x y:Int)(t:Bytes)(U:o→j→Prop)(aY:some (o.bool (decide (m>7)))=some (o.bool false)∧some (o.bool (6 == 6&&(c == 0&&(m == 0&&(x == 0&&(y == 0&&(t == t&&true)))))))=some (o.bool false)∧U (.tuple [.slice none 0 0,.int .i64 220]) (j.ar 84 [(0,R.made [.agg [.int .i8 6,.int .i32 c,.int .u8 m,.int .i64 x,.int .i64 y,.str t]] 6 true (some (42,6))),(4,(R.made ([.agg [.int .i8 6,.int .i32 0,.int .u8 0,.int .i64 x,.int .i64 y,.str t]]) 6 true (some (42,6))))])) :
 ∃v p,aI Tryz.prog aw 21 [c3 6 c m x y t] (⟨0,.nil⟩) v p∧U v p :=
 cb bQ mixed c8 (an:= .aA (.val 6002 (.bool false)) (.aA (.val 17004 (.bool false)) .nil)) (by kernel_rfl) aY
theorem ads(t:Bytes)(U:o→j→Prop)(aY:some (o.bool (6 == 6&&(0 == 0&&(0 == 0&&(0 == 0&&(0 == 0&&(t == t&&true)))))))=some (o.bool true)∧some (o.bool (decide ((↑(List.length t):Int)≤62)))=some (o.bool false)∧U (.tuple [.slice none 0 0,.int .i64 220]) (j.ar 84 [(0,R.made [(lb t)] 6 true (some (42,6))),(4,(R.made ([(lb t)]) 6 true (some (42,6))))])) :
 ∃v p,aI Tryz.prog aw 21 [c3 6 0 0 0 0 t] (⟨0,.nil⟩) v p∧U v p :=
 cb bQ mixed c8 (an:= .aA (.val 17004 (.bool true)) (.aA (.val 17009 (.bool false)) .nil)) (by kernel_rfl) aY
theorem adt(k:Int)(c m x y:Int)(t:Bytes)(U:o→j→Prop)(aY:some (o.bool (k == 3))=some (o.bool false)∧some (o.bool (decide (m>7)))=some (o.bool false)∧some (o.bool (k == 1))=some (o.bool false)∧some (o.bool (k == 2))=some (o.bool false)∧some (o.bool (k == 5&&(c == 0&&(m == 0&&(x == 0&&(y == 0&&(t ==[]&&true)))))))=some (o.bool false)∧some (o.bool (k == 5&&(c == 1&&(m == 0&&(x == 0&&(y == 0&&(t ==[]&&true)))))))=some (o.bool false)∧some (o.bool (k == 4&&(c == 0&&(m == 0&&(x == 0&&(y == 0&&(t == t&&true)))))))=some (o.bool false)∧some (o.bool (k == 6&&(c == 0&&(m == 0&&(x == 0&&(y == 0&&(t == t&&true)))))))=some (o.bool false)∧U (.tuple [.slice none 0 0,.int .i64 220]) (j.ar 84 [(0,R.made [.agg [.int .i8 k,.int .i32 c,.int .u8 m,.int .i64 x,.int .i64 y,.str t]] 6 true (some (42,6))),(4,(R.made ([.agg [.int .i8 k,.int .i32 0,.int .u8 0,.int .i64 x,.int .i64 y,.str t]]) 6 true (some (42,6))))])) :
 ∃v p,aI Tryz.prog aw 21 [c3 k c m x y t] (⟨0,.nil⟩) v p∧U v p :=
 cb bQ mixed c8 (an:= .aA (.val 4002 (.bool false)) (.aA (.val 6002 (.bool false)) (.aA (.val 7002 (.bool false)) (.aA (.val 9002 (.bool false)) (.aA (.val 11002 (.bool false)) (.aA (.val 13002 (.bool false)) (.aA (.val 15004 (.bool false)) (.aA (.val 17004 (.bool false)) .nil)))))))) (by kernel_rfl) aY
theorem adu(c m x y:Int)(t:Bytes)(U:o→j→Prop)(aY:some (o.bool (decide (c<0)))=some (o.bool true)∧U (.slice none 0 0) (j.ar 41 [(0,R.made [.agg [.int .i8 3,.int .i32 c,.int .u8 m,.int .i64 x,.int .i64 y,.str t]] 6 true (some (42,6)))])) :
 ∃v p,aI Tryz.prog aw 40 [c3 3 c m x y t] (⟨0,.nil⟩) v p∧U v p :=
 cb bQ mixed c8 (an:= .aA (.val 1002 (.bool true)) .nil) (by kernel_rfl) aY
theorem adv(c m x y:Int)(t:Bytes)(U:o→j→Prop)(aY:some (o.bool (decide (c<0)))=some (o.bool false)∧some (o.bool (decide (c>6)))=some (o.bool true)∧U (.slice none 0 0) (j.ar 41 [(0,R.made [.agg [.int .i8 3,.int .i32 c,.int .u8 m,.int .i64 x,.int .i64 y,.str t]] 6 true (some (42,6)))])) :
 ∃v p,aI Tryz.prog aw 40 [c3 3 c m x y t] (⟨0,.nil⟩) v p∧U v p :=
 cb bQ mixed c8 (an:= .aA (.val 1002 (.bool false)) (.aA (.val 1006 (.bool true)) .nil)) (by kernel_rfl) aY
theorem adw(c m x y:Int)(t:Bytes)(U:o→j→Prop)(aY:some (o.bool (decide (c<0)))=some (o.bool false)∧some (o.bool (decide (c>6)))=some (o.bool false)∧some (o.bool (decide (m>7)))=some (o.bool true)∧U (.slice none 0 0) (j.ar 41 [(0,R.made [.agg [.int .i8 3,.int .i32 c,.int .u8 m,.int .i64 x,.int .i64 y,.str t]] 6 true (some (42,6)))])) :
 ∃v p,aI Tryz.prog aw 40 [c3 3 c m x y t] (⟨0,.nil⟩) v p∧U v p :=
 cb bQ mixed c8 (an:= .aA (.val 1002 (.bool false)) (.aA (.val 1006 (.bool false)) (.aA (.val 1011 (.bool true)) .nil))) (by kernel_rfl) aY
theorem adx(c m x y:Int)(t:Bytes)(U:o→j→Prop)(aY:some (o.bool (decide (c<0)))=some (o.bool false)∧some (o.bool (decide (c>6)))=some (o.bool false)∧some (o.bool (decide (m>7)))=some (o.bool false)∧some (o.bool (decide (x<0)))=some (o.bool true)∧U (.slice none 0 0) (j.ar 41 [(0,R.made [.agg [.int .i8 3,.int .i32 c,.int .u8 m,.int .i64 x,.int .i64 y,.str t]] 6 true (some (42,6)))])) :
 ∃v p,aI Tryz.prog aw 40 [c3 3 c m x y t] (⟨0,.nil⟩) v p∧U v p :=
 cb bQ mixed c8 (an:= .aA (.val 1002 (.bool false)) (.aA (.val 1006 (.bool false)) (.aA (.val 1011 (.bool false)) (.aA (.val 1016 (.bool true)) .nil)))) (by kernel_rfl) aY
theorem ady(c m x y:Int)(t:Bytes)(U:o→j→Prop)(aY:some (o.bool (decide (c<0)))=some (o.bool false)∧some (o.bool (decide (c>6)))=some (o.bool false)∧some (o.bool (decide (m>7)))=some (o.bool false)∧some (o.bool (decide (x<0)))=some (o.bool false)∧some (o.bool (decide (x≥4096)))=some (o.bool true)∧U (.slice none 0 0) (j.ar 41 [(0,R.made [.agg [.int .i8 3,.int .i32 c,.int .u8 m,.int .i64 x,.int .i64 y,.str t]] 6 true (some (42,6)))])) :
 ∃v p,aI Tryz.prog aw 40 [c3 3 c m x y t] (⟨0,.nil⟩) v p∧U v p :=
 cb bQ mixed c8 (an:= .aA (.val 1002 (.bool false)) (.aA (.val 1006 (.bool false)) (.aA (.val 1011 (.bool false)) (.aA (.val 1016 (.bool false)) (.aA (.val 1021 (.bool true)) .nil))))) (by kernel_rfl) aY
theorem adz(c m x y:Int)(t:Bytes)(U:o→j→Prop)(aY:some (o.bool (decide (c<0)))=some (o.bool false)∧some (o.bool (decide (c>6)))=some (o.bool false)∧some (o.bool (decide (m>7)))=some (o.bool false)∧some (o.bool (decide (x<0)))=some (o.bool false)∧some (o.bool (decide (x≥4096)))=some (o.bool false)∧some (o.bool (decide (y<0)))=some (o.bool true)∧U (.slice none 0 0) (j.ar 41 [(0,R.made [.agg [.int .i8 3,.int .i32 c,.int .u8 m,.int .i64 x,.int .i64 y,.str t]] 6 true (some (42,6)))])) :
 ∃v p,aI Tryz.prog aw 40 [c3 3 c m x y t] (⟨0,.nil⟩) v p∧U v p :=
 cb bQ mixed c8 (an:= .aA (.val 1002 (.bool false)) (.aA (.val 1006 (.bool false)) (.aA (.val 1011 (.bool false)) (.aA (.val 1016 (.bool false)) (.aA (.val 1021 (.bool false)) (.aA (.val 1026 (.bool true)) .nil)))))) (by kernel_rfl) aY
theorem adA(c m x y:Int)(t:Bytes)(U:o→j→Prop)(aY:some (o.bool (decide (c<0)))=some (o.bool false)∧some (o.bool (decide (c>6)))=some (o.bool false)∧some (o.bool (decide (m>7)))=some (o.bool false)∧some (o.bool (decide (x<0)))=some (o.bool false)∧some (o.bool (decide (x≥4096)))=some (o.bool false)∧some (o.bool (decide (y<0)))=some (o.bool false)∧some (o.bool (decide (y≥4096)))=some (o.bool true)∧U (.slice none 0 0) (j.ar 41 [(0,R.made [.agg [.int .i8 3,.int .i32 c,.int .u8 m,.int .i64 x,.int .i64 y,.str t]] 6 true (some (42,6)))])) :
 ∃v p,aI Tryz.prog aw 40 [c3 3 c m x y t] (⟨0,.nil⟩) v p∧U v p :=
 cb bQ mixed c8 (an:= .aA (.val 1002 (.bool false)) (.aA (.val 1006 (.bool false)) (.aA (.val 1011 (.bool false)) (.aA (.val 1016 (.bool false)) (.aA (.val 1021 (.bool false)) (.aA (.val 1026 (.bool false)) (.aA (.val 1031 (.bool true)) .nil))))))) (by kernel_rfl) aY
theorem adB(c m x y:Int)(t:Bytes)(U:o→j→Prop)(aY:some (o.bool (decide (c<0)))=some (o.bool false)∧some (o.bool (decide (c>6)))=some (o.bool false)∧some (o.bool (decide (m>7)))=some (o.bool false)∧some (o.bool (decide (x<0)))=some (o.bool false)∧some (o.bool (decide (x≥4096)))=some (o.bool false)∧some (o.bool (decide (y<0)))=some (o.bool false)∧some (o.bool (decide (y≥4096)))=some (o.bool false)∧some (o.bool !t == Array.toList #[])=some (o.bool true)∧U (.slice none 0 0) (j.ar 41 [(0,R.made [.agg [.int .i8 3,.int .i32 c,.int .u8 m,.int .i64 x,.int .i64 y,.str t]] 6 true (some (42,6)))])) :
 ∃v p,aI Tryz.prog aw 40 [c3 3 c m x y t] (⟨0,.nil⟩) v p∧U v p :=
 cb bQ mixed c8 (an:= .aA (.val 1002 (.bool false)) (.aA (.val 1006 (.bool false)) (.aA (.val 1011 (.bool false)) (.aA (.val 1016 (.bool false)) (.aA (.val 1021 (.bool false)) (.aA (.val 1026 (.bool false)) (.aA (.val 1031 (.bool false)) (.aA (.val 1036 (.bool true)) .nil)))))))) (by kernel_rfl) aY
abbrev ny(q:Nat):o:=o.slice (some ⟨q,0,0,0,1⟩) 3 3
abbrev pA(c:Nat)(m:Nat)(x:Nat)(y:Nat):o:=o.agg [.int .i8 3,.int .i32 (c:Int),.int .u8 (m:Int),.int .i64 (x:Int),.int .i64 (y:Int),.str []]
abbrev pB:o:=o.agg [.int .i64 0,.int .i64 1,.int .i64 2,.int .i64 0,.int .i64 64,.int .i64 65,.int .i64 35]
theorem adC(H H1 aH:j)(c m x y ej C eh n q:Nat)(v:o)(U:o→j→Prop)(aY:some (o.bool false)=some (o.bool false)∧some (o.bool (decide ((c:Int)>6)))=some (o.bool false)∧some (o.bool (decide ((m:Int)>7)))=some (o.bool false)∧some (o.bool false)=some (o.bool false)∧some (o.bool (decide ((x:Int)≥4096)))=some (o.bool false)∧some (o.bool false)=some (o.bool false)∧some (o.bool (decide ((y:Int)≥4096)))=some (o.bool false)∧some (o.bool false)=some (o.bool false)∧some (o.bool ((c:Int) == 3))=some (o.bool false)∧qM 63 (j.ar 63 [(0,R.made [(pA c m x y)] 6 true (some (42,6)))]) (j.ar 66 [(0,R.made [(pA c m x y)] 6 true (some (42,6))),(63,(R.made ([pB]) 7 true (some (106,7))))])=true∧oD env.D 106 (pB) (.int .i32 (c:Int))=some (.int .i64 (ej:Int))∧(-9223372036854775808≤(m:Int)∧(m:Int)≤9223372036854775807)∧Int.NonNeg (2-0)∧True∧(-9223372036854775808≤(x:Int)+1∧(x:Int)+1≤9223372036854775807)∧(-9223372036854775808≤(y:Int)+1∧(y:Int)+1≤9223372036854775807)∧c7 Tryz.prog aw 44 [.str [77],.slice (some ⟨60,0,0,0,1⟩) 3 3] (j.ar 66 [(0,R.made [(pA c m x y)] 6 true (some (42,6))),(60,R.made [.int .i64 (cg .i64 (ej:Int) (e8 .i64 (m:Int) (2))),.int .i64 ((x:Int)+1),.int .i64 ((y:Int)+1)] 1 true),(63,(R.made ([pB]) 7 true (some (106,7))))]) (.slice (some ⟨C,eh,0,0,1⟩) n n) H∧b0 env e7 (H.next+0) (bU [(4,.slice (some ⟨C,eh,0,0,1⟩) n n),(63,.slice (some ⟨C,eh,0,0,1⟩) n n),(62,.slice (some ⟨60,0,0,0,1⟩) 3 3),(61,.int .i64 ((y:Int)+1)),(60,.int .i64 (y:Int)),(59,.ptr (some ⟨0,0,0,4,6⟩)),(58,.int .i64 ((x:Int)+1)),(57,.int .i64 (x:Int)),(56,.ptr (some ⟨0,0,0,3,6⟩)),(55,.int .i64 (cg .i64 (ej:Int) (e8 .i64 (m:Int) (2)))),(54,.int .i64 (e8 .i64 (m:Int) (2))),(53,.int .i64 (m:Int)),(52,.int .u8 (m:Int)),(51,.ptr (some ⟨0,0,0,2,6⟩)),(50,.int .i64 (ej:Int)),(49,.int .i32 (c:Int)),(48,.ptr (some ⟨0,0,0,1,6⟩)),(47,pB),(46,.str [77]),(45,.bool false),(44,.int .i32 (c:Int)),(43,.ptr (some ⟨0,0,0,1,6⟩)),(3,.str [77]),(42,.bool false),(41,.bool false),(40,.str []),(39,.ptr (some ⟨0,0,0,5,6⟩)),(38,.bool false),(37,.bool false),(36,.bool false),(35,.int .i64 (y:Int)),(34,.ptr (some ⟨0,0,0,4,6⟩)),(33,.bool false),(32,.bool false),(31,.bool false),(30,.int .i64 (y:Int)),(29,.ptr (some ⟨0,0,0,4,6⟩)),(28,.bool false),(27,.bool false),(26,.bool false),(25,.int .i64 (x:Int)),(24,.ptr (some ⟨0,0,0,3,6⟩)),(23,.bool false),(22,.bool false),(21,.bool false),(20,.int .i64 (x:Int)),(19,.ptr (some ⟨0,0,0,3,6⟩)),(18,.bool false),(17,.bool false),(16,.bool false),(15,.int .u8 (m:Int)),(14,.ptr (some ⟨0,0,0,2,6⟩)),(13,.bool false),(12,.bool false),(11,.bool false),(10,.int .i32 (c:Int)),(9,.ptr (some ⟨0,0,0,1,6⟩)),(8,.bool false),(7,.bool false),(6,.int .i32 (c:Int)),(5,.ptr (some ⟨0,0,0,1,6⟩)),(2,.slice none 0 0),(1,.ptr (some ⟨0,0,0,0,6⟩)),(0,(pA c m x y))]) (j.mk (H.next+6) (H.2)) (Op.buildSlice 34 3 {toList:=[(0,Operand.const (Value.int .u8 (27))),(1,Operand.const (Value.int .u8 (91))),(2,Operand.const (Value.int .u8 (60)))]})=some ((ny q),H1)∧eO env (H.next+1) (bU [(64,(ny q)),(4,.slice (some ⟨C,eh,0,0,1⟩) n n),(63,.slice (some ⟨C,eh,0,0,1⟩) n n),(62,.slice (some ⟨60,0,0,0,1⟩) 3 3),(61,.int .i64 ((y:Int)+1)),(60,.int .i64 (y:Int)),(59,.ptr (some ⟨0,0,0,4,6⟩)),(58,.int .i64 ((x:Int)+1)),(57,.int .i64 (x:Int)),(56,.ptr (some ⟨0,0,0,3,6⟩)),(55,.int .i64 (cg .i64 (ej:Int) (e8 .i64 (m:Int) (2)))),(54,.int .i64 (e8 .i64 (m:Int) (2))),(53,.int .i64 (m:Int)),(52,.int .u8 (m:Int)),(51,.ptr (some ⟨0,0,0,2,6⟩)),(50,.int .i64 (ej:Int)),(49,.int .i32 (c:Int)),(48,.ptr (some ⟨0,0,0,1,6⟩)),(47,pB),(46,.str [77]),(45,.bool false),(44,.int .i32 (c:Int)),(43,.ptr (some ⟨0,0,0,1,6⟩)),(3,.str [77]),(42,.bool false),(41,.bool false),(40,.str []),(39,.ptr (some ⟨0,0,0,5,6⟩)),(38,.bool false),(37,.bool false),(36,.bool false),(35,.int .i64 (y:Int)),(34,.ptr (some ⟨0,0,0,4,6⟩)),(33,.bool false),(32,.bool false),(31,.bool false),(30,.int .i64 (y:Int)),(29,.ptr (some ⟨0,0,0,4,6⟩)),(28,.bool false),(27,.bool false),(26,.bool false),(25,.int .i64 (x:Int)),(24,.ptr (some ⟨0,0,0,3,6⟩)),(23,.bool false),(22,.bool false),(21,.bool false),(20,.int .i64 (x:Int)),(19,.ptr (some ⟨0,0,0,3,6⟩)),(18,.bool false),(17,.bool false),(16,.bool false),(15,.int .u8 (m:Int)),(14,.ptr (some ⟨0,0,0,2,6⟩)),(13,.bool false),(12,.bool false),(11,.bool false),(10,.int .i32 (c:Int)),(9,.ptr (some ⟨0,0,0,1,6⟩)),(8,.bool false),(7,.bool false),(6,.int .i32 (c:Int)),(5,.ptr (some ⟨0,0,0,1,6⟩)),(2,.slice none 0 0),(1,.ptr (some ⟨0,0,0,0,6⟩)),(0,(pA c m x y))]) H1 (Op.convert 34 34 (Operand.tmp 64))=some ((ny q),H1)∧((0:Int)≤2∧2≤(n:Int)∧n≤n)∧fZ env Builtin.append {toList:=[34,34]} [(ny q),.slice (some ⟨C,eh,2,0,1⟩) (n-2) (n-2)] (H.next+4) H1=some (v,aH)∧U v aH) :
 ∃v p,aI Tryz.prog aw 40 [c3 3 c m x y []] (⟨0,.nil⟩) v p∧U v p :=
 cb bQ mixed c8 (an:= .aA (.val 1002 (.bool false)) (.aA (.val 1006 (.bool false)) (.aA (.val 1011 (.bool false)) (.aA (.val 1016 (.bool false)) (.aA (.val 1021 (.bool false)) (.aA (.val 1026 (.bool false)) (.aA (.val 1031 (.bool false)) (.aA (.val 1036 (.bool false)) (.aA (.val 4002 (.bool false)) (he 6001 (.aA (.val 6004 (.int .i64 (ej:Int))) (ag 6007 (ag 6008 (ag 6009 (ag 6012 (ag 6015 (.aA (.act 6017 (.slice (some ⟨C,eh,0,0,1⟩) n n) fun x=>H) (.aA (.act 7000 ((ny q)) fun x=>H1) (.aA (.kZ 7001 ((ny q)) fun h=>h) (ag 7003 (.aA (.act 7004 v fun x=>aH) .nil))))))))))))))))))))) (by kernel_rfl) aY
theorem adD(H H1 aH:j)(c m x y ej C eh n q:Nat)(v:o)(U:o→j→Prop)(aY:some (o.bool false)=some (o.bool false)∧some (o.bool (decide ((c:Int)>6)))=some (o.bool false)∧some (o.bool (decide ((m:Int)>7)))=some (o.bool false)∧some (o.bool false)=some (o.bool false)∧some (o.bool (decide ((x:Int)≥4096)))=some (o.bool false)∧some (o.bool false)=some (o.bool false)∧some (o.bool (decide ((y:Int)≥4096)))=some (o.bool false)∧some (o.bool false)=some (o.bool false)∧some (o.bool ((c:Int) == 3))=some (o.bool true)∧qM 64 (j.ar 64 [(0,R.made [(pA c m x y)] 6 true (some (42,6)))]) (j.ar 67 [(0,R.made [(pA c m x y)] 6 true (some (42,6))),(64,(R.made ([pB]) 7 true (some (106,7))))])=true∧oD env.D 106 (pB) (.int .i32 (c:Int))=some (.int .i64 (ej:Int))∧(-9223372036854775808≤(m:Int)∧(m:Int)≤9223372036854775807)∧Int.NonNeg (2-0)∧True∧(-9223372036854775808≤(x:Int)+1∧(x:Int)+1≤9223372036854775807)∧(-9223372036854775808≤(y:Int)+1∧(y:Int)+1≤9223372036854775807)∧c7 Tryz.prog aw 44 [.str [109],.slice (some ⟨61,0,0,0,1⟩) 3 3] (j.ar 67 [(0,R.made [(pA c m x y)] 6 true (some (42,6))),(61,R.made [.int .i64 (cg .i64 (ej:Int) (e8 .i64 (m:Int) (2))),.int .i64 ((x:Int)+1),.int .i64 ((y:Int)+1)] 1 true),(64,(R.made ([pB]) 7 true (some (106,7))))]) (.slice (some ⟨C,eh,0,0,1⟩) n n) H∧b0 env e7 (H.next+0) (bU [(4,.slice (some ⟨C,eh,0,0,1⟩) n n),(63,.slice (some ⟨C,eh,0,0,1⟩) n n),(62,.slice (some ⟨61,0,0,0,1⟩) 3 3),(61,.int .i64 ((y:Int)+1)),(60,.int .i64 (y:Int)),(59,.ptr (some ⟨0,0,0,4,6⟩)),(58,.int .i64 ((x:Int)+1)),(57,.int .i64 (x:Int)),(56,.ptr (some ⟨0,0,0,3,6⟩)),(55,.int .i64 (cg .i64 (ej:Int) (e8 .i64 (m:Int) (2)))),(54,.int .i64 (e8 .i64 (m:Int) (2))),(53,.int .i64 (m:Int)),(52,.int .u8 (m:Int)),(51,.ptr (some ⟨0,0,0,2,6⟩)),(50,.int .i64 (ej:Int)),(49,.int .i32 (c:Int)),(48,.ptr (some ⟨0,0,0,1,6⟩)),(47,pB),(46,.str [109]),(3,.str [109]),(45,.bool true),(44,.int .i32 (c:Int)),(43,.ptr (some ⟨0,0,0,1,6⟩)),(42,.bool false),(41,.bool false),(40,.str []),(39,.ptr (some ⟨0,0,0,5,6⟩)),(38,.bool false),(37,.bool false),(36,.bool false),(35,.int .i64 (y:Int)),(34,.ptr (some ⟨0,0,0,4,6⟩)),(33,.bool false),(32,.bool false),(31,.bool false),(30,.int .i64 (y:Int)),(29,.ptr (some ⟨0,0,0,4,6⟩)),(28,.bool false),(27,.bool false),(26,.bool false),(25,.int .i64 (x:Int)),(24,.ptr (some ⟨0,0,0,3,6⟩)),(23,.bool false),(22,.bool false),(21,.bool false),(20,.int .i64 (x:Int)),(19,.ptr (some ⟨0,0,0,3,6⟩)),(18,.bool false),(17,.bool false),(16,.bool false),(15,.int .u8 (m:Int)),(14,.ptr (some ⟨0,0,0,2,6⟩)),(13,.bool false),(12,.bool false),(11,.bool false),(10,.int .i32 (c:Int)),(9,.ptr (some ⟨0,0,0,1,6⟩)),(8,.bool false),(7,.bool false),(6,.int .i32 (c:Int)),(5,.ptr (some ⟨0,0,0,1,6⟩)),(2,.slice none 0 0),(1,.ptr (some ⟨0,0,0,0,6⟩)),(0,(pA c m x y))]) (j.mk (H.next+6) (H.2)) (Op.buildSlice 34 3 {toList:=[(0,Operand.const (Value.int .u8 (27))),(1,Operand.const (Value.int .u8 (91))),(2,Operand.const (Value.int .u8 (60)))]})=some ((ny q),H1)∧eO env (H.next+1) (bU [(64,(ny q)),(4,.slice (some ⟨C,eh,0,0,1⟩) n n),(63,.slice (some ⟨C,eh,0,0,1⟩) n n),(62,.slice (some ⟨61,0,0,0,1⟩) 3 3),(61,.int .i64 ((y:Int)+1)),(60,.int .i64 (y:Int)),(59,.ptr (some ⟨0,0,0,4,6⟩)),(58,.int .i64 ((x:Int)+1)),(57,.int .i64 (x:Int)),(56,.ptr (some ⟨0,0,0,3,6⟩)),(55,.int .i64 (cg .i64 (ej:Int) (e8 .i64 (m:Int) (2)))),(54,.int .i64 (e8 .i64 (m:Int) (2))),(53,.int .i64 (m:Int)),(52,.int .u8 (m:Int)),(51,.ptr (some ⟨0,0,0,2,6⟩)),(50,.int .i64 (ej:Int)),(49,.int .i32 (c:Int)),(48,.ptr (some ⟨0,0,0,1,6⟩)),(47,pB),(46,.str [109]),(3,.str [109]),(45,.bool true),(44,.int .i32 (c:Int)),(43,.ptr (some ⟨0,0,0,1,6⟩)),(42,.bool false),(41,.bool false),(40,.str []),(39,.ptr (some ⟨0,0,0,5,6⟩)),(38,.bool false),(37,.bool false),(36,.bool false),(35,.int .i64 (y:Int)),(34,.ptr (some ⟨0,0,0,4,6⟩)),(33,.bool false),(32,.bool false),(31,.bool false),(30,.int .i64 (y:Int)),(29,.ptr (some ⟨0,0,0,4,6⟩)),(28,.bool false),(27,.bool false),(26,.bool false),(25,.int .i64 (x:Int)),(24,.ptr (some ⟨0,0,0,3,6⟩)),(23,.bool false),(22,.bool false),(21,.bool false),(20,.int .i64 (x:Int)),(19,.ptr (some ⟨0,0,0,3,6⟩)),(18,.bool false),(17,.bool false),(16,.bool false),(15,.int .u8 (m:Int)),(14,.ptr (some ⟨0,0,0,2,6⟩)),(13,.bool false),(12,.bool false),(11,.bool false),(10,.int .i32 (c:Int)),(9,.ptr (some ⟨0,0,0,1,6⟩)),(8,.bool false),(7,.bool false),(6,.int .i32 (c:Int)),(5,.ptr (some ⟨0,0,0,1,6⟩)),(2,.slice none 0 0),(1,.ptr (some ⟨0,0,0,0,6⟩)),(0,(pA c m x y))]) H1 (Op.convert 34 34 (Operand.tmp 64))=some ((ny q),H1)∧((0:Int)≤2∧2≤(n:Int)∧n≤n)∧fZ env Builtin.append {toList:=[34,34]} [(ny q),.slice (some ⟨C,eh,2,0,1⟩) (n-2) (n-2)] (H.next+4) H1=some (v,aH)∧U v aH) :
 ∃v p,aI Tryz.prog aw 40 [c3 3 c m x y []] (⟨0,.nil⟩) v p∧U v p :=
 cb bQ mixed c8 (an:= .aA (.val 1002 (.bool false)) (.aA (.val 1006 (.bool false)) (.aA (.val 1011 (.bool false)) (.aA (.val 1016 (.bool false)) (.aA (.val 1021 (.bool false)) (.aA (.val 1026 (.bool false)) (.aA (.val 1031 (.bool false)) (.aA (.val 1036 (.bool false)) (.aA (.val 4002 (.bool true)) (he 6001 (.aA (.val 6004 (.int .i64 (ej:Int))) (ag 6007 (ag 6008 (ag 6009 (ag 6012 (ag 6015 (.aA (.act 6017 (.slice (some ⟨C,eh,0,0,1⟩) n n) fun x=>H) (.aA (.act 7000 ((ny q)) fun x=>H1) (.aA (.kZ 7001 ((ny q)) fun h=>h) (ag 7003 (.aA (.act 7004 v fun x=>aH) .nil))))))))))))))))))))) (by kernel_rfl) aY
theorem yL{x:Nat}{l:List o}{s:Bytes}(h:l=aL (put x))(an:s=strOf l):s=put x:=by rw [an,h,iX]
def ve(x:Nat)(v:o)(aa:j):Prop:=v=.str (put x)∧aa.get 0=some (k' x)
theorem adE{x:Nat}(an:Keys.Scalar x):∃v aa,aI Tryz.prog aw 51 [.slice (some ⟨0,0,0,0,1⟩) 1 1] (j.of [k' x]) v aa∧ve x v aa:=by
 have e:j.of [k' x]=j.rows 1 [(0,k' x)]:=by kernel_rfl
 rw [e];unfold Keys.Scalar at an;by_cases h:x<55296
 ·refine acY x (ve x) ?_;have ae:x<2^31:=by omega
  refine⟨by simp;omega,by simp;omega,?_⟩
  repeat' (first|exact True.intro|apply And.intro|intro _)
  all_goals first
   |omega
   |(simp only [Option.some.injEq,o.bool.injEq,decide_eq_false_iff_not];omega)
   |exact h0
   |exact(ru ae).1|exact(ru ae).2|exact(rv ae).1|exact(rv ae).2
   |exact(uW (by omega)).1|exact(uW (by omega)).2|exact(ry (by omega)).1|exact(ry (by omega)).2
   |exact congrArg o.str (yL (rs (by omega)) rfl)
   |exact congrArg o.str (yL (uT (by omega) (by omega)) rfl)
   |exact congrArg o.str (yL (s4 (by omega) (by omega) (by omega)) rfl)
   |rfl
 ·refine acZ x (ve x) ?_;have ae:x<2^31:=by omega
  refine⟨by simp;omega,by simp;omega,by simp;omega,by simp;omega,by simp;omega,?_⟩
  repeat' (first|exact True.intro|apply And.intro|intro _)
  all_goals first
   |omega
   |exact h0
   |exact(ru ae).1|exact(ru ae).2|exact(rv ae).1|exact(rv ae).2|exact(uV ae).1|exact(uV ae).2
   |exact(ry (by omega)).1|exact(ry (by omega)).2|exact(uX (by omega)).1|exact(uX (by omega)).2
   |exact congrArg o.str (yL (s4 (by omega) (by omega) (by omega)) rfl)
   |exact congrArg o.str (yL (uU (by omega) (by omega)) rfl)
   |rfl
theorem adF{x q:Nat}{H:j}(an:Keys.Scalar x)(ag:H.get q=some (k' x))(aD:q<H.next):aI Tryz.prog aw 51 [.slice (some ⟨q,0,0,0,1⟩) 1 1] H (.str (put x)) H:=by
 obtain⟨v,aa,aC,rfl,bm⟩:=adE an
 have au:dl (k' x):=by intro e he;simp only [k',R.made,List.mem_singleton]at he;subst he;exact cR.int _ _
 have:=aI.pure (l:=[k' x]) aC (fun b fs=>by rw [List.mem_singleton.1 fs];exact au) (by show [aa.get 0]=_;rw [bm];rfl) (cR.str _) (by exact⟨by show 0<1;decide,trivial⟩) (H:=H) [q] (by simp) (by intro C aV;rw [List.mem_singleton.1 aV];exact aD) (by simp [ag]);simpa [o.bc,bG.bc,dJ]using this
noncomputable def okB(r:Option (o×j))(bw:Bytes):Bool :=
 match r with
 |some (.slice (some a) n c,h) =>
  decide (n=bw.length)&&decide (c=bw.length)&&decide (a.bR=0)&&decide (a.es=1)&&decide (a.idx=0)&&Nat.blt a.id h.next &&
   (match h.get a.id with|some b=>decide (a.J=b.J)&&!b.ro&&sa b.bi&&decide (bytesOf b.bi=some bw)&&(b.exact || decide (b.aq=none) || decide (b.aq=some (5,0)))|none=>false)
 |_=>false
theorem Qs:∀{l:List o}{bw:Bytes},sa l=true→bytesOf l=some bw→l=aL bw
 |[],bw,_,h=>by simp only [bytesOf,Option.some.injEq]at h;subst h;rfl
 |a ::r,bw,ak,h=>by
  unfold sa at ak;split at ak
  ·rename_i he;cases he
  ·rename_i n fL he;simp only [List.cons.injEq]at he;obtain⟨rfl,rfl⟩:=he;simp only [Bool.and_eq_true,decide_eq_true_eq]at ak;simp only [bytesOf,Option.map_eq_some_iff]at h;obtain⟨l,p,rfl⟩:=h;rw [Qs ak.2 p];show _=o.int .u8 ((UInt8.ofNat n.toNat).toNat:Int)::aL l;rw [UInt8.toNat_ofNat',show((n.toNat%2^8:Nat):Int)=n by omega]
  ·cases ak
theorem Qt{f:FuncId}{args:List o}{k:Nat}{bw:Bytes}(h:okB (o1 Tryz.prog env k f args ⟨0,.nil⟩) bw=true)(aT:∀a∈args,cR a)(H:j) :
 ∃v aP C,aI Tryz.prog aw f args H v aP∧eS aP C v bw∧H.next≤C∧∀x,x<H.next→aP.get x=H.get x:=by
 unfold okB at h;split at h
 ·rename_i a n c p bb;simp only [Bool.and_eq_true,decide_eq_true_eq,Bool.or_eq_true,Bool.not_eq_true']at h;obtain⟨⟨⟨⟨⟨⟨rfl,rfl⟩,dH⟩,dy⟩,gy⟩,bm⟩,bS⟩:=h;have bm:=Nat.blt_eq.mp bm;split at bS
  ·rename_i b au;simp only [Bool.and_eq_true,decide_eq_true_eq,Bool.or_eq_true,Bool.not_eq_true']at bS;obtain⟨⟨⟨⟨aM,aR⟩,bu⟩,hg⟩,ie⟩:=bS;have fu:=Qs bu hg
   have l':dl b:=by intro e he;rw [fu]at he;exact lJ bw e he
   rw [wQ]at bb;have aC:aI Tryz.prog aw f args (j.of []) _ p:=aI.uo bQ mixed bb;obtain⟨aP,hN,kC,e0,jr⟩:=aC.place (by simp) (fun b au=>by cases au) (q7.2 fun a h=>(aT a h).e1 _) (H:=H) [] List.nodup_nil (fun C aV=>by cases aV) rfl (fun i b h=>by simp at h);have r:∀i,dJ [] H.next i=H.next+i:=fun i=>by rw [mY (by simp)];simp
   have g:=e0 a.id b au;rw [l'.bc,r]at g
   have gH:args.map (o.bc (dJ [] H.next))=args:=by
    conv=>rhs;rw [←List.map_id args]
    exact List.map_congr_left fun e he=>(aT e he).1 _
   rw [gH]at hN;obtain⟨adG,ags,agt,agu,agv⟩:=a;simp only at dH dy gy aM g bm;subst dH dy gy aM;refine⟨_,aP,H.next+adG,hN,⟨⟨b,?_,g,aR,fu,fun he=> ?_⟩,?_⟩,by omega,fun x ae=>jr x ae (by simp)⟩
   ·simp only [o.bc,bG.bc,r]
   ·rcases ie with (h|h)|h
    ·rw [he]at h;cases h
    ·exact .inl h
    ·exact .inr h
   ·rw [kC];simp only [List.length_nil,Nat.sub_zero];omega
  ·cases bS
 ·cases h
def adH(r:Option (o×j)):Bool:=match r with|some (.slice none n c,_)=>decide (n=0)&&decide (c=0)|_=>false
def yM(n:Nat):Bytes:=if n<10 then [u8 (48+n)]else if n<100 then [u8 (48+n/10),u8 (48+n%10)]else [u8 (48+n/100),u8 (48+n/10%10),u8 (48+n%10)]
theorem II{n:Nat}(h:n<1000):yM n=Lib.decDigits n:=by
 unfold yM;split
 ·exact(tB ‹_›).symm
 ·split
  ·rw [tA (by omega),tB (by omega)];rfl
  ·rw [tA (by omega),tA (by omega),tB (by omega),Nat.div_div_eq_div_mul];rfl
def IJ(e:UInt8)(a:Nat):Bytes:=27::91::(yM a++[e])
def vz(e:UInt8)(a b:Nat):Bytes:=27::91::(yM a++59::yM b++[e])
theorem adI{e:UInt8}{a:Nat}(h:a<1000):IJ e a=gx [e] [a]:=by unfold IJ;rw [II h];rfl
theorem yN{e:UInt8}{a b:Nat}(h:a<1000)(ad:b<1000):vz e a b=gx [e] [a,b]:=by unfold vz;rw [II h,II ad];rfl
def IK(r m:Nat):Bytes :=
 match (if m=2 then none else tx r)with
 |some c=>if m=4 then [c]else [27,c]
 |none=>vz 117 r (m+1)
noncomputable def tE(r m:Nat):Bool:=okB (o1 Tryz.prog env 400 42 [.int .i32 (r:Nat),.int .u8 (m:Nat)] ⟨0,.nil⟩) (IK r m)
def IL(k m:Nat):Option Bytes :=
 if 1≤k∧k≤4 then
  if m=0 then some [u8 (pv k)]
  else if m=2∧k≠4 then some [27,u8 (pv k)]
  else if m=1∧k=2 then some [27,91,90]
  else some (vz 117 (pv k) (m+1))
 else match ty k with
 |some c=>if m=0 then some [27,91,c]else some (vz c 1 (m+1))
 |none =>
  if m=0∧21≤k∧k≤24 then some [27,79,u8 (80+(k-21))]
  else match r1 k with
  |some n=>if m=0 then some (IJ 126 n)else some (vz 126 n (m+1))
  |none=>none
noncomputable def yO(k m:Nat):Bool :=
 match IL k m with
 |some bw=>okB (o1 Tryz.prog env 400 43 [.int .i32 (k:Nat),.int .u8 (m:Nat)] ⟨0,.nil⟩) bw
 |none=>adH (o1 Tryz.prog env 400 43 [.int .i32 (k:Nat),.int .u8 (m:Nat)] ⟨0,.nil⟩)
theorem adJ:∀k:Fin 14,∀m:Fin 8,yO (k.val+1) m.val=true:=by decide+kernel
theorem adK:∀k:Fin 6,∀m:Fin 8,yO (k.val+21) m.val=true:=by decide+kernel
theorem adL:∀k:Fin 6,∀m:Fin 8,yO (k.val+27) m.val=true:=by decide+kernel
theorem Qu:∀r:Fin 48,tE (r.val+32) 4=true∧tE (r.val+32) 6=true:=by decide+kernel
theorem Qv:∀r:Fin 47,tE (r.val+80) 4=true∧tE (r.val+80) 6=true:=by decide+kernel
theorem Qw:tE 91 2=true∧tE 79 2=true:=by decide+kernel
def pC(f:FuncId)(H:j)(args:List o)(bw:Bytes):Prop :=
 ∃v aP C,aI Tryz.prog aw f args H v aP∧eS aP C v bw∧H.next≤C∧∀x,x<H.next→aP.get x=H.get x
theorem Cq{H:j}{y:Nat}(b:R)(k:Nat)(bY:y<H.next+k):((⟨H.next+k,H.aJ⟩:j).set y b).get y=some b:=j.hJ _ _ _
theorem adM(H:j)(r:Nat)(an:Keys.Scalar r):∃H1 aH,(∀F,bU F (.tmp 7)=.int .i32 (r:Nat)→b0 env e7 (H.next+2) (bU F) ⟨H.next+6,H.aJ⟩ (Op.buildSlice 84 1 {toList:=[(0,Operand.tmp 7)]})=some (o.slice (some ⟨H.next+2,0,0,0,1⟩) 1 1,H1)) ∧
 aI Tryz.prog aw 51 [.slice (some ⟨H.next+2,0,0,0,1⟩) 1 1] H1 (.str (put r)) H1 ∧
 (∀F,bU F (.tmp 9)=.str (put r)→eO env (H.next+4) (bU F) H1 (Op.convert 9 34 (Operand.tmp 9))=some (.slice (some ⟨H.next+4,0,0,0,1⟩) (put r).length (put r).length,aH)) ∧
 eS aH (H.next+4) (.slice (some ⟨H.next+4,0,0,0,1⟩) (put r).length (put r).length) (put r)∧aH.next=H.next+6∧∀x,x<H.next→aH.get x=H.get x:=by
 have jt:((⟨H.next+6,H.aJ⟩:j).set (H.next+2) (k' r)).get (H.next+2)=some (k' r):=j.hJ _ _ _;have kc:(((⟨H.next+6,H.aJ⟩:j).set (H.next+2) (k' r)).set (H.next+4) (R.made (aL (put r)) 1 false)).get (H.next+4)=some (R.made (aL (put r)) 1 false):=j.hJ _ _ _;refine⟨(⟨H.next+6,H.aJ⟩:j).set (H.next+2) (k' r),((⟨H.next+6,H.aJ⟩:j).set (H.next+2) (k' r)).set (H.next+4) (R.made (aL (put r)) 1 false),fun F fI=> ?_,adF an jt (by show H.next+2<H.next+6;omega),fun F fI=> ?_,eS.made (bw:=put r) kc (by show H.next+4<H.next+6;omega) (fun _=> .inl rfl),rfl,fun x ae=> ?_⟩
 ·have au:∀(K:j)(y:Nat)(z:Int),oC (b5.D env) 84 1 [(0,.int .i32 z)] y K=some (.slice (some ⟨y,0,0,0,1⟩) 1 1,K.set y (R.made [.int .i32 z] 1 true)):=by intro K y z;kernel_rfl
  show oC (b5.D env) 84 1 [(0,bU F (.tmp 7))] _ _=_;rw [fI];exact au _ _ _
 ·have p:(b5.D env 9).map (fun d=>d.kind)=some .string:=by kernel_rfl
  have ad:(b5.D env 34).map (fun d=>d.kind)=some (.slice 5):=by kernel_rfl
  have bd:(b5.D env 5).map (fun d=>d.kind)=some (.int .u8):=by kernel_rfl
  obtain⟨kt,d1,aM⟩:=Option.map_eq_some_iff.1 p;obtain⟨t',d2,aR⟩:=Option.map_eq_some_iff.1 ad;obtain⟨sy,d3,bu⟩:=Option.map_eq_some_iff.1 bd;simp only [eO,fI,oG,d1,aM,d2,aR,d3,bu];rfl
 ·rw [j.fl _ _ (by omega),j.fl _ _ (by omega)];rfl
theorem Qx{F:bP}{bh a b:Nat}{H:j}{x y:Nat}(aT:bU F (.tmp a)=.int .i64 (x:Nat))(au:bU F (.tmp b)=.int .i64 (y:Nat)):b0 env e7 bh (bU F) H (Op.buildSlice 102 2 {toList:=[(0,Operand.tmp a),(1,Operand.tmp b)]})=some (.slice (some ⟨bh,0,0,0,1⟩) 2 2,H.set bh (r2 [x,y])):=by
 have fs:∀(K:j)(y:Nat)(z w:Int),oC (b5.D env) 102 2 [(0,.int .i64 z),(1,.int .i64 w)] y K=some (.slice (some ⟨y,0,0,0,1⟩) 2 2,K.set y (R.made [.int .i64 z,.int .i64 w] 1 true)):=by intro K y z w;kernel_rfl
 show oC (b5.D env) 102 2 [(0,bU F (.tmp a)),(1,bU F (.tmp b))] _ _=_;rw [aT,au];exact fs _ _ _ _
theorem Qy{aH:j}{r m k:Nat}(bb:r<10000000)(hm:m≤7):∃v bJ C,aI Tryz.prog aw 44 [.str [117],.slice (some ⟨k,0,0,0,1⟩) 2 2] ((⟨k+3,aH.aJ⟩:j).set k (r2 [r,m+1])) v bJ∧eS bJ C v (gx [117] [r,m+1])∧k+3≤C∧∀x,x<k→bJ.get x=aH.get x:=by obtain⟨v,bJ,C,aC,g,aV,ai⟩:=ID (H:=(⟨k+3,aH.aJ⟩:j).set k (r2 [r,m+1])) (q:=k) (c:=2) (l:=[r,m+1]) (e:=[117]) (j.hJ _ _ _) (by show k<k+3;omega) (by simp) (by intro n aS;simp only [List.mem_cons,List.not_mem_nil,or_false]at aS;rcases aS with rfl|rfl<;>omega) (by simp) (by simp);refine⟨v,bJ,C,aC,g,aV,fun x ae=> ?_⟩;rw [ai x (by show x<k+3;omega),j.fl _ _ (by omega)];rfl
theorem adN{r m:Nat}(hm:m≤7)(bb:r<1000)(h:m=4∨m=6∨(m=2∧(r=91∨r=79))):IK r m=kI r m:=by
 unfold IK kI;rw [if_neg (show ¬m=0 by omega)];by_cases ad:m=2
 ·rw [if_pos ad,if_neg (by omega),if_neg (by omega)];exact yN bb (by omega)
 ·rw [if_neg ad,if_neg (by omega),if_pos (show m=4∨m=6 by omega)];cases tx r with
  |none=>exact yN bb (by omega)
  |some c=>rfl
theorem adO(H:j){r m:Nat}(bb:shown r=true)(hm:m≤7):pC 42 H [.int .i32 (r:Nat),.int .u8 (m:Nat)] (kI r m):=by
 have fP:∀{a b:Nat}{I:Prop},a≤b→I→_root_.cond (Nat.ble a b) I False:=fun h k=>by rw [Nat.ble_eq.mpr h];exact k
 obtain⟨an,mA,om,_⟩:=yE bb;rw [show(r:Int).toNat=r by omega]at an mA om;have ez:=an;unfold Keys.Scalar at ez;have agw:=FO r;by_cases av:r<127∧(m=4∨m=6∨(m=2∧(r=91∨r=79)))
 ·
   have k:tE r m=true:=by
    rcases av.2 with rfl|rfl|⟨rfl,rfl|rfl⟩
    ·rcases Nat.lt_or_ge r 80 with h|h
     ·have:=(Qu ⟨r-32,by omega⟩).1;simpa [Nat.sub_add_cancel mA]using this
     ·have:=(Qv ⟨r-80,by omega⟩).1;simpa [Nat.sub_add_cancel h]using this
    ·rcases Nat.lt_or_ge r 80 with h|h
     ·have:=(Qu ⟨r-32,by omega⟩).2;simpa [Nat.sub_add_cancel mA]using this
     ·have:=(Qv ⟨r-80,by omega⟩).2;simpa [Nat.sub_add_cancel h]using this
    ·exact Qw.1
    ·exact Qw.2
   have:=Qt k (fun a aT=>by
    simp only [List.mem_cons,List.not_mem_nil,or_false]at aT
    rcases aT with rfl|rfl<;>exact cR.int _ _) H
   rw [adN hm (by omega) av.2]at this;exact this
 obtain⟨H1,aH,au,bX,vr,g2,jc,hC⟩:=adM H r an;by_cases bm:m=0
 ·subst bm
  obtain⟨v,aa,aC,rfl,rfl⟩:=ac0 H H1 aH r (H.next+2) (H.next+4) (put r).length (put r) (fun v aa=>v=.slice (some ⟨H.next+4,0,0,0,1⟩) (put r).length (put r).length∧aa=⟨aH.next+5,aH.aJ⟩)
   (bq (Nat.le_refl _) (bq (by omega) ⟨au _ rfl,⟨bX⟩,vr _ rfl,bq (by omega) (bq (by omega) (fP (by omega) ⟨rfl,rfl⟩))⟩))
  exact⟨_,_,_,aC,g2.cs rfl (by show aH.next≤aH.next+5;omega),by omega,hC⟩
 ·by_cases ad:m=2∧r≠91∧r≠79
  ·obtain⟨rfl,Iw,Ix⟩:=ad;have jI:∀F,b0 env e7 (aH.next+14) (bU F) ⟨aH.next+18,aH.aJ⟩ (Op.buildSlice 34 1 {toList:=[(0,Operand.const (Value.int .u8 (27)))]})=some (o.slice (some ⟨aH.next+14,0,0,0,1⟩) 1 1,(⟨aH.next+18,aH.aJ⟩:j).set (aH.next+14) (R.made (aL [27]) 1 true)):=by intro F;kernel_rfl
   have nm:=Cq (H:=aH) (y:=aH.next+14) (R.made (aL [27]) 1 true) 18 (by omega);have h3:∀x,x<aH.next→((⟨aH.next+18,aH.aJ⟩:j).set (aH.next+14) (R.made (aL [27]) 1 true)).get x=aH.get x:=fun x ae=>j.fl _ _ (by omega)
   have iL:((⟨aH.next+18,aH.aJ⟩:j).set (aH.next+14) (R.made (aL [27]) 1 true)).next=aH.next+18:=rfl
   generalize (⟨aH.next+18,aH.aJ⟩:j).set (aH.next+14) (R.made (aL [27]) 1 true)=aZ at jI nm h3 iL;have g3:=g2.cs (h3 _ g2.lt) (by omega);obtain⟨v,bJ,C,aT,g4,aV,abn,yP⟩:=(eS.made (bw:=[27]) nm (by omega) (fun h=>by cases h)).gJ (bh:=aH.next+16) g3.bi (Cg r) (by simp only [List.length_cons,List.length_nil];omega) (by omega)
   obtain⟨w,aa,aC,rfl,rfl⟩:=ac1 H H1 aH aZ bJ r (H.next+2) (H.next+4) (aH.next+14) (put r).length (put r) v (fun w aa=>w=v∧aa=bJ)
    (bq (Nat.le_refl _) (bq (by omega) ⟨au _ rfl,⟨bX⟩,vr _ rfl,bq (by omega) (bq (by omega) ⟨by simp;omega,by simp;omega,bq (by omega) ⟨jI _,(Cl _ _ _ _).trans aT,fP (by omega) ⟨rfl,rfl⟩⟩⟩)⟩))
   refine⟨_,_,C,aC,?_,by rcases aV with h|h<;>omega,fun x ae=> ?_⟩
   ·have:kI r 2=[27]++put r:=by unfold kI;rw [if_neg (by decide),if_pos ⟨rfl,Iw,Ix⟩];rfl
    rw [this];exact g4
   ·rw [yP x (by omega) (by omega),h3 x (by omega)];exact hC x ae
  ·by_cases Cr:m=4∨m=6
   ·have agx:127<r:=by omega
    obtain⟨v,bJ,C,en,g4,aV,yP⟩:=Qy (aH:=aH) (r:=r) (m:=m) (k:=aH.next+49) (by omega) hm;have mX:dP .u8 (m:Int) 2=4:=by rcases Cr with rfl|rfl<;>decide+kernel
    obtain⟨w,aa,aC,rfl,rfl⟩:=ac3 H H1 aH _ bJ r m (H.next+2) (H.next+4) (aH.next+49) (put r).length (put r) v (fun w aa=>w=v∧aa=bJ)
     (bq (Nat.le_refl _) (bq (by omega) ⟨au _ rfl,⟨bX⟩,vr _ rfl,bq (by omega) ⟨by simp;omega,bq (by omega) ⟨by simp;omega,bq (by omega) ⟨trivial,by rw [mX];rfl,bq (by omega) (bq (by omega) ⟨by simp;omega,bq (by omega) ⟨by simp;omega,by simp;omega,bq (by omega) ⟨by simp;omega,by simp;omega,bq (by omega) ⟨by omega,by omega,by omega,Qx (x:=r) (y:=m+1) rfl (by rfl),⟨en⟩,fP (by have:=g4.lt;omega) ⟨rfl,rfl⟩⟩⟩⟩⟩)⟩⟩⟩⟩))
    refine⟨_,_,C,aC,?_,by omega,fun x ae=> ?_⟩
    ·have:kI r m=gx [117] [r,m+1]:=by
      unfold kI;rw [if_neg bm,if_neg (by omega),if_pos Cr];have:tx r=none:=by unfold tx;rw [if_neg (by omega),if_neg (by omega),if_neg (by omega)]
      rw [this]
     rw [this];exact g4
    ·rw [yP x (by omega)];exact hC x ae
   ·have zf:m≠2:=by omega
    obtain⟨v,bJ,C,en,g4,aV,yP⟩:=Qy (aH:=aH) (r:=r) (m:=m) (k:=aH.next+23) (by omega) hm
    have mX:dP .u8 (m:Int) 2≠4:=by
     have:m=1∨m=3∨m=5∨m=7:=by omega
     rcases this with rfl|rfl|rfl|rfl<;>decide+kernel
    obtain⟨w,aa,aC,rfl,rfl⟩:=ac2 H H1 aH _ bJ r m (H.next+2) (H.next+4) (aH.next+23) (put r).length (put r) v (fun w aa=>w=v∧aa=bJ)
     (bq (Nat.le_refl _) (bq (by omega) ⟨au _ rfl,⟨bX⟩,vr _ rfl,bq (by omega) ⟨by simp;omega,bq (by omega) ⟨by simp;omega,bq (by omega) ⟨trivial,by simp [mX],bq (by omega) ⟨by omega,by omega,by omega,Qx (x:=r) (y:=m+1) rfl (by rfl),⟨en⟩,fP (by have:=g4.lt;omega) ⟨rfl,rfl⟩⟩⟩⟩⟩⟩))
    refine⟨_,_,C,aC,?_,by omega,fun x ae=> ?_⟩
    ·have:kI r m=gx [117] [r,m+1]:=by unfold kI;rw [if_neg bm,if_neg (by omega),if_neg Cr]
     rw [this];exact g4
    ·rw [yP x (by omega)];exact hC x ae
def vA(f:FuncId)(H:j)(args:List o):Prop :=
 ∃aP,aI Tryz.prog aw f args H (.slice none 0 0) aP∧H.next≤aP.next∧∀x,x<H.next→aP.get x=H.get x
theorem IM{f:FuncId}{args:List o}{v:o}{aa:j}(aC:aI Tryz.prog aw f args (j.of []) v aa)(aT:∀a∈args,cR a)(H:j) :
 ∃aP,aI Tryz.prog aw f args H (v.bc (fun i=>H.next+i)) aP∧aP.next=H.next+aa.next∧(∀i b,aa.get i=some b→aP.get (H.next+i)=some (b.bc (fun i=>H.next+i)))∧∀x,x<H.next→aP.get x=H.get x:=by
 obtain⟨aP,hN,kC,e0,jr⟩:=aC.place (by simp) (fun b au=>by cases au) (q7.2 fun a h=>(aT a h).e1 _) (H:=H) [] List.nodup_nil (fun C aV=>by cases aV) rfl (fun i b h=>by simp at h);have r:(dJ [] H.next)=fun i=>H.next+i:=by funext i;rw [mY (by simp)];simp
 have gH:args.map (o.bc (dJ [] H.next))=args:=by
  conv=>rhs;rw [←List.map_id args]
  exact List.map_congr_left fun e he=>(aT e he).1 _
 rw [gH,r]at hN;rw [r]at e0;refine⟨aP,hN,by rw [kC];simp,?_,fun x ae=>jr x ae (by simp)⟩;intro i b au;have:=e0 i b au;exact this
theorem eS.place{aa aP:j}{C n:Nat}{v:o}{bw:Bytes}(g:eS aa C v bw)(aS:aP.next=n+aa.next)(ag:∀i b,aa.get i=some b→aP.get (n+i)=some (b.bc (fun i=>n+i))):eS aP (n+C) (v.bc (fun i=>n+i)) bw:=by
 obtain⟨b,rfl,ad,bd,bS,bI⟩:=g.ex
 have l':dl b:=by intro e he;rw [bS]at he;exact lJ bw e he
 have az:=g.lt;have k:=ag C b ad;rw [l'.bc]at k;exact⟨⟨b,rfl,k,bd,bS,bI⟩,by omega⟩
theorem pC.of{f:FuncId}{args:List o}{v:o}{aa:j}{C:Nat}{bw:Bytes}(aC:aI Tryz.prog aw f args (j.of []) v aa)(g:eS aa C v bw)(aT:∀a∈args,cR a)(H:j):pC f H args bw:=by obtain⟨aP,hN,aS,ag,ai⟩:=IM aC aT H;exact⟨_,aP,H.next+C,hN,g.place aS ag,by omega,ai⟩
theorem vA.of{f:FuncId}{args:List o}{aa:j}(aC:aI Tryz.prog aw f args (j.of []) (.slice none 0 0) aa)(aT:∀a∈args,cR a)(H:j):vA f H args:=by obtain⟨aP,hN,aS,ag,ai⟩:=IM aC aT H;exact⟨aP,hN,by omega,ai⟩
theorem eS.drop{H:j}{C eh n k:Nat}{bw:Bytes}(g:eS H C (.slice (some ⟨C,eh,0,0,1⟩) n n) bw)(ap:k≤bw.length):e2 1 (.slice (some ⟨C,eh,k,0,1⟩) (n-k) (n-k)) H=some (aL (bw.drop k)):=by
 obtain⟨b,he,ad,bd,bS,bI⟩:=g.ex;simp only [o.slice.injEq,Option.some.injEq,bG.mk.injEq,true_and,and_true]at he;obtain⟨rfl,rfl,_⟩:=he;simp only [e2,if_true,ad];split
 ·rename_i h;rw [List.drop_eq_nil_of_le (by omega)];rfl
 ·rw [if_pos ⟨by simp [R.cO,bS,aL];omega,by simp [bS,aL];omega⟩,bS]
  congr 1
  rw [List.take_of_length_le (by simp [aL])];simp [aL,List.map_drop]
end Go.Proofs.YtddnafghiejcoaaGreatDoor
namespace Go.Keys
open Go.Lib
theorem Qz{w:Bytes}(h:j' w=true):w.all digit=true∧number w=200:=by
 unfold j' at h;simp only [Bool.or_eq_true,Bool.and_eq_true,beq_iff_eq]at h;rcases h with h|⟨h,_⟩
 ·subst h;decide
 ·have e:∀w:Bytes,(w.dropWhile (· == 48)).all digit=true→w.all digit=true∧number w=number (w.dropWhile (· == 48)):=by
   intro w;induction w with
   |nil=>intro _;exact⟨rfl,rfl⟩
   |cons b r ih =>
    intro bW;by_cases au:b=48
    ·subst au;have bn:(48::r).dropWhile (· == (48:UInt8))=r.dropWhile (· == 48):=by simp [List.dropWhile]
     rw [bn]at bW⊢;obtain⟨a,c⟩:=ih bW;refine⟨by simp only [List.all_cons,a,Bool.and_true];decide,?_⟩;rw [←c];rfl
    ·have bn:(b::r).dropWhile (· == (48:UInt8))=b::r:=by rw [List.dropWhile_cons,if_neg (by simpa using au)]
     rw [bn]at bW⊢;exact⟨bW,rfl⟩
  have:=e w (by rw [h];decide);rw [h]at this;exact⟨this.1,by rw [this.2];decide⟩
theorem adP{n:Nat}(h:n≠200):j' (decDigits n)=false:=by
 cases q:j' (decDigits n)with
 |false=>rfl
 |true =>
  have:=(Qz q).2;rw [P5]at this;exact absurd this h
theorem adQ(n m:Nat):j' (eu [n,m])=false:=by
 cases q:j' (eu [n,m])with
 |false=>rfl
 |true =>
  have:=(Qz q).1;rw [eu,List.all_append,List.all_cons]at this;simp [digit]at this
theorem IN{c:UInt8}{n m:Nat}(aS:n<1000000000)(hm:m≤7)(p:¬(c=82∨c=99∨c=110))(ad:¬(c=77∨c=109)) :
 told (eu [n,m+1]) c=if 0<gE c.toNat∧n=1 then some (eR (gE c.toNat) m)else if c=126∧0<iI n then some (eR (iI n) m)else if c=117 then dM n m else none:=by
 unfold told;rw [if_neg p,if_neg ad,Ip (by intro x ae;simp only [List.mem_cons,List.not_mem_nil,or_false]at ae;rcases ae with rfl|rfl<;>omega)];simp only [List.length_cons,List.length_nil];rw [if_neg (by omega)];have e:(((m+1:Nat):Int)-1)=m:=by omega
 rw [e];simp
theorem adR{c:UInt8}{n:Nat}(aS:n<1000000000)(p:¬(c=82∨c=99∨c=110))(ad:¬(c=77∨c=109)) :
 told (eu [n]) c=if c=126∧0<iI n then some (eR (iI n) 0)else if c=117 then dM n 0 else none:=by
 unfold told;rw [if_neg p,if_neg ad,Ip (by intro x ae;simp only [List.mem_cons,List.not_mem_nil,or_false]at ae;omega)];simp
theorem IP{n m:Nat}(aS:n<1000000000)(hm:m≤8):(eu [n,m]).length≤60:=by rw [eu,eu,List.length_append,List.length_cons];have:=pw (n:=n) (k:=8) (by simpa using aS);have:=pw (n:=m) (k:=0) (by simp;omega);omega
theorem IQ{r m:Nat}(bb:r<2097153)(hm:m≤7){e:bj}(h:dM r m=some e):dh zero (gx [117] [r,m+1])=(zero,[e]):=by refine yD (IP (by omega) (by omega)) (by decide) (by decide) (fun h=>absurd h (by decide)) ?_;rw [IN (by omega) hm (by decide) (by decide),if_neg (by simp [gE]),if_neg (fun q=>absurd q.1 (by decide)),if_pos rfl,h]
theorem QA{r m:Nat}(an:shown r=true):dM r m=some (fe r m):=by unfold dM;have:=yE an;unfold Scalar at this;rw [if_neg (by omega),if_neg (by omega),if_neg (by omega),if_neg (by omega),if_neg (by simp [an];omega)]
theorem adS(s:Bytes):dh zero (27::s)=dh ⟨.du,[27],[],[]⟩ s:=by rw [dh];show(_,[]++_)=_;rw [List.nil_append];rfl
theorem adT{c:UInt8}(h:c.toNat<32∨c.toNat=127)(hY:c≠27):dh zero [c]=(zero,[control c.toNat]):=by rw [vu];show ground zero c=_;unfold ground;rw [if_neg hY];unfold ix;rw [if_pos h];rfl
theorem adU{c:UInt8}(h:c.toNat<32∨c.toNat=127)(hY:c≠27):dh zero [27,c]=(zero,[{control c.toNat with dW:=(control c.toNat).dW+2}]):=by rw [adS,vu];show du _ c=_;unfold du;rw [if_neg hY,if_neg (by rintro rfl;revert h;decide),if_neg (by rintro rfl;revert h;decide)];unfold plain ix;rw [if_pos h];rfl
theorem adV{r:Nat}{c:UInt8}(h:tx r=some c):(c.toNat<32∨c.toNat=127)∧c≠27∧control c.toNat=fe r 4:=by
 have go:∀k:Nat,k<32→k≠27→k≠9→k≠13→u8 k=c→(k=0→r=32)→(0<k→k<27→r=k+96)→(27<k→r=k+64)→(c.toNat<32∨c.toNat=127)∧c≠27∧control c.toNat=fe r 4:=by
  intro k p ad bd bS e a b d;have lM:c.toNat=k:=by rw [←e];exact lS (by omega)
  refine⟨.inl (by omega),by rintro rfl;exact ad (by rw [←lM];rfl),?_⟩;rw [lM];unfold control;rw [if_neg bS,if_neg bd,if_neg (by omega)];split
  ·rename_i bm;rw [a bm];rfl
  ·split
   ·rw [b (by omega) (by omega)];simp [fe]
   ·rw [d (by omega)];simp [fe]
 unfold tx at h;split at h
 ·simp only [Option.some.injEq]at h;exact go 0 (by decide) (by decide) (by decide) (by decide) (by rw [←h];rfl) (fun _=>by omega) (by omega) (by omega)
 ·split at h
  ·simp only [Option.some.injEq]at h;exact go (r%32) (by omega) (by omega) (by omega) (by omega) h (by omega) (by omega) (by omega)
  ·split at h
   ·simp only [Option.some.injEq]at h;exact go (r%32) (by omega) (by omega) (by omega) (by omega) h (by omega) (by omega) (by omega)
   ·cases h
theorem adW{r m:Nat}(an:shown r=true)(hm:m≤7):dh zero (kI r m)=(zero,[fe r m]):=by
 obtain⟨bm,mA,om,_⟩:=yE an;have e:(r:Int).toNat=r:=by omega
 rw [e]at bm mA om;have bb:r<2097153:=by unfold Scalar at bm;omega
 unfold kI;split
 ·rename_i qD;subst qD;exact acz bm mA om
 ·split
  ·rename_i h;rw [h.1];exact acA bm mA om h.2.1 h.2.2
  ·split
   ·rename_i Cr;split
    ·rename_i c av;obtain⟨ao,a2,a3⟩:=adV av;split
     ·rename_i bS;rw [adT ao a2,a3,bS];rfl
     ·rw [adU ao a2,a3,show m=6 by omega];rfl
    ·exact IQ bb hm (QA an)
   ·exact IQ bb hm (QA an)
theorem adX{k:Nat}{c:UInt8}(h:ty k=some c):gE c.toNat=k∧0<k∧64≤c.toNat∧c.toNat≤126∧¬(c=82∨c=99∨c=110)∧¬(c=77∨c=109)∧c≠126∧c≠90∧c≠73∧c≠79:=by
 unfold ty at h;split at h
 ·simp only [Option.some.injEq]at h;subst h;rcases (show k=5∨k=6∨k=7∨k=8 by omega)with rfl|rfl|rfl|rfl<;>decide
 ·split at h
  ·simp only [Option.some.injEq]at h;subst h;rename_i ap;subst ap;decide
  ·split at h
   ·simp only [Option.some.injEq]at h;subst h;rename_i ap;subst ap;decide
   ·cases h
theorem QB{k n:Nat}(h:r1 k=some n):iI n=k∧0<k∧n≤24:=by
 have go:∀k:Fin 33,∀n:Fin 25,r1 k.val=some n.val→iI n.val=k.val∧0<k.val:=by decide
 have ap:k<33∧n<25:=by
  unfold r1 at h
  repeat' split at h
  all_goals first|(cases h;done)|(simp only [Option.some.injEq]at h;omega)
 have:=go ⟨k,ap.1⟩ ⟨n,ap.2⟩ h;exact⟨this.1,this.2,by omega⟩
theorem adY{k:Nat}(p:1≤k)(bS:k≤4)(m:Nat):dM (pv k) m=some (eR k m):=by rcases (show k=1∨k=2∨k=3∨k=4 by omega)with rfl|rfl|rfl|rfl<;>rfl
theorem adZ{k m:Nat}{b:Bytes}(hm:m≤7)(h:oi k m=some b)(au:b≠[27]):dh zero b=(zero,[eR k m]):=by
 unfold oi at h;split at h
 ·rename_i ap;split at h
  ·rename_i qD;simp only [Option.some.injEq]at h;subst h qD;rcases (show k=1∨k=2∨k=3∨k=4 by omega)with rfl|rfl|rfl|rfl
   ·decide
   ·decide
   ·decide
   ·exact absurd rfl au
  ·split at h
   ·rename_i mX;simp only [Option.some.injEq]at h;subst h;rw [mX.1];rcases (show k=1∨k=2∨k=3 by omega)with rfl|rfl|rfl<;>decide
   ·split at h
    ·rename_i mX;simp only [Option.some.injEq]at h;subst h;rw [mX.1,mX.2];decide
    ·simp only [Option.some.injEq]at h;subst h;refine IQ ?_ hm (adY ap.1 ap.2 m);unfold pv;repeat' split
     all_goals omega
 ·split at h
  ·rename_i c av;obtain⟨a0,ao,a2,a3,a4,a5,mh,w',Fp,a9⟩:=adX av;split at h
   ·rename_i qD;simp only [Option.some.injEq]at h;subst h qD;refine yD (by decide) a2 a3 (fun h=>absurd h mh) ?_;show told [] c=_;unfold told;rw [if_neg a4,if_neg a5];show(if c=90 then _ else _)=_;rw [if_neg w',if_neg Fp,if_neg a9,if_pos (by omega),a0];rfl
   ·simp only [Option.some.injEq]at h;subst h;refine yD (IP (by decide) (by omega)) a2 a3 (fun h=>absurd h mh) ?_;rw [IN (by decide) hm a4 a5,if_pos ⟨by omega,rfl⟩,a0]
  ·split at h
   ·rename_i qD;simp only [Option.some.injEq]at h;subst h;rw [qD.1];rcases (show k=21∨k=22∨k=23∨k=24 by omega)with rfl|rfl|rfl|rfl<;>decide
   ·split at h
    ·rename_i n aS;obtain⟨a0,ao,a2⟩:=QB aS;split at h
     ·rename_i qD;simp only [Option.some.injEq]at h;subst h qD;refine yD ?_ (by decide) (by decide) (fun _=>adP (by omega)) ?_
      ·show(decDigits n).length≤60;have:=pw (n:=n) (k:=1) (by simp;omega);omega
      ·rw [adR (by omega) (by decide) (by decide),if_pos ⟨rfl,by omega⟩,a0];rfl
     ·simp only [Option.some.injEq]at h;subst h;refine yD (IP (by omega) (by omega)) (by decide) (by decide) (fun _=>adQ _ _) ?_;rw [IN (by omega) hm (by decide) (by decide),if_neg (by simp [gE]),if_pos ⟨rfl,by omega⟩,a0]
    ·cases h
theorem QC:∀c:Fin 7,∀m:Fin 8,(gG c.val+4*m.val)/4%8=m.val∧gG c.val+4*m.val-4*m.val=gG c.val∧gG c.val+4*m.val<1000:=by decide
theorem ad0{c m x y:Nat}(av:c≤6)(hm:m≤7)(ae:x<4096)(bY:y<4096):dh zero (oj c m x y)=(zero,[⟨3,c,m,x,y,[]⟩]):=by
 obtain⟨ba,bT,eQ⟩:=QC ⟨c,by omega⟩ ⟨m,by omega⟩;simp only at ba bT eQ
 have hw:(60::eu [gG c+4*m,x+1,y+1]).all qB=true:=by rw [List.all_cons,Iq];rfl
 have az:(60::eu [gG c+4*m,x+1,y+1]).length≤60:=by rw [eu,eu,eu];simp only [List.length_cons,List.length_append];have:=pw (n:=gG c+4*m) (k:=2) (by simp;omega);have:=pw (n:=x+1) (k:=3) (by simp;omega);have:=pw (n:=y+1) (k:=3) (by simp;omega);omega
 have aS:numbers (eu [gG c+4*m,x+1,y+1])=some [gG c+4*m,x+1,y+1]:=Ip (by
  intro n aS;simp only [List.mem_cons,List.not_mem_nil,or_false]at aS
  rcases aS with rfl|rfl|rfl<;>omega)
 have ex:(((x+1:Nat):Int)-1)=x:=by omega
 have iU:(((y+1:Nat):Int)-1)=y:=by omega
 by_cases bd:c=3
 ·subst bd;show dh zero (27::91::((60::eu _)++[109]))=_;refine Ir hw az (by decide) (by decide) (fun h=>absurd h (by decide)) ?_;show(match numbers (eu [gG 3+4*m,x+1,y+1])with|some [aj,a6,aO]=>_|_=>_)=_;rw [aS];simp only [ba,bT];rw [if_neg (by omega),if_pos (by simp [gG]),ex,iU];rfl
 ·show dh zero (27::91::((60::eu _)++[if c=3 then 109 else 77]))=_;rw [if_neg bd];refine Ir hw az (by decide) (by decide) (fun h=>absurd h (by decide)) ?_;show(match numbers (eu [gG c+4*m,x+1,y+1])with|some [aj,a6,aO]=>_|_=>_)=_;rw [aS];simp only [ba,bT];rw [if_neg (by omega),if_neg (by simp),ex,iU];rcases (show c=0∨c=1∨c=2∨c=4∨c=5∨c=6 by omega)with rfl|rfl|rfl|rfl|rfl|rfl<;>rfl
end Go.Keys
namespace Go.Keys
def Div(x:Bytes):Prop:= ¬x <+: ea∧¬ea <+: x
theorem ad1{x:Bytes}(h:Div x)(t:Bytes):Div (x++t):=by
 refine⟨fun q=>h.1 ((List.prefix_append x t).trans q),fun q=> ?_⟩;rcases List.prefix_append_right_inj x |>.1 (List.prefix_refl _)with _
 rcases Nat.le_total x.length ea.length with az|az
 ·exact h.1 (List.prefix_of_prefix_length_le (List.prefix_append x t) q az)
 ·exact h.2 (List.prefix_of_prefix_length_le q (List.prefix_append x t) az)
theorem ad2(P:Bytes)(b:UInt8)(M:Nat):(P++[b]).take M=if(P.take M).length<M then P.take M++[b]else P.take M:=by
 rw [List.length_take];split
 ·rename_i h;rw [List.take_append,List.take_of_length_le (l:=[b]) (by simp;omega)]
 ·rename_i h;rw [List.take_append,show M-P.length=0 by omega];simp
theorem IR(P x:Bytes):(P++x).drop P.length=x:=by simp
theorem QD:∀(n:Nat)(k P:Bytes),k.length≤n→k.length≤6→(∀i,i<P.length→Div ((P++k).drop i)) →
 ∃iN,iN++(shift n k (P.take 65536)).1=P++k∧(shift n k (P.take 65536)).2=iN.take 65536∧(shift n k (P.take 65536)).1 <+: ea∧∀i,i<iN.length→Div ((P++k).drop i)
 |0,k,P,h,_,aC=>by have:k=[]:=List.eq_nil_of_length_eq_zero (by omega);subst this;exact⟨P,by simp [shift],by simp [shift],by simp [shift],aC⟩
 |n+1,[],P,h,_,aC=>⟨P,by simp [shift],by simp [shift],by simp [shift],aC⟩
 |n + 1,b::r,P,h,dx,aC=>by
  rw [shift];split
  ·rename_i ac;exact⟨P,rfl,rfl,List.isPrefixOf_iff_prefix.1 ac,aC⟩
  ·rename_i ac;rw [←ad2];have e:P++b::r=(P++[b])++r:=by simp
   rw [e]
   have hdiv:Div (b::r):=by refine⟨fun q=>ac (List.isPrefixOf_iff_prefix.2 q),fun q=> ?_⟩;have:=q.eq_of_length_le (by simpa [ea]using dx);exact ac (List.isPrefixOf_iff_prefix.2 (by rw [this];exact List.prefix_refl _))
   refine QD n r (P++[b]) (by simp only [List.length_cons]at h;omega) (by simp only [List.length_cons]at dx;omega) fun i ak=> ?_
   rw [←e];simp only [List.length_append,List.length_cons,List.length_nil]at ak;rcases Nat.lt_or_ge i P.length with p|p
   ·exact aC i p
   ·rw [show i=P.length by omega,IR];exact hdiv
structure yQ(S:Bytes)(P:Bytes)(s:bO):Prop where
 cp:s.cp=.cW
 hold:s.hold=[]
 all:S=P++s.kept
 aB:s.aB=P.take 65536
 short:s.kept.length<6
 pre:s.kept <+: ea
 div:∀i,i<P.length→Div (S.drop i)
def Cs(t:Bytes):bj:=⟨4,0,0,0,0,t⟩
theorem QE{S P:Bytes}{s:bO}(h:yQ S P s)(c:UInt8) :
 ((step s c).2=[]∧∃iN,yQ (S++[c]) iN (step s c).1)∨(∃iN,S++[c]=iN++ea∧step s c=(zero,[Cs (iN.take 65536)])∧∀i,i<iN.length→Div ((S++[c]).drop i)):=by
 obtain⟨cp,kept,hold,aB⟩:=s;obtain⟨p,ad,bd,bS,bI,dx,cP⟩:=h;simp only at p ad bd bS bI dx;subst p ad bd bS;have e:P++kept++[c]=P++(kept++[c]):=by simp
 have k:=QD (kept.length+1) (kept++[c]) P (by simp) (by simp;omega) fun i ak=>by rw [←e,List.drop_append_of_le_length (by simp;omega)];exact ad1 (cP i ak) _
 obtain⟨iN,ao,a2,a3,a4⟩:=k;show((cW _ c).2=[]∧∃iN,yQ _ iN (cW _ c).1)∨(∃iN,_∧cW _ c=_∧_);unfold cW;simp only;split
 ·rename_i az;refine .inr ⟨iN,?_,?_,?_⟩
  ·rw [e,←ao]
   congr 1
   exact a3.eq_of_length_le (by rw [az];decide)
  ·rw [a2];rfl
  ·rw [e];exact a4
 ·rename_i az;have hlen:=a3.length_le;have Jq:ea.length=6:=rfl;refine .inl ⟨rfl,iN,rfl,rfl,by rw [e,←ao],a2,by show(shift _ _ _).1.length<6;omega,a3,by rw [e];exact a4⟩
theorem QF:∀(t:Bytes),hasEnd t=false↔ ∀i,¬ea <+: t.drop i
 |[]=>by simp [hasEnd];decide
 |b ::r=>by
  rw [hasEnd,Bool.or_eq_false_iff,QF r];constructor
  ·rintro ⟨p,ad⟩ i;cases i with
   |zero=>intro q;rw [List.drop_zero]at q;rw [List.isPrefixOf_iff_prefix.2 q]at p;cases p
   |succ i=>rw [List.drop_succ_cons];exact ad i
  ·intro h;refine⟨?_,fun i=>by have:=h (i+1);rwa [List.drop_succ_cons]at this⟩;cases q:ea.isPrefixOf (b::r)with
   |false=>rfl
   |true=>exact absurd (List.isPrefixOf_iff_prefix.1 q) (h 0)
theorem QG:∀(t S P:Bytes)(s:bO),yQ S P s→t≠[]→(∀i,i+6<(S++t).length→ ¬ea <+: (S++t).drop i)→ ∀Q,S++t=Q++ea→dh s t=(zero,[Cs (Q.take 65536)])
 |[],_,_,_,_,h,_,_,_=>absurd rfl h
 |[c],S,P,s,ak,_,ai,Q,eI=>by
  rw [vu];rcases QE ak c with ⟨_,iN,h⟩|⟨iN,e,h,_⟩
  ·exfalso;have aT:=h.all;rw [eI]at aT;have an:=h.short;have az:=congrArg List.length aT;have dx:ea.length=6:=rfl;simp only [List.length_append]at az;have:=h.div Q.length (by omega);rw [eI,IR]at this;exact this.1 (List.prefix_refl _)
  ·rw [h];rw [eI]at e;have:=List.append_cancel_right e;rw [this]
 |c ::d::r,S,P,s,ak,_,ai,Q,eI=>by
  rw [dh];have ca:S++c::d::r=(S++[c])++(d::r):=by simp
  rcases QE ak c with ⟨ad,iN,h⟩|⟨iN,e,h,_⟩
  ·rw [ad,List.nil_append,QG (d::r) (S++[c]) iN _ h (by simp) (by rw [←ca];exact ai) Q (by rw [←ca];exact eI)]
  ·exfalso;have az:=congrArg List.length e;have dx:ea.length=6:=rfl;simp only [List.length_append,List.length_cons,List.length_nil]at az;refine ai iN.length (by simp only [List.length_append,List.length_cons];omega) ?_;rw [ca,e,List.append_assoc,IR];exact List.prefix_append _ _
theorem ad3{t:Bytes}(az:t.length≤65536)(h:hasEnd t=false):dh zero (ol++(t++ea))=(zero,[Cs t]):=by
 have e:dh zero ol=(⟨.cW,[],[],[]⟩,[]):=by decide
 rw [w6,e];simp only [List.nil_append];rw [QG (t++ea) [] [] _ ⟨rfl,rfl,rfl,rfl,by decide,by decide,by simp⟩ (by simp [ea]) ?_ t rfl,List.take_of_length_le az];intro i ak q;rw [List.nil_append]at ak q;rw [List.length_append]at ak;have dx:ea.length=6:=rfl;rw [QF]at h;rcases Nat.lt_or_ge t.length (i+6)with p|p
 ·
   obtain⟨C,aV⟩:∃C,t.length=i+C:=⟨t.length-i,by omega⟩
   have Ql:1≤C∧C≤5:=by omega
   obtain⟨u,hu⟩:=q;have g:=congrArg (fun l=>l[C]?) hu;simp only [List.getElem?_drop,List.getElem?_append]at g;rw [if_pos (by omega),if_neg (by omega),show i+C-t.length=0 by omega]at g;rcases (show C=1∨C=2∨C=3∨C=4∨C=5 by omega)with rfl|rfl|rfl|rfl|rfl<;>exact absurd g (by decide)
 ·refine h i ?_;rw [List.drop_append_of_le_length (by omega)]at q;exact List.prefix_of_prefix_length_le q (List.prefix_append _ _) (by rw [List.length_drop];omega)
end Go.Keys
namespace Go.Keys
theorem IS(c m:Int):(fe c m).kind≠6:=fun h=>absurd (show(1:Int)=6 from h) (by decide)
theorem yR(c m:Int):(eR c m).kind≠6:=fun h=>absurd (show(2:Int)=6 from h) (by decide)
theorem yS(t:Bytes):(gV t).kind≠6:=fun h=>absurd (show(7:Int)=6 from h) (by decide)
theorem ad4(t:Bytes):(Cs t).kind≠6:=fun h=>absurd (show(4:Int)=6 from h) (by decide)
def QH(s:bO)(c:UInt8)(r:bO×List bj):Prop:= ∀e∈r.2,e.kind=6→s.cp=.sequence∧r.2=[e]∧r.1.cp=.ground∧e=⟨6,0,0,0,0,s.kept.drop 2++[c]⟩
theorem qE{s:bO}{c:UInt8}{r:bO×List bj}(h:∀e∈r.2,e.kind≠6):QH s c r:=fun e he ap=>absurd ap (h e he)
theorem QI(c:Nat):(control c).kind≠6:=by
 unfold control
 repeat' split
 all_goals first|exact IS _ _|exact yR _ _
theorem QJ{s:bO}{c:UInt8}{no:bO→bO×List bj}(h:∀s1,∀e∈(no s1).2,e.kind≠6):∀e∈(gD s c no).2,e.kind≠6:=by
 unfold gD;simp only;split
 ·intro e he;cases he
 ·split
  ·split
   ·intro e he;simp only [tell,List.mem_singleton]at he;subst he;exact IS _ _
   ·intro e he;simp only [tell,List.mem_singleton]at he;subst he;exact yS _
  ·exact h _
theorem QK{s:bO}{c:UInt8}{no:bO→bO×List bj}(h:∀s1,∀e∈(no s1).2,e.kind≠6):∀e∈(ix s c no).2,e.kind≠6:=by
 unfold ix;split
 ·intro e he;simp only [tell,List.mem_singleton]at he;subst he;split
  ·exact QI _
  ·exact QI _
 ·exact QJ h
theorem Ct(s:bO)(c:UInt8):∀e∈(ground s c).2,e.kind≠6:=by
 unfold ground;split
 ·intro e he;cases he
 ·refine QK fun s1 e he=> ?_
  simp only [tell,List.mem_singleton]at he;subst he;exact yS _
theorem Cu{a:bj}{l:List bj}(aT:a.kind≠6)(h:∀e∈l,e.kind≠6):∀e∈a::l,e.kind≠6:=by
 intro e he;rcases List.mem_cons.1 he with rfl|he
 ·exact aT
 ·exact h e he
theorem IT(s:bO)(c:UInt8):∀e∈(bad s c).2,e.kind≠6:=Cu (yS _) (Ct _ _)
theorem yT{a:bj}(aT:a.kind≠6):∀e∈ [a],e.kind≠6:=Cu aT (by simp)
theorem QL(s:bO)(c:UInt8):QH s c (step s c):=by
 unfold step;split
 ·exact qE (Ct _ _)
 ·unfold du;refine qE ?_;split
  ·exact Cu (yR _ _) (Ct _ _)
  ·split
   ·intro e he;cases he
   ·split
    ·intro e he;cases he
    ·exact QK fun s1=>IT _ _
 ·exact qE (QJ fun s1=>IT _ _)
 ·rename_i aS;unfold sequence;split
  ·unfold done;split
   ·exact qE (by intro e he;cases he)
   ·intro e he ap;simp only [tell,List.mem_singleton]at he;refine⟨aS,by simp only [tell,he],rfl,?_⟩;cases bX:told (s.kept.drop 2) c with
    |none=>rw [bX]at he;subst he;exact absurd ap (yS _)
    |some x =>
     rw [bX]at he;simp only [Option.getD_some]at he;subst he;rcases ab' bX with h|h
     ·rcases h with h|h|h|h<;>(rw [h.1]at ap;exact absurd ap (by decide))
     ·exact h
  ·split
   ·exact qE (IT _ _)
   ·split
    ·exact qE (yT (yS _))
    ·exact qE (by intro e he;cases he)
 ·unfold single;refine qE ?_;split
  ·exact yT (yR _ _)
  ·split
   ·exact yT (yR _ _)
   ·split
    ·exact yT (yR _ _)
    ·exact Cu (IS _ _) (Ct _ _)
 ·unfold cW;simp only;refine qE ?_;split
  ·exact yT (ad4 _)
  ·intro e he;cases he
theorem QM:∀(n:Nat)(k I:Bytes),(shift n k I).1.length≤k.length
 |0,k,I=>by simp [shift]
 |n+1,[],I=>by simp [shift]
 |n +1,b::r,I=>by
  rw [shift];split
  ·exact Nat.le_refl _
  ·have:=QM n r (if I.length<65536 then I++[b]else I);simp only [List.length_cons];omega
theorem IU(c:UInt8){s:bO}{no:bO→bO×List bj}(h:∀s1,(no s1).1.cp≠ .cW):(gD s c no).1.cp≠ .cW:=by
 unfold gD;simp only;split
 ·intro h;cases h
 ·split
  ·split<;>(intro h;cases h)
  ·exact h _
theorem vB(c:UInt8)(s:bO):(ground s c).1.cp≠ .cW:=by
 unfold ground;split
 ·intro h;cases h
 ·unfold ix;split
  ·intro h;cases h
  ·exact IU c fun s1=>by intro h;cases h
theorem ad5{s:bO}{c:UInt8}(ac:s.cp≠ .cW)(p:(step s c).1.cp=.cW):(step s c).1=⟨.cW,[],s.hold,s.aB⟩∧(step s c).2=[]:=by
 revert p
 unfold step;split
 ·exact fun h=>absurd h (vB c s)
 ·unfold du;split
  ·exact fun h=>absurd h (vB c _)
  ·split
   ·intro h;cases h
   ·split
    ·intro h;cases h
    ·unfold plain ix;split
     ·intro h;cases h
     ·exact fun h=>absurd h (IU c fun s1=>vB c _)
 ·exact fun h=>absurd h (IU c fun s1=>vB c _)
 ·rename_i aS;unfold sequence;split
  ·unfold done;split
   ·intro _;exact⟨rfl,rfl⟩
   ·intro h;cases h
  ·split
   ·exact fun h=>absurd h (vB c _)
   ·split
    ·intro h;cases h
    ·exact fun h=>absurd h ac
 ·unfold single;split
  ·intro h;cases h
  ·split
   ·intro h;cases h
   ·split
    ·intro h;cases h
    ·exact fun h=>absurd h (vB c _)
 ·rename_i aS;exact absurd aS ac
theorem ad6{s:bO}(c:UInt8)(fx:Good s):(step s c).1.kept.length≤s.kept.length+1:=by
 by_cases ac:s.cp=.cW
 ·unfold step;rw [ac];simp only;unfold cW;simp only;split
  ·simp [tell]
  ·have:=QM (s.kept.length+1) (s.kept++[c]) s.aB;simp only [List.length_append,List.length_cons,List.length_nil]at this;exact this
 ·rcases ab5 c fx ac with p|p|⟨_,p⟩|⟨_,_,p⟩
  ·rw [P0 (xd c fx) p];simp [zero]
  ·rw [(ad5 ac p).1];simp
  ·rw [p];simp
  ·rw [p];simp
theorem QN:Good zero:=⟨rfl,rfl,rfl⟩
theorem QO:∀(b:Bytes){s:bO},Good s→ ∀e∈(dh s b).2,e.kind=6→e.text.length+2≤s.kept.length+b.length
 |[],s,_,e,he,_=>by simp [dh]at he
 |c ::r,s,fx,e,he,ap=>by
  rw [dh]at he;rcases List.mem_append.1 he with he|he
  ·obtain⟨p,ad,bd,bS⟩:=QL s c e he ap;obtain⟨cp,kept,hold,aB⟩:=s;simp only at p;subst p;obtain⟨_,_,bI,_⟩:=fx;rw [bS];simp only [List.length_append,List.length_drop,List.length_cons,List.length_nil]at *;omega
  ·have p:=ad6 c fx;have ad:=QO r (xd c fx) e he ap;simp only [List.length_cons];omega
theorem ad7{t:Bytes}(h:(dh zero (27::91::t)).2=[⟨6,0,0,0,0,t⟩]):(dh zero (27::91::t)).1=zero:=by
 rcases List.eq_nil_or_concat t with rfl|⟨fj,c,rfl⟩
 ·exact absurd h (by decide)
 ·have e:(27:UInt8)::91::fj.concat c=(27::91::fj)++[c]:=by simp
  rw [e,w6,vu]at h⊢;simp only at h⊢;have fx:=AK (27::91::fj) QN;have ij:(⟨6,0,0,0,0,fj.concat c⟩:bj)∈(dh zero (27::91::fj)).2++(step (dh zero (27::91::fj)).1 c).2:=by rw [h];simp
  rcases List.mem_append.1 ij with p|p
  ·have:=QO _ QN _ p rfl;simp [zero]at this;omega
  ·obtain⟨_,_,bd,_⟩:=QL _ c _ p rfl;exact P0 (xd c fx) bd
theorem QP{e :bj}{b:Bytes}(bm:0≤e.dW)(h:dI e=some b)(au:b≠[27]):dh zero b=(zero,[e]):=by
 obtain⟨kind,code,dW,x,y,text⟩:=e;simp only at bm;unfold dI at h;simp only at h;split at h
 ·rename_i ap;split at h
  ·rename_i hm;simp only [Option.some.injEq]at h;simp only [tz,Bool.and_eq_true,decide_eq_true_eq]at hm;obtain⟨⟨⟨⟨⟨⟨⟨lX,lr⟩,m7⟩,jg⟩,kt⟩,IV⟩,pR⟩,rfl⟩:=hm;subst h ap;rw [ad0 (by omega) (by omega) (by omega) (by omega),Int.toNat_of_nonneg lX,Int.toNat_of_nonneg bm,Int.toNat_of_nonneg jg,Int.toNat_of_nonneg IV]
  ·cases h
 ·split at h
  ·cases h
  ·rename_i agy;split at h
   ·rename_i ap;obtain⟨rfl,ac,an⟩:=ap;simp only [vv,Bool.and_eq_true,decide_eq_true_eq]at ac;obtain⟨⟨rfl,rfl⟩,rfl⟩:=ac;simp only [Option.some.injEq]at h;subst h;have:=(yE an).2.2.2;rw [←this]at an;rw [adW an (by omega),this,Int.toNat_of_nonneg bm];rfl
   ·split at h
    ·rename_i ap;obtain⟨rfl,ac⟩:=ap;simp only [vv,Bool.and_eq_true,decide_eq_true_eq]at ac;obtain⟨⟨rfl,rfl⟩,rfl⟩:=ac;split at h
     ·rename_i lX;rw [adZ (by omega) h au,Int.toNat_of_nonneg lX,Int.toNat_of_nonneg bm];rfl
     ·cases h
    ·split at h
     ·rename_i a8;simp only [Option.some.injEq]at h;subst h;rw [a8];decide
     ·split at h
      ·rename_i a8;simp only [Option.some.injEq]at h;subst h;rw [a8];decide
      ·split at h
       ·rename_i a8;simp only [Option.some.injEq]at h;subst h;rw [a8.1];exact ad3 a8.2.1 a8.2.2
       ·split at h
        ·rename_i a8;rw [a8.1]at h;split at h
         ·rename_i bb;simp only [Option.some.injEq]at h;subst h;rw [a8.1];exact Prod.ext (ad7 bb.1) bb.1
         ·cases h
        ·cases h
end Go.Keys
namespace Go.Keys
theorem ad8:∀k:Fin 33,∀m:Fin 8,(1≤k.val∧k.val≤14∨21≤k.val)→(oi k.val m.val).isSome=true:=by decide
structure Holds(s:bO):Prop where
 jT:Good s
 path:Path s
 seq:Seq s
 aB:s.cp=.cW→ ∃S P,yQ S P s
theorem ad9{s:bO}(h:Good s):s.kept.length≤63:=by
 obtain⟨cp,kept,hold,aB⟩:=s;cases cp with
 |ground=>obtain⟨p,_⟩:=h;simp only at p;subst p;simp
 |du=>obtain⟨p,_⟩:=h;simp only at p;subst p;simp
 |dd =>
  obtain⟨_,ad,_,bS,_⟩:=h;simp only at ad bS⊢;have az:=congrArg List.length ad;rw [List.length_drop]at az;have:=Vw kept;omega
 |sequence=>obtain⟨_,_,_,bS⟩:=h;simp only at bS⊢; omega
 |single=>obtain⟨_,_,p⟩:=h;simp only at p;subst p;simp
 |cW=>obtain⟨_,p,_⟩:=h;simp only at p⊢; omega
end Go.Keys
namespace Go.Proofs.YtddnafghiejcoaaGreatDoor
open Go.cM Go.Keys
set_option maxRecDepth 1000000
theorem ad'(k:Nat):pv k<1000:=by unfold pv;split<;>(try split)<;>(try split)<;>omega
theorem aea{k m:Nat}(hm:m≤7):IL k m=oi k m:=by
 unfold IL oi;by_cases h:1≤k∧k≤4
 ·rw [if_pos h,if_pos h,yN (ad' k) (by omega)];rfl
 ·rw [if_neg h,if_neg h];cases aT:ty k with
  |some c=>simp only;rw [yN (by decide) (by omega)];rfl
  |none =>
   simp only;cases aS:r1 k with
   |none=>rfl
   |some n =>
    have:=(QB aS).2.2;simp only;rw [adI (by omega),yN (by omega) (by omega)]
theorem aeb{h:j}{q i:Nat}{l:Bytes}{e:Bool}{aq:Option (TypeId×Nat)}(ag:h.get q=some (R.made (aL l) 1 e aq))(ak:i<l.length):cj (b5.D env) 5 ⟨q,0,0+i,0,1⟩ h=some (.int .u8 (l[i].toNat:Nat)):=by
 have b':(b5.D env 5).map (fun d=>d.kind.isAgg)=some false:=by kernel_rfl
 obtain⟨x,p,ad⟩:=Option.map_eq_some_iff.1 b';unfold cj;rw [p,ag];simp [R.elem?,R.cO,iD,ad,R.made,ak,aL]
def nz:Bytes:=[65,66,67,68,72,70]
theorem aec:∀i:Fin 6,5≤hi ((nz[i.val]'(by exact i.isLt)).toNat:Int)∧hi ((nz[i.val]'(by exact i.isLt)).toNat:Int)≤10:=by decide
theorem aed:∀i:Fin 25,hO (i.val:Int)=0∨(9≤hO (i.val:Int)∧hO (i.val:Int)≤14)∨(21≤hO (i.val:Int)∧hO (i.val:Int)≤32):=by decide
def mB(k:Int):Prop:= ¬(1≤k∧k≤14)∧¬(21≤k∧k≤32)
abbrev Cv(k:Int)(m q i:Nat):bP:=[(0,.int .i32 k),(1,.int .u8 (m:Nat)),(5,.int .i64 ((m:Int)+1)),(52,.slice (some ⟨q,0,0,0,1⟩) 6 6),(53,.int .i64 6),(54,.int .i64 (i:Nat))]
theorem aee{B q m:Nat}{k:Int}(ap:mB k):∀(t i:Nat)(H:j),6-i≤t→i≤6→B≤H.next→H.get q=some (R.made (aL nz) 1 true) →
 ∃n ep,cN Tryz.prog aw B 111 (cF Tryz.prog 43 0) (Cv k m q i) H (.exit 1) [(0,.int .i32 k),(1,.int .u8 (m:Nat)),(5,.int .i64 ((m:Int)+1)),(52,.slice (some ⟨q,0,0,0,1⟩) 6 6),(53,.int .i64 6),(54,ep)] ⟨H.next+n,H.aJ⟩:=by
 intro t
 have fin:∀(H:j),B≤H.next→ ∃n ep,cN Tryz.prog aw B 111 (cF Tryz.prog 43 0) (Cv k m q 6) H (.exit 1) [(0,.int .i32 k),(1,.int .u8 (m:Nat)),(5,.int .i64 ((m:Int)+1)),(52,.slice (some ⟨q,0,0,0,1⟩) 6 6),(53,.int .i64 6),(54,ep)] ⟨H.next+n,H.aJ⟩:=by intro H cE;obtain⟨e,aW,p,bb,rfl,rfl,rfl⟩:=Qo H B q 6 0 k m (fun e aW p=>e=.exit 1∧aW=Cv k m q 6∧p=⟨H.next+1,H.aJ⟩) (bq cE ⟨fun h=>absurd h (by omega),fun _=>⟨rfl,rfl,rfl⟩⟩);exact⟨1,_,cN.last (by simp) bb⟩
 induction t with
 |zero =>
  intro i H bX ak cE _;obtain rfl:i=6:=by omega
  exact fin H cE
 |succ t ih =>
  intro i H bX ak cE ag;by_cases dx:i<6
  ·have hlen:nz.length=6:=rfl;have aT:=aec ⟨i,dx⟩;simp only at aT
   have mM:cj (b5.D env) 5 ⟨q,0,0+Int.toNat (i:Int),0,1⟩ ⟨H.next+4,H.aJ⟩=some (.int .u8 ((nz[i]'(by omega)).toNat:Nat)):=by rw [Int.toNat_natCast];exact aeb (h:=⟨H.next+4,H.aJ⟩) ag (by omega)
   have b1:(hi ((nz[i]'(by omega)).toNat:Int) != k)=true:=by unfold mB at ap;simp only [bne_iff_ne,ne_eq];omega
   obtain⟨e,aW,p,bb,rfl,rfl,rfl⟩:=Qo H B q i (nz[i]'(by omega)).toNat k m (fun e aW p=>e=.normal∧aW=Cv k m q (i+1)∧p=⟨H.next+10,H.aJ⟩)
    (bq cE ⟨fun _=>bq (by omega) ⟨⟨by omega,by omega⟩,mM,bq (by omega) ⟨by rw [b1],bq (by omega) ⟨⟨by omega,by omega⟩,rfl,by rw [show((i:Int)+1)=((i+1:Nat):Int)by omega],rfl⟩⟩⟩,fun h=>absurd h (by omega)⟩)
   obtain⟨n,ep,ds⟩:=ih (i+1) ⟨H.next+10,H.aJ⟩ (by omega) (by omega) (by show B≤H.next+10;omega) ag;exact⟨10+n,ep,by rw [←Nat.add_assoc];exact cN.step bb ds⟩
  ·obtain rfl:i=6:=by omega
   exact fin H cE
abbrev vC(k:Int)(m i:Nat):bP:=[(0,.int .i32 k),(1,.int .u8 (m:Nat)),(5,.int .i64 ((m:Int)+1)),(9,.int .i64 (i:Nat))]
theorem aef{B m:Nat}{k:Int}(ap:mB k):∀(t i:Nat)(H:j),25-i≤t→i≤25→B≤H.next →
 ∃n,cN Tryz.prog aw B 111 (cF Tryz.prog 43 1) (vC k m i) H (.exit 3) (vC k m 25) ⟨H.next+n,H.aJ⟩:=by
 intro t
 have fin:∀(H:j),B≤H.next→ ∃n,cN Tryz.prog aw B 111 (cF Tryz.prog 43 1) (vC k m 25) H (.exit 3) (vC k m 25) ⟨H.next+n,H.aJ⟩:=by intro H cE;obtain⟨e,aW,p,bb,rfl,rfl,rfl⟩:=Qq H B 25 k m (fun e aW p=>e=.exit 3∧aW=vC k m 25∧p=⟨H.next+2,H.aJ⟩) (bq cE ⟨fun h=>absurd h (by omega),fun _=>⟨rfl,rfl,rfl⟩⟩);exact⟨2,cN.last (by simp) bb⟩
 induction t with
 |zero =>
  intro i H bX ak cE;obtain rfl:i=25:=by omega
  exact fin H cE
 |succ t ih =>
  intro i H bX ak cE;by_cases dx:i<25
  ·have aT:=aed ⟨i,dx⟩;simp only at aT;have gR:((i:Int)+1)=((i+1:Nat):Int):=by omega
   obtain⟨e,aW,p,bb,rfl,rfl,rfl⟩:=Qq H B i k m (fun e aW p=>e=.normal∧aW=vC k m (i+1)∧p=⟨H.next+13,H.aJ⟩)
    (bq cE ⟨fun _=>bq (by omega) ⟨fun bm=>⟨by
     have:(hO (i:Int) == k)=false:=by unfold mB at ap;rw [beq_eq_false_iff_ne];omega
     rw [this],bq (by omega) ⟨⟨by omega,by omega⟩,rfl,by rw [gR],rfl⟩⟩,fun bm=>bq (by omega) ⟨⟨by omega,by omega⟩,rfl,by rw [gR],rfl⟩⟩,fun h=>absurd (by omega) h⟩)
   obtain⟨n,ds⟩:=ih (i+1) ⟨H.next+13,H.aJ⟩ (by omega) (by omega) (by show B≤H.next+13;omega);exact⟨13+n,by rw [←Nat.add_assoc];exact cN.step bb ds⟩
  ·obtain rfl:i=25:=by omega
   exact fin H cE
theorem aeg(H:j){k:Int}{m:Nat}(ap:mB k)(hm:m≤7):vA 43 H [.int .i32 k,.int .u8 (m:Nat)]:=by
 have fP:∀{a b:Nat}{I:Prop},a≤b→I→_root_.cond (Nat.ble a b) I False:=fun h k=>by rw [Nat.ble_eq.mpr h];exact k
 have vy:∀F,b0 env e7 (H.next+11) (bU F) ⟨H.next+15,H.aJ⟩ (Op.buildSlice 34 6 {toList:=[(0,Operand.const (Value.int .u8 (65))),(1,Operand.const (Value.int .u8 (66))),(2,Operand.const (Value.int .u8 (67))),(3,Operand.const (Value.int .u8 (68))),(4,Operand.const (Value.int .u8 (72))),(5,Operand.const (Value.int .u8 (70)))]})=some (o.slice (some ⟨H.next+11,0,0,0,1⟩) 6 6,(⟨H.next+15,H.aJ⟩:j).set (H.next+11) (R.made (aL nz) 1 true)):=by intro F;kernel_rfl
 have jt:=Cq (H:=H) (y:=H.next+11) (R.made (aL nz) 1 true) 15 (by omega);have jv:∀x,x<H.next→((⟨H.next+15,H.aJ⟩:j).set (H.next+11) (R.made (aL nz) 1 true)).get x=H.get x:=fun x ae=>j.fl _ _ (by omega)
 have kF:((⟨H.next+15,H.aJ⟩:j).set (H.next+11) (R.made (aL nz) 1 true)).next=H.next+15:=rfl
 generalize (⟨H.next+15,H.aJ⟩:j).set (H.next+11) (R.made (aL nz) 1 true)=H1 at vy jt jv kF;obtain⟨n,ep,ds⟩:=aee (B:=H.next) (m:=m) ap 6 0 H1 (by omega) (by omega) (by omega) jt;obtain⟨aO,oa⟩:=aef (B:=H.next) (m:=m) ap 23 2 ⟨H1.next+n+11,H1.aJ⟩ (by omega) (by omega) (by show H.next≤H1.next+n+11;omega);have ai:∀(K:Nat) x,x<H.next→(⟨H1.next+n+11+aO+K,H1.aJ⟩:j).get x=H.get x:=fun K x ae=>jv x ae
 unfold mB at ap;by_cases bm:k<1
 ·obtain⟨v,aa,aC,rfl,rfl⟩:=ac4 H H1 ⟨H1.next+n,H1.aJ⟩ ⟨H1.next+n+11+aO,H1.aJ⟩ (H.next+11) m k ep (fun v aa=>v=.slice none 0 0∧aa=⟨H1.next+n+11+aO+1,H1.aJ⟩)
   (bq (Nat.le_refl _) (bq (by omega) ⟨by omega,by omega,bq (by omega) ⟨by simp;omega,bq (by omega) ⟨vy _,Co rfl jt rfl rfl (by decide),cx.gL ds,bq (by show H.next≤H1.next+n;omega) ⟨fun _=>⟨by simp;omega,bq (by show H.next≤H1.next+n+10;omega) ⟨cx.gL oa,bq (by show H.next≤H1.next+n+11+aO;omega) (fP (by show H.next≤H1.next+n+11+aO+1;omega) ⟨rfl,rfl⟩)⟩⟩,fun _=>bq (by show H.next≤H1.next+n+10;omega) ⟨cx.gL oa,bq (by show H.next≤H1.next+n+11+aO;omega) (fP (by show H.next≤H1.next+n+11+aO+1;omega) ⟨rfl,rfl⟩)⟩⟩⟩⟩⟩))
  exact⟨_,aC,by show H.next≤H1.next+n+11+aO+1;omega,ai 1⟩
 ·obtain⟨v,aa,aC,rfl,rfl⟩:=ac5 H H1 ⟨H1.next+n,H1.aJ⟩ ⟨H1.next+n+11+aO,H1.aJ⟩ (H.next+11) m k ep (fun v aa=>v=.slice none 0 0∧aa=⟨H1.next+n+11+aO+1,H1.aJ⟩)
   (bq (Nat.le_refl _) (bq (by omega) ⟨by omega,by omega,bq (by omega) ⟨by simp;omega,by simp;omega,bq (by omega) ⟨vy _,Co rfl jt rfl rfl (by decide),cx.gL ds,bq (by show H.next≤H1.next+n;omega) ⟨fun _=>⟨fun aeh=>⟨by simp;omega,bq (by show H.next≤H1.next+n+10;omega) ⟨cx.gL oa,bq (by show H.next≤H1.next+n+11+aO;omega) (fP (by show H.next≤H1.next+n+11+aO+1;omega) ⟨rfl,rfl⟩)⟩⟩,fun aeh=>bq (by show H.next≤H1.next+n+10;omega) ⟨cx.gL oa,bq (by show H.next≤H1.next+n+11+aO;omega) (fP (by show H.next≤H1.next+n+11+aO+1;omega) ⟨rfl,rfl⟩)⟩⟩,fun _=>bq (by show H.next≤H1.next+n+10;omega) ⟨cx.gL oa,bq (by show H.next≤H1.next+n+11+aO;omega) (fP (by show H.next≤H1.next+n+11+aO+1;omega) ⟨rfl,rfl⟩)⟩⟩⟩⟩⟩))
  exact⟨_,aC,by show H.next≤H1.next+n+11+aO+1;omega,ai 1⟩
theorem aei(H:j){k m:Nat}(ap:¬mB k)(hm:m≤7):∃b,oi k m=some b∧pC 43 H [.int .i32 (k:Nat),.int .u8 (m:Nat)] b:=by
 have bb:yO k m=true:=by
  unfold mB at ap;by_cases p:k≤14
  ·have:=adJ ⟨k-1,by omega⟩ ⟨m,by omega⟩;simpa [Nat.sub_add_cancel (show 1≤k by omega)]using this
  ·by_cases ad:k<27
   ·have:=adK ⟨k-21,by omega⟩ ⟨m,by omega⟩;simpa [Nat.sub_add_cancel (show 21≤k by omega)]using this
   ·have:=adL ⟨k-27,by omega⟩ ⟨m,by omega⟩;simpa [Nat.sub_add_cancel (show 27≤k by omega)]using this
 unfold yO at bb;rw [aea hm]at bb
 have aej:(oi k m).isSome=true:=by unfold mB at ap;exact ad8 ⟨k,by omega⟩ ⟨m,by omega⟩ (by simp only;omega)
 obtain⟨b,au⟩:=Option.isSome_iff_exists.1 aej;rw [au]at bb
 exact⟨b,au,Qt bb (fun a aT=>by
  simp only [List.mem_cons,List.not_mem_nil,or_false]at aT
  rcases aT with rfl|rfl<;>exact cR.int _ _) H⟩
theorem aek{k m:Nat}(ap:mB k):oi k m=none:=by
 unfold mB at ap;unfold oi;rw [if_neg (by omega)];have p:ty k=none:=by unfold ty;rw [if_neg (by omega),if_neg (by omega),if_neg (by omega)]
 rw [p];simp only;rw [if_neg (by omega)];have ad:r1 k=none:=by unfold r1;rw [if_neg (by omega),if_neg (by omega),if_neg (by omega),if_neg (by omega),if_neg (by omega)]
 rw [ad]
end Go.Proofs.YtddnafghiejcoaaGreatDoor
namespace Go.Proofs.YtddnafghiejcoaaGreatDoor
open Go.cM Go.Keys Go.Shelf
set_option maxRecDepth 1000000
def ael:Ren where
 f:=fun x=>if x=143 then 74 else if x=144 then 45 else if x=217 then 115 else if x=219 then 95 else if x=224 then 117 else if x=225 then 116 else if x=266 then 133 else if x=267 then 118 else if x=314 then 134 else 0
 t:=fun x=>if x=3 then 3 else if x=4 then 4 else if x=5 then 5 else if x=9 then 9 else if x=46 then 108 else if x=51 then 132 else if x=146 then 176 else 0
 g:=fun x=>if x=1 then 2 else 0
theorem aem:Lays.n144 Tryz.prog ael:=by constructor;all_goals first|kernel_rfl|(intro w;kernel_rfl)
theorem QQ:∀(t:Bytes),(hasEnd t=true→0≤Lib.index t ea)∧(hasEnd t=false→Lib.index t ea= -1)
 |[]=>⟨fun h=>by simp [hasEnd]at h,fun _=>by simp [Lib.index,ea]⟩
 |b ::r=>by
  obtain⟨p,ad⟩:=QQ r;rw [hasEnd,Lib.index];cases ac:ea.isPrefixOf (b::r)with
  |true=>exact⟨fun _=>by simp,fun h=>by simp at h⟩
  |false =>
   simp only [Bool.false_or,Bool.false_eq_true,if_false];refine⟨fun h=> ?_,fun h=> ?_⟩
   ·have:=p h;rw [if_neg (by rw [beq_iff_eq];omega)];omega
   ·rw [ad h];rfl
theorem aen(t:Bytes):Lib.contains t ea=hasEnd t:=by
 obtain⟨p,ad⟩:=QQ t;unfold Lib.contains;cases h:hasEnd t with
 |true=>simpa using p h
 |false=>rw [ad h];rfl
theorem aeo(t:Bytes)(bX:t.length≤65536)(H:j):aI Tryz.prog aw 45 [.str t,.str ea] H (.bool (hasEnd t)) H:=by
 intro be br dn fQ al w dF eU cE ed;obtain⟨l⟩:=dF;simp only [bH,aN]at ed;obtain⟨a,fj,rfl,⟨u,rfl,hu⟩,b,t2,rfl,⟨d,rfl,aC⟩,rfl⟩:=ed;refine⟨⟨Tryz.f45,_,by kernel_rfl,rfl⟩,?_⟩;have wG:=fQ.cs cE fun _ ae=>ae
 obtain⟨m,hm⟩:=wG.fR
 have k:=Any.strings_Contains aem u d m w (by
  have:u.size=t.length:=by rw [←hu];rfl
  rw [this];omega) hm
 rw [hu,aC,aen]at k
 exact k.mono fun e bC ⟨he,hw⟩=>by subst hw;exact⟨_,al,he,fk.refl _ _,by simp only [aN],eU,cE,Nat.le_refl _⟩
end Go.Proofs.YtddnafghiejcoaaGreatDoor
namespace Go.Keys
theorem aep{s:bO}(h:Good s)(aS:s.cp≠ .cW):s.aB=[]:=by
 obtain⟨cp,kept,hold,aB⟩:=s;cases cp with
 |ground=>exact h.2.2
 |du=>exact h.2.2
 |dd=>exact h.1
 |sequence=>exact h.2.1
 |single=>exact h.2.1
 |cW=>exact absurd rfl aS
end Go.Keys
namespace Go.Proofs.YtddnafghiejcoaaGreatDoor
open Go.cM Go.Keys
set_option maxRecDepth 1000000
def ha(e:bj)(v:o)(aa:j):Prop :=
 ∃w c,v=.tuple [w,.int .i64 c]∧((∃bw C,dI e=some bw∧c=0∧eS aa C w bw)∨(dI e=none∧c=220∧w=.slice none 0 0))
theorem ha.new{e:bj}{w:o}{H:j}{C k:Nat}{bw:Bytes}(he:dI e=some bw)(g:eS H C w bw):ha e (.tuple [w,.int .i64 0]) ⟨H.next+k,H.aJ⟩:=⟨_,_,rfl,.inl ⟨bw,C,he,rfl,g.cs rfl (by show H.next≤H.next+k;omega)⟩⟩
theorem ha.nil{e:bj}{aa:j}(he:dI e=none):ha e (.tuple [.slice none 0 0,.int .i64 220]) aa:=⟨_,_,rfl,.inr ⟨he,rfl,rfl⟩⟩
abbrev QR:FuncId:=21
def mC(e:bj):Prop:= ∃v aa,aI Tryz.prog aw QR [cm e] (j.of []) v aa∧ha e v aa
theorem aeq(H:j):pC 44 H [.str [],.slice none 0 0] [27,91]:=by
 have fP:∀{a b:Nat}{I:Prop},a≤b→I→_root_.cond (Nat.ble a b) I False:=fun h k=>by rw [Nat.ble_eq.mpr h];exact k
 obtain⟨H1,au,av,g1,kF,jv⟩:=IC H;have g2:=g1.cs (aP:=⟨H1.next+8,H1.aJ⟩) rfl (by show H1.next≤H1.next+8;omega);obtain⟨b,he,ad,bd,bS,bI⟩:=g2.ex;simp only [o.slice.injEq,Option.some.injEq,bG.mk.injEq,true_and,and_true]at he
 have aT:hp env.D 34 (.slice (some ⟨H.next+1,0,0,0,1⟩) 2 2) (.str []) (H1.next+6) ⟨H1.next+8,H1.aJ⟩=some (.slice (some ⟨H.next+1,0,0,0,1⟩) 2 2,⟨H1.next+8,H1.aJ⟩) :=
  (sT tv _).symm.trans (EY (b:=b) tv (by rfl) (by decide) (by decide) (fun a aT=>by cases aT;exact⟨ad,rfl,rfl⟩) (Nat.le_refl _) (fun h=>by cases h))
 obtain⟨w,aa,aC,rfl,rfl⟩:=Qj H H1 ⟨H1.next+8,H1.aJ⟩ (H.next+1) [] (.slice (some ⟨H.next+1,0,0,0,1⟩) 2 2) (fun w aa=>w=.slice (some ⟨H.next+1,0,0,0,1⟩) 2 2∧aa=⟨H1.next+8,H1.aJ⟩)
  (bq (Nat.le_refl _) (bq (by omega) ⟨au _,av _ rfl,bq (by omega) (bq (by omega) (bq (by omega) ⟨(yI _ _ _ _).trans aT,fP (by show H.next≤H1.next+8;omega) ⟨rfl,rfl⟩⟩))⟩))
 exact⟨_,_,H.next+1,aC,g2,by omega,jv⟩
theorem Cw(H:j){t:Bytes}(bX:t.length≤62):pC 44 H [.str t,.slice none 0 0] (27::91::t):=by
 by_cases h:t=[]
 ·subst h;exact aeq H
 ·exact acX H h (by omega)
theorem aer{e:bj}(ap:e.kind≠3)(hm:7<e.dW):dI e=none:=by unfold dI;rw [if_neg ap,if_pos hm]
theorem aes{e:bj}(ap:e.kind≠3)(hm:7<e.dW):mC e:=by obtain⟨v,aa,aC,rfl,_⟩:=ac8 e.kind e.code e.dW e.x e.y e.text (fun v aa=>v=.tuple [.slice none 0 0,.int .i64 220]∧True) ⟨by simp [ap],by simp;omega,rfl,trivial⟩;exact⟨_,_,aC,ha.nil (aer ap hm)⟩
theorem pD{m:Int}(h:¬7<m):some (o.bool (decide (m>7)))=some (o.bool false):=by simp;omega
theorem aet{c m:Int}(bm:0≤m)(hm:¬7<m):mC ⟨1,c,m,0,0,[]⟩:=by
 by_cases an:shown c=true
 ·have av:=(yE an).2.2.2;have l5:((m.toNat:Nat):Int)=m:=Int.toNat_of_nonneg bm;have he:dI ⟨1,c,m,0,0,[]⟩=some (kI c.toNat m.toNat):=by unfold dI;rw [if_neg (by simp),if_neg hm,if_pos ⟨rfl,rfl,an⟩]
  obtain⟨w,H,C,az,g,_,_⟩:=adO (j.ar 39 [(0,R.made [c3 1 c m 0 0 []] 6 true (some (42,6))),(4,R.made [c3 1 0 0 0 0 []] 6 true (some (42,6)))]) (r:=c.toNat) (m:=m.toNat) (by rw [av];exact an) (by omega);rw [av,l5]at az;obtain⟨b,rfl,_⟩:=g.ex;have hW:=Fa c (j.ar 33 [(0,R.made [c3 1 c m 0 0 []] 6 true (some (42,6))),(4,R.made [c3 1 0 0 0 0 []] 6 true (some (42,6)))]);rw [an]at hW;obtain⟨v,aa,aC,rfl,rfl⟩:=ac9 H c m ⟨C,b.J,0,0,1⟩ (kI c.toNat m.toNat).length (fun v aa=>v=.tuple [.slice (some ⟨C,b.J,0,0,1⟩) (kI c.toNat m.toNat).length (kI c.toNat m.toNat).length,.int .i64 0]∧aa=⟨H.next+5,H.aJ⟩) ⟨pD hm,⟨hW⟩,⟨az⟩,rfl,rfl⟩;exact⟨_,_,aC,ha.new he g⟩
 ·have he:dI ⟨1,c,m,0,0,[]⟩=none:=by unfold dI;rw [if_neg (by simp),if_neg hm,if_neg (fun q=>an q.2.2),if_neg (fun q=>absurd q.1 (by simp)),if_neg (by simp),if_neg (by simp),if_neg (fun q=>absurd q.1 (by simp)),if_neg (fun q=>absurd q.1 (by simp))]
  have hW:=Fa c (j.ar 33 [(0,R.made [c3 1 c m 0 0 []] 6 true (some (42,6))),(4,R.made [c3 1 0 0 0 0 []] 6 true (some (42,6)))]);rw [Bool.eq_false_iff.2 an]at hW;obtain⟨v,aa,aC,rfl,_⟩:=ada c m (fun v aa=>v=.tuple [.slice none 0 0,.int .i64 220]∧True) ⟨pD hm,⟨hW⟩,rfl,trivial⟩;exact⟨_,_,aC,ha.nil he⟩
theorem aeu{c m x y:Int}{t:Bytes}(hm:¬7<m)(ac:¬(x=0∧y=0∧t=[])):mC ⟨1,c,m,x,y,t⟩:=by
 have he:dI ⟨1,c,m,x,y,t⟩=none:=by unfold dI;rw [if_neg (by simp),if_neg hm,if_neg (fun q=>ac (by have:=q.2.1;simp only [vv,Bool.and_eq_true,decide_eq_true_eq]at this;exact⟨this.1.1,this.1.2,this.2⟩)),if_neg (fun q=>absurd q.1 (by simp)),if_neg (by simp),if_neg (by simp),if_neg (fun q=>absurd q.1 (by simp)),if_neg (fun q=>absurd q.1 (by simp))]
 obtain⟨v,aa,aC,rfl,_⟩:=ac' c m x y t (fun v aa=>v=.tuple [.slice none 0 0,.int .i64 220]∧True) ⟨pD hm,by simpa using ac,rfl,trivial⟩;exact⟨_,_,aC,ha.nil he⟩
theorem QS{c m:Int}(hm:¬7<m):dI ⟨2,c,m,0,0,[]⟩=if 0≤c then oi c.toNat m.toNat else none:=by unfold dI;rw [if_neg (by simp),if_neg hm,if_neg (fun q=>absurd q.1 (by simp)),if_pos ⟨rfl,rfl⟩]
theorem aev{c m:Int}(bm:0≤m)(hm:¬7<m):mC ⟨2,c,m,0,0,[]⟩:=by
 have l5:((m.toNat:Nat):Int)=m:=Int.toNat_of_nonneg bm;by_cases ap:mB c
 ·have he:dI ⟨2,c,m,0,0,[]⟩=none:=by
   rw [QS hm];split
   ·rename_i lX;exact aek (by rw [Int.toNat_of_nonneg lX];exact ap)
   ·rfl
  obtain⟨H,az,_,_⟩:=aeg (j.ar 48 [(0,R.made [c3 2 c m 0 0 []] 6 true (some (42,6))),(4,R.made [c3 2 0 0 0 0 []] 6 true (some (42,6)))]) (m:=m.toNat) ap (by omega);rw [l5]at az;obtain⟨v,aa,aC,rfl,_⟩:=ade H c m (fun v aa=>v=.tuple [.slice none 0 0,.int .i64 220]∧True) ⟨pD hm,⟨az⟩,rfl,trivial⟩;exact⟨_,_,aC,ha.nil he⟩
 ·have lX:0≤c:=by unfold mB at ap;omega
  have av:((c.toNat:Nat):Int)=c:=Int.toNat_of_nonneg lX;obtain⟨bw,au,w,H,C,az,g,_,_⟩:=aei (j.ar 48 [(0,R.made [c3 2 c m 0 0 []] 6 true (some (42,6))),(4,R.made [c3 2 0 0 0 0 []] 6 true (some (42,6)))]) (k:=c.toNat) (m:=m.toNat) (by rw [av];exact ap) (by omega);rw [av,l5]at az;have he:dI ⟨2,c,m,0,0,[]⟩=some bw:=by rw [QS hm,if_pos lX,au]
  obtain⟨b,rfl,_⟩:=g.ex;obtain⟨v,aa,aC,rfl,rfl⟩:=adb H c m ⟨C,b.J,0,0,1⟩ bw.length (fun v aa=>v=.tuple [.slice (some ⟨C,b.J,0,0,1⟩) bw.length bw.length,.int .i64 0]∧aa=⟨H.next+5,H.aJ⟩) ⟨pD hm,⟨az⟩,rfl,rfl⟩;exact⟨_,_,aC,ha.new he g⟩
theorem aew{c m x y:Int}{t:Bytes}(hm:¬7<m)(ac:¬(x=0∧y=0∧t=[])):mC ⟨2,c,m,x,y,t⟩:=by
 have he:dI ⟨2,c,m,x,y,t⟩=none:=by unfold dI;rw [if_neg (by simp),if_neg hm,if_neg (fun q=>absurd q.1 (by simp)),if_neg (fun q=>ac (by have:=q.2;simp only [vv,Bool.and_eq_true,decide_eq_true_eq]at this;exact⟨this.1.1,this.1.2,this.2⟩)),if_neg (by simp),if_neg (by simp),if_neg (fun q=>absurd q.1 (by simp)),if_neg (fun q=>absurd q.1 (by simp))]
 obtain⟨v,aa,aC,rfl,_⟩:=adf c m x y t (fun v aa=>v=.tuple [.slice none 0 0,.int .i64 220]∧True) ⟨pD hm,by simpa using ac,rfl,trivial⟩;exact⟨_,_,aC,ha.nil he⟩
theorem aex{c m x y:Int}{t:Bytes}(hm:¬7<m):mC ⟨5,c,m,x,y,t⟩:=by
 by_cases aT:(⟨5,c,m,x,y,t⟩:bj)=⟨5,0,0,0,0,[]⟩
 ·rw [aT];obtain⟨w,H,C,az,g,_,_⟩:=Cw (j.ar 48 [(0,R.made [c3 5 0 0 0 0 []] 6 true (some (42,6))),(4,R.made [c3 5 0 0 0 0 []] 6 true (some (42,6)))]) (t:=[79]) (by decide);obtain⟨b,rfl,_⟩:=g.ex;obtain⟨v,aa,aC,rfl,rfl⟩:=adg H ⟨C,b.J,0,0,1⟩ _ (fun v aa=>v=.tuple [.slice (some ⟨C,b.J,0,0,1⟩) _ _,.int .i64 0]∧aa=⟨H.next+5,H.aJ⟩) ⟨⟨az⟩,rfl,rfl⟩;exact⟨_,_,aC,ha.new (bw:=27::91:: [79]) (by rfl) g⟩
 ·by_cases au:(⟨5,c,m,x,y,t⟩:bj)=⟨5,1,0,0,0,[]⟩
  ·rw [au];obtain⟨w,H,C,az,g,_,_⟩:=Cw (j.ar 52 [(0,R.made [c3 5 1 0 0 0 []] 6 true (some (42,6))),(4,R.made [c3 5 0 0 0 0 []] 6 true (some (42,6)))]) (t:=[73]) (by decide);obtain⟨b,rfl,_⟩:=g.ex;obtain⟨v,aa,aC,rfl,rfl⟩:=adh H ⟨C,b.J,0,0,1⟩ _ (fun v aa=>v=.tuple [.slice (some ⟨C,b.J,0,0,1⟩) _ _,.int .i64 0]∧aa=⟨H.next+5,H.aJ⟩) ⟨⟨az⟩,rfl,rfl⟩;exact⟨_,_,aC,ha.new (bw:=27::91:: [73]) (by rfl) g⟩
  ·have he:dI ⟨5,c,m,x,y,t⟩=none:=by unfold dI;rw [if_neg (by simp),if_neg hm,if_neg (fun q=>absurd q.1 (by simp)),if_neg (fun q=>absurd q.1 (by simp)),if_neg aT,if_neg au,if_neg (fun q=>absurd q.1 (by simp)),if_neg (fun q=>absurd q.1 (by simp))]
   obtain⟨v,aa,aC,rfl,_⟩:=adi c m x y t (fun v aa=>v=.tuple [.slice none 0 0,.int .i64 220]∧True) ⟨pD hm,by simpa using aT,by simpa using au,rfl,trivial⟩;exact⟨_,_,aC,ha.nil he⟩
theorem aey{k c m x y:Int}{t:Bytes}(bd:k≠3)(p:k≠1)(ad:k≠2)(bI:k≠5)(bS:k≠4)(dx:k≠6)(hm:¬7<m):mC ⟨k,c,m,x,y,t⟩:=by
 have he:dI ⟨k,c,m,x,y,t⟩=none:=by unfold dI;rw [if_neg bd,if_neg hm,if_neg (fun q=>p q.1),if_neg (fun q=>ad q.1),if_neg (fun q=>bI (congrArg bj.kind q)),if_neg (fun q=>bI (congrArg bj.kind q)),if_neg (fun q=>bS (congrArg bj.kind q.1)),if_neg (fun q=>dx (congrArg bj.kind q.1))]
 obtain⟨v,aa,aC,rfl,_⟩:=adt k c m x y t (fun v aa=>v=.tuple [.slice none 0 0,.int .i64 220]∧True) ⟨by simp [bd],pD hm,by simp [p],by simp [ad],by simp [bI],by simp [bI],by simp [bS],by simp [dx],rfl,trivial⟩;exact⟨_,_,aC,ha.nil he⟩
abbrev kf(e:o):R:=R.made [e] 6 true (some (42,6))
theorem aez{h:j}{x:Nat}{k c m y z:Int}{t:Bytes}(e:h.get x=some (kf (c3 k c m y z t))):cj (b5.D env) 42 ⟨x,0,0,0,6⟩ h=some (c3 k c m y z t):=by
 have b':(b5.D env 42).map (fun d=>(d.kind.isAgg,d.size))=some (true,6):=by kernel_rfl
 obtain⟨x,p,ad⟩:=Option.map_eq_some_iff.1 b';simp only [Prod.mk.injEq]at ad;unfold cj;rw [p,e];simp [R.elem?,R.cO,iD,ad.1,ad.2,R.made]
theorem IW{h:j}{x:Nat}{k c m y z:Int}{t:Bytes}(e:h.get x=some (kf (c3 k c m y z t))):cj (b5.D env) 9 ⟨x,0,0,5,6⟩ h=some (.str t):=by
 have b':(b5.D env 9).map (fun d=>d.kind.isAgg)=some false:=by kernel_rfl
 obtain⟨x,p,ad⟩:=Option.map_eq_some_iff.1 b';unfold cj;rw [p,e];simp [R.elem?,R.cO,iD,ad,R.made]
abbrev Cx:R:=R.made [o.agg [o.int .i64 0,o.int .i64 1,o.int .i64 2,o.int .i64 0,o.int .i64 64,o.int .i64 65,o.int .i64 35]] 7 true (some (106,7))
theorem aeA:∀c:Fin 7,oD (b5.D env) 106 (o.agg [o.int .i64 0,o.int .i64 1,o.int .i64 2,o.int .i64 0,o.int .i64 64,o.int .i64 65,o.int .i64 35]) (o.int .i32 (c.val:Nat))=some (o.int .i64 (gG c.val:Nat)):=by
 intro c;rcases c with ⟨c,av⟩
 rcases (show c=0∨c=1∨c=2∨c=3∨c=4∨c=5∨c=6 by omega)with rfl|rfl|rfl|rfl|rfl|rfl|rfl<;>kernel_rfl
theorem aeB:∀c:Fin 7,∀m:Fin 8,cg .i64 (gG c.val:Nat) (e8 .i64 (m.val:Nat) 2)=((gG c.val+4*m.val:Nat):Int):=by decide+kernel
theorem QT{H H1:j}{C eh n:Nat}{bw:Bytes}(g:eS H C (.slice (some ⟨C,eh,0,0,1⟩) n n) bw)(ad:2<bw.length)(az:bw.length<2^30):∃H1 aH v bl,(∀F,b0 env e7 (H.next+0) (bU F) ⟨H.next+6,H.aJ⟩ (Op.buildSlice 34 3 {toList:=[(0,Operand.const (Value.int .u8 (27))),(1,Operand.const (Value.int .u8 (91))),(2,Operand.const (Value.int .u8 (60)))]})=some (o.slice (some ⟨H.next,0,0,0,1⟩) 3 3,H1)) ∧
 (∀F,bU F (.tmp 64)=o.slice (some ⟨H.next,0,0,0,1⟩) 3 3→eO env (H.next+1) (bU F) H1 (Op.convert 34 34 (Operand.tmp 64))=some (o.slice (some ⟨H.next,0,0,0,1⟩) 3 3,H1)) ∧
 fZ env Builtin.append {toList:=[34,34]} [o.slice (some ⟨H.next,0,0,0,1⟩) 3 3,o.slice (some ⟨C,eh,2,0,1⟩) (n-2) (n-2)] (H.next+4) H1=some (v,aH)∧eS aH bl v (27::91::60::bw.drop 2):=by
 have jt:=Cq (H:=H) (y:=H.next) (R.made (aL [27,91,60]) 1 true) 6 (by omega);have kF:((⟨H.next+6,H.aJ⟩:j).set H.next (R.made (aL [27,91,60]) 1 true)).next=H.next+6:=rfl
 have Cm:=g.lt;have g1:eS ((⟨H.next+6,H.aJ⟩:j).set H.next (R.made (aL [27,91,60]) 1 true)) C (.slice (some ⟨C,eh,0,0,1⟩) n n) bw:=g.cs (j.fl _ _ (by omega)) (by omega);have kt:eS ((⟨H.next+6,H.aJ⟩:j).set H.next (R.made (aL [27,91,60]) 1 true)) H.next (.slice (some ⟨H.next,0,0,0,1⟩) 3 3) [27,91,60]:=eS.made (bw:=[27,91,60]) jt (by omega) (fun h=>by cases h)
 obtain⟨v,aH,bl,aT,g2,_,_,_⟩:=kt.gJ (bh:=H.next+4) (g1.drop (k:=2) (by omega)) (by
  intro h;have:=congrArg List.length h
  rw [List.length_drop,List.length_nil]at this;omega) (by rw [List.length_drop];simp only [List.length_cons,List.length_nil];omega) (by omega)
 exact⟨_,aH,v,bl,(fun F=>by kernel_rfl),fun F a8=>Co a8 jt rfl rfl (by decide),(Cl _ _ _ _).trans aT,g2⟩
theorem QU{H:j}{q b x y:Nat}{e:Bytes}(he:e≠[])(fu:e.length=1)(ag:H.get q=some (r2 [b,x,y]))(aD:q<H.next)(au:b<10000000)(ae:x<10000000)(bY:y<10000000):pC 44 H [.str e,.slice (some ⟨q,0,0,0,1⟩) 3 3] (gx e [b,x,y]) :=
 ID (l:=[b,x,y]) ag aD (by simp) (by intro n aS;simp only [List.mem_cons,List.not_mem_nil,or_false]at aS;rcases aS with rfl|rfl|rfl<;>omega) he (by omega)
theorem QV:Int.NonNeg (2-0):=(show(0:Int)≤2 by decide)
theorem QW{n i k:Nat}{h aa:j}{b:R}(e:aa=(⟨h.next+k,h.aJ⟩:j).set i b)(ak:n≤i):qM n h aa=true:=by subst e;exact Kn fun x ae=>by rw [j.fl _ _ (by omega)];rfl
theorem aeC(H:j){c m x y:Nat}(av:c≤6)(hm:m≤7)(ae:x<4096)(bY:y<4096):pC 40 H [c3 3 c m x y []] (oj c m x y):=by
 have ak:=aeA ⟨c,by omega⟩;have ai:=aeB ⟨c,by omega⟩ ⟨m,by omega⟩;simp only at ak ai;have uC:gG c+4*m<1000:=(QC ⟨c,by omega⟩ ⟨m,by omega⟩).2.2
 have tC:∀e:UInt8,(gx [e] [gG c+4*m,x+1,y+1]).length<2^30∧2<(gx [e] [gG c+4*m,x+1,y+1]).length:=by intro e;have:=Cn [gG c+4*m,x+1,y+1] (by intro n aS;simp only [List.mem_cons,List.not_mem_nil,or_false]at aS;rcases aS with rfl|rfl|rfl<;>omega);unfold gx;simp only [List.length_cons,List.length_append,List.length_nil]at this⊢;omega
 have gH:∀a∈ [c3 (3:Int) c m x y []],cR a:=fun a aT=>by rw [List.mem_singleton.1 aT];exact cR.of rfl
 by_cases bd:c=3
 ·obtain⟨w,K,C,az,g,_,hold⟩:=QU (H:=j.ar 67 [(0,kf (c3 3 c m x y [])),(61,R.made [o.int .i64 ((gG c+4*m:Nat):Int),o.int .i64 ((x:Int)+1),o.int .i64 ((y:Int)+1)] 1 true),(64,Cx)]) (q:=61) (b:=gG c+4*m) (x:=x+1) (y:=y+1) (e:=[109]) (by simp) rfl (by rfl) (by show(61:Nat)<67;decide) (by omega) (by omega) (by omega);obtain⟨b,rfl,_⟩:=g.ex;obtain⟨H1,aH,v,bl,hL,l4,aT,g2⟩:=QT g (tC 109).2 (tC 109).1 (H1:=K)
  obtain⟨bt,aa,aC,rfl,rfl⟩:=adD K H1 aH c m x y (gG c) C b.J (gx [109] [gG c+4*m,x+1,y+1]).length K.next v (fun bt aa=>bt=v∧aa=aH)
   ⟨rfl,by simp;omega,by simp;omega,rfl,by simp;omega,rfl,by simp;omega,rfl,by simp [bd],QW (n:=64) (i:=64) (k:=3) (b:=Cx) (by kernel_rfl) (by omega),ak,by omega,QV,trivial,by omega,by omega,by rw [ai];exact⟨az⟩,hL _,l4 _ rfl,⟨by omega,by have:=(tC 109).2;omega,Nat.le_refl _⟩,aT,rfl,rfl⟩
  have e:oj c m x y=27::91::60::(gx [109] [gG c+4*m,x+1,y+1]).drop 2:=by unfold oj gx;rw [if_pos bd];rfl
  rw [e];exact pC.of aC g2 gH H
 ·obtain⟨w,K,C,az,g,_,hold⟩:=QU (H:=j.ar 66 [(0,kf (c3 3 c m x y [])),(60,R.made [o.int .i64 ((gG c+4*m:Nat):Int),o.int .i64 ((x:Int)+1),o.int .i64 ((y:Int)+1)] 1 true),(63,Cx)]) (q:=60) (b:=gG c+4*m) (x:=x+1) (y:=y+1) (e:=[77]) (by simp) rfl (by rfl) (by show(60:Nat)<66;decide) (by omega) (by omega) (by omega);obtain⟨b,rfl,_⟩:=g.ex;obtain⟨H1,aH,v,bl,hL,l4,aT,g2⟩:=QT g (tC 77).2 (tC 77).1 (H1:=K)
  obtain⟨bt,aa,aC,rfl,rfl⟩:=adC K H1 aH c m x y (gG c) C b.J (gx [77] [gG c+4*m,x+1,y+1]).length K.next v (fun bt aa=>bt=v∧aa=aH)
   ⟨rfl,by simp;omega,by simp;omega,rfl,by simp;omega,rfl,by simp;omega,rfl,by simp;omega,QW (n:=63) (i:=63) (k:=3) (b:=Cx) (by kernel_rfl) (by omega),ak,by omega,QV,trivial,by omega,by omega,by rw [ai];exact⟨az⟩,hL _,l4 _ rfl,⟨by omega,by have:=(tC 77).2;omega,Nat.le_refl _⟩,aT,rfl,rfl⟩
  have e:oj c m x y=27::91::60::(gx [77] [gG c+4*m,x+1,y+1]).drop 2:=by unfold oj gx;rw [if_neg bd];rfl
  rw [e];exact pC.of aC g2 gH H
theorem QX(c m x y:Int)(t:Bytes):dI ⟨3,c,m,x,y,t⟩=if tz ⟨3,c,m,x,y,t⟩=true then some (oj c.toNat m.toNat x.toNat y.toNat)else none:=by unfold dI;rw [if_pos rfl]
theorem aeD{c m x y:Int}{t:Bytes}(h:tz ⟨3,c,m,x,y,t⟩≠true)(H:j):vA 40 H [c3 3 c m x y t]:=by
 have fin:(∃v aa,aI Tryz.prog aw 40 [c3 3 c m x y t] ⟨0,.nil⟩ v aa∧v=.slice none 0 0)→vA 40 H [c3 3 c m x y t]:=by rintro ⟨v,aa,aC,rfl⟩;exact vA.of aC (fun a aT=>by rw [List.mem_singleton.1 aT];exact cR.of rfl) H
 apply fin;by_cases p:c<0
 ·exact adu c m x y t (fun v _=>v=.slice none 0 0) ⟨by simp [p],rfl⟩
 by_cases ad:c>6
 ·exact adv c m x y t (fun v _=>v=.slice none 0 0) ⟨by simp;omega,by simp [ad],rfl⟩
 by_cases bd:m>7
 ·exact adw c m x y t (fun v _=>v=.slice none 0 0) ⟨by simp;omega,by simp;omega,by simp [bd],rfl⟩
 by_cases bS:x<0
 ·exact adx c m x y t (fun v _=>v=.slice none 0 0) ⟨by simp;omega,by simp;omega,by simp;omega,by simp [bS],rfl⟩
 by_cases bI:x≥4096
 ·exact ady c m x y t (fun v _=>v=.slice none 0 0) ⟨by simp;omega,by simp;omega,by simp;omega,by simp;omega,by simp [bI],rfl⟩
 by_cases dx:y<0
 ·exact adz c m x y t (fun v _=>v=.slice none 0 0) ⟨by simp;omega,by simp;omega,by simp;omega,by simp;omega,by simp;omega,by simp [dx],rfl⟩
 by_cases cP:y≥4096
 ·exact adA c m x y t (fun v _=>v=.slice none 0 0) ⟨by simp;omega,by simp;omega,by simp;omega,by simp;omega,by simp;omega,by simp;omega,by simp [cP],rfl⟩
 have cy:t≠[]:=by intro bX;apply h;simp only [tz,Bool.and_eq_true,decide_eq_true_eq];exact⟨⟨⟨⟨⟨⟨⟨by omega,by omega⟩,by omega⟩,by omega⟩,by omega⟩,by omega⟩,by omega⟩,bX⟩
 exact adB c m x y t (fun v _=>v=.slice none 0 0) ⟨by simp;omega,by simp;omega,by simp;omega,by simp;omega,by simp;omega,by simp;omega,by simp;omega,by simp [cy],rfl⟩
theorem aeE{c m x y:Int}{t:Bytes}(bm:0≤m):mC ⟨3,c,m,x,y,t⟩:=by
 by_cases ap:tz ⟨3,c,m,x,y,t⟩=true
 ·have he:=QX c m x y t;rw [if_pos ap]at he;simp only [tz,Bool.and_eq_true,decide_eq_true_eq]at ap;obtain⟨⟨⟨⟨⟨⟨⟨lX,lr⟩,m7⟩,jg⟩,kt⟩,IV⟩,pR⟩,rfl⟩:=ap;obtain⟨w,H,C,az,g,_,_⟩:=aeC (j.ar 18 [(0,kf (c3 3 c m x y [])),(4,kf (c3 3 0 0 x y []))]) (c:=c.toNat) (m:=m.toNat) (x:=x.toNat) (y:=y.toNat) (by omega) (by omega) (by omega) (by omega);rw [Int.toNat_of_nonneg lX,Int.toNat_of_nonneg bm,Int.toNat_of_nonneg jg,Int.toNat_of_nonneg IV]at az;obtain⟨b,rfl,_⟩:=g.ex;obtain⟨v,aa,aC,rfl,rfl⟩:=ac6 H c m x y [] ⟨C,b.J,0,0,1⟩ (oj c.toNat m.toNat x.toNat y.toNat).length (fun v aa=>v=.tuple [.slice (some ⟨C,b.J,0,0,1⟩) (oj c.toNat m.toNat x.toNat y.toNat).length (oj c.toNat m.toNat x.toNat y.toNat).length,.int .i64 0]∧aa=⟨H.next+5,H.aJ⟩) ⟨⟨az⟩,rfl,rfl⟩;exact⟨_,_,aC,ha.new he g⟩
 ·have he:=QX c m x y t;rw [if_neg ap]at he;obtain⟨H,az,_,_⟩:=aeD ap (j.ar 18 [(0,kf (c3 3 c m x y t)),(4,kf (c3 3 0 0 x y t))]);obtain⟨v,aa,aC,rfl,_⟩:=ac7 H c m x y t (fun v aa=>v=.tuple [.slice none 0 0,.int .i64 220]∧True) ⟨⟨az⟩,rfl,trivial⟩;exact⟨_,_,aC,ha.nil he⟩
theorem IX(t:Bytes):dI ⟨4,0,0,0,0,t⟩=if t.length≤65536∧hasEnd t=false then some (ol++(t++ea))else none:=by
 unfold dI;rw [if_neg (by simp),if_neg (by simp),if_neg (fun q=>absurd q.1 (by simp)),if_neg (fun q=>absurd q.1 (by simp)),if_neg (by simp),if_neg (by simp)];by_cases h:t.length≤65536∧hasEnd t=false
 ·rw [if_pos ⟨rfl,h⟩,if_pos h]
 ·rw [if_neg (fun q=>h q.2),if_neg h,if_neg (fun q=>absurd q.1 (by simp))]
theorem aeF{c m x y:Int}{t:Bytes}(hm:¬7<m)(h:¬(c=0∧m=0∧x=0∧y=0)):mC ⟨4,c,m,x,y,t⟩:=by
 have he:dI ⟨4,c,m,x,y,t⟩=none:=by unfold dI;rw [if_neg (by simp),if_neg hm,if_neg (fun q=>absurd q.1 (by simp)),if_neg (fun q=>absurd q.1 (by simp)),if_neg (by simp),if_neg (by simp),if_neg (fun q=>h (by simpa using q.1)),if_neg (fun q=>absurd q.1 (by simp))]
 obtain⟨v,aa,aC,rfl,_⟩:=adk c m x y t (fun v aa=>v=.tuple [.slice none 0 0,.int .i64 220]∧True) ⟨pD hm,by simpa using h,rfl,trivial⟩;exact⟨_,_,aC,ha.nil he⟩
theorem aeG(t:Bytes):mC ⟨4,0,0,0,0,t⟩:=by
 by_cases az:t.length≤65536
 ·have Cy:=aeo t az (j.ar 68 [(0,kf (c3 4 0 0 0 0 t)),(4,kf (c3 4 0 0 0 0 t))]);cases bW:hasEnd t with
  |true =>
   have he:dI ⟨4,0,0,0,0,t⟩=none:=by rw [IX,if_neg (fun q=>by rw [bW]at q;exact absurd q.2 (by simp))]
   rw [bW]at Cy;obtain⟨v,aa,aC,rfl,_⟩:=adm t (fun v aa=>v=.tuple [.slice none 0 0,.int .i64 220]∧True) ⟨by simp,by simp;omega,⟨Cy⟩,rfl,trivial⟩;exact⟨_,_,aC,ha.nil he⟩
  |false =>
   have he:dI ⟨4,0,0,0,0,t⟩=some (ol++(t++ea)):=by rw [IX,if_pos ⟨az,bW⟩]
   rw [bW]at Cy;obtain⟨w,H,C,en,g,aV,ai⟩:=ID (H:=j.ar 75 [(0,kf (c3 4 0 0 0 0 t)),(4,kf (c3 4 0 0 0 0 t)),(68,r2 [200])]) (q:=68) (c:=1) (l:=[200]) (e:=[126]) rfl (by show(68:Nat)<75;decide) (by simp) (by simp) (by simp) (by simp);have aV:75≤C:=aV;have Cm:=g.lt
   have aeH:gx [126] [200]=ol:=by unfold gx eu;rw [tA (by decide),tA (by decide),tB (by decide)];rfl
   rw [aeH]at g;have bm:H.get 0=some (kf (c3 4 0 0 0 0 t)):=ai 0 (by show(0:Nat)<75;decide);obtain⟨b,rfl,_⟩:=g.ex;obtain⟨v2,H1,bl,aT,g2,_,_,_⟩:=g.gJ (bh:=73) (x:= .str (t++ea)) (new:=t++ea) (by rfl) (by simp [ea]) (by simp [ol,ea];omega) (by omega);obtain⟨bT,rfl,_⟩:=g2.ex
   obtain⟨v,aa,aC,rfl,rfl⟩:=adj H H1 t ⟨C,b.J,0,0,1⟩ ⟨bl,bT.J,0,0,1⟩ ol.length (ol++(t++ea)).length (fun v aa=>v=.tuple [.slice (some ⟨bl,bT.J,0,0,1⟩) (ol++(t++ea)).length (ol++(t++ea)).length,.int .i64 0]∧aa=⟨H1.next+5,H1.aJ⟩)
    ⟨by simp,by simp;omega,⟨Cy⟩,⟨en⟩,Kn (fun i ak=>ai i ak),IW bm,by show Nat.le (Nat.succ (t.length+6)) (2^62);show t.length+6+1≤2^62;omega,(yI _ _ _ _).trans aT,.inr (by exact aV),rfl,rfl⟩
   exact⟨_,_,aC,ha.new he g2⟩
 ·have he:dI ⟨4,0,0,0,0,t⟩=none:=by rw [IX,if_neg (fun q=>az q.1)]
  obtain⟨v,aa,aC,rfl,_⟩:=adl t (fun v aa=>v=.tuple [.slice none 0 0,.int .i64 220]∧True) ⟨by simp,by simp;omega,rfl,trivial⟩;exact⟨_,_,aC,ha.nil he⟩
theorem QY(t:Bytes):dI ⟨6,0,0,0,0,t⟩=if t.length≤62 then(if(dh zero (27::91::t)).2=[⟨6,0,0,0,0,t⟩]∧held (dh zero (27::91::t)).1=0 then some (27::91::t)else none)else none:=by
 unfold dI;rw [if_neg (by simp),if_neg (by simp),if_neg (fun q=>absurd q.1 (by simp)),if_neg (fun q=>absurd q.1 (by simp)),if_neg (by simp),if_neg (by simp),if_neg (fun q=>absurd q.1 (by simp))];by_cases h:t.length≤62
 ·rw [if_pos ⟨rfl,h⟩,if_pos h]
 ·rw [if_neg (fun q=>h q.2),if_neg h]
theorem aeI{c m x y:Int}{t:Bytes}(hm:¬7<m)(h:¬(c=0∧m=0∧x=0∧y=0)):mC ⟨6,c,m,x,y,t⟩:=by
 have he:dI ⟨6,c,m,x,y,t⟩=none:=by unfold dI;rw [if_neg (by simp),if_neg hm,if_neg (fun q=>absurd q.1 (by simp)),if_neg (fun q=>absurd q.1 (by simp)),if_neg (by simp),if_neg (by simp),if_neg (fun q=>absurd q.1 (by simp)),if_neg (fun q=>h (by simpa using q.1))]
 obtain⟨v,aa,aC,rfl,_⟩:=adr c m x y t (fun v aa=>v=.tuple [.slice none 0 0,.int .i64 220]∧True) ⟨pD hm,by simpa using h,rfl,trivial⟩;exact⟨_,_,aC,ha.nil he⟩
theorem fq.made{K vD:j}(aS:K.next≤vD.next)(ai:∀x,x<K.next→vD.get x=K.get x)(c:Nat→Nat)(k:Nat):fq K vD c (fun x=>if x<K.next then c x else k) []:=⟨aS,fun x ae _=>ai x ae,fun x ae _=>if_pos ae⟩
theorem eS.hn{H:j}{C:Nat}{v:o}{bw:Bytes}{ch:Nat→Nat}{c:Nat}(g:eS H C v bw)(av:ch C=c):∃J,v=.slice (some ⟨C,J,0,0,1⟩) bw.length bw.length∧Ii H ch c (some ⟨C,J,0,0,1⟩) bw:=by obtain⟨b,rfl,ad,bd,bS,bI⟩:=g.ex;refine⟨b.J,rfl,⟨.inr ⟨C,b.J,0,rfl,⟨b,ad,fun i ak=> ?_⟩,g.lt,av⟩⟩⟩;simp [R.elem?,R.cO,bS,aL,ak]
theorem aeJ{s:bO}(h:Keys.Good s):s.kept.length<2^40∧s.aB.length<2^40:=by
 have ap:=ad9 h;refine⟨by omega,?_⟩;by_cases aS:s.cp=.cW
 ·obtain⟨cp,kept,hold,aB⟩:=s;simp only at aS;subst aS;obtain⟨_,_,_,bS⟩:=h;simp only at bS⊢;omega
 ·rw [aep h aS];simp
theorem aeK(t:Bytes):mC ⟨6,0,0,0,0,t⟩:=by
 by_cases az:t.length≤62
 rotate_left
 ·have he:dI ⟨6,0,0,0,0,t⟩=none:=by rw [QY,if_neg az]
  obtain⟨v,aa,aC,rfl,_⟩:=ads t (fun v aa=>v=.tuple [.slice none 0 0,.int .i64 220]∧True) ⟨by simp,by simp;omega,rfl,trivial⟩;exact⟨_,_,aC,ha.nil he⟩
 have Cz:some (o.bool (decide ((t.length:Int)≤62)))=some (o.bool true):=by simp;omega
 have he:=QY t;rw [if_pos az]at he;obtain⟨H1,d,aF,dG,a6,aeL,m1⟩:=ke.new (j.ar 82 [(0,kf (c3 6 0 0 0 0 t)),(4,kf (c3 6 0 0 0 0 t))]) (fun _=>0) 1;have kF:82≤H1.next:=m1.next
 have f1:=fq.fresh H1 dG 6;obtain⟨agz,aH,C,en,g2,aV,hC⟩:=Cw ⟨H1.next+6,H1.aJ⟩ az;have aV:H1.next+6≤C:=aV
 have Cm:=g2.lt;have m2:=fq.made (K:=⟨H1.next+6,H1.aJ⟩) (vD:=aH) (by show H1.next+6≤aH.next;omega) hC (fresh H1 dG) 5;obtain⟨J,rfl,aeM⟩:=g2.hn (ch:=fun x=>if x<H1.next+6 then fresh H1 dG x else 5) (c:=5) (by show(if C<H1.next+6 then _ else 5)=5;rw [if_neg (by omega)]);have aeN:=(aeL.gj f1 (by simp)).gj m2 (by simp);obtain⟨aZ,eD,pr,f',ft,QZ,rn,m3⟩:=aeN.feed (m:=(27::91::t).length) yz (by simp only [List.length_cons];omega) aeM (by decide);have yi:=((m1.trans f1).trans m2).trans m3;have iL:=yi.next
 have iL:82≤aZ.next:=iL
 have j3:aZ.get 0=some (kf (c3 6 0 0 0 0 t)):=(yi.get 0 (by show(0:Nat)<82;decide) (by decide)).trans rfl;have fT:cj (b5.D env) 9 ⟨0,0,0,5,6⟩ ⟨H1.next+6,H1.aJ⟩=some (.str t):=IW (h:=⟨H1.next+6,H1.aJ⟩) ((m1.get 0 (by show(0:Nat)<82;decide) (by decide)).trans rfl);have qe:cj (b5.D env) 42 ⟨0,0,0,0,6⟩ ⟨aZ.next+15,aZ.aJ⟩=some (c3 6 0 0 0 0 t):=aez (h:=⟨aZ.next+15,aZ.aJ⟩) j3;have hzero:zero=h6:=rfl;rw [hzero]at he;have fx:=AK (27::91::t) yz;have cJ:=aeJ fx;generalize cw:(dh h6 (27::91::t)).2=es at rn he;generalize eX:(dh h6 (27::91::t)).1=c2 at QZ he fx cJ
 have sw:∃a1,eD=.slice a1 es.length es.length:=by
  rcases rn.ex with ⟨rfl,ad⟩|⟨_,ab,_,_,yU,nv,f,rfl,_⟩
  ·have:es=[]:=by simpa using ad
   rw [this];exact⟨none,rfl⟩
  ·exact⟨_,by rw [List.length_map]⟩
 by_cases p:es.length=1
 rotate_left
 ·obtain⟨a1,rfl⟩:=sw
  have jD:dI ⟨6,0,0,0,0,t⟩=none:=by rw [he,if_neg];rintro ⟨q,_⟩;rw [q]at p;exact p rfl
  obtain⟨v,aa,aC,rfl,_⟩:=adn H1 aH aZ aZ aZ t d (27::91::t).length es.length ⟨C,J,0,0,1⟩ a1 (fun v aa=>v=.tuple [.slice none 0 0,.int .i64 220]∧True)
   ⟨by simp,Cz,⟨a6⟩,fT,⟨en⟩,⟨ft⟩,by simp;omega,rfl,trivial⟩
  exact⟨_,_,aC,ha.nil jD⟩
 obtain⟨x,rfl⟩:∃x,es=[x]:=by
  cases es with
  |nil=>simp at p
  |cons x r =>
   have:r=[]:=by simpa using p
   rw [this];exact⟨x,rfl⟩
 obtain⟨ab,cS,_⟩:=Ih rn;obtain⟨yU,agA,k8,rfl,aeO,IY⟩:=cS.cases;have rx:cj (b5.D env) 42 ⟨ab,yU,0,0,6⟩ ⟨aZ.next+15,aZ.aJ⟩=some (cm x):=vo (i:=0) (h:=⟨aZ.next+15,aZ.aJ⟩) aeO (by simp);by_cases ae:x=⟨6,0,0,0,0,t⟩
 rotate_left
 ·have jD:dI ⟨6,0,0,0,0,t⟩=none:=by rw [he,if_neg];rintro ⟨q,_⟩;exact ae (by simpa using q)
  obtain⟨v,aa,aC,rfl,_⟩:=ado H1 aH aZ aZ aZ t d (27::91::t).length ab yU ⟨C,J,0,0,1⟩ ⟨0,0,0,0,0⟩ 0 x.kind x.code x.dW x.x x.y x.text (fun v aa=>v=.tuple [.slice none 0 0,.int .i64 220]∧True)
   ⟨by simp,Cz,⟨a6⟩,fT,⟨en⟩,⟨ft⟩,rx,IY,qe,by omega,by
    have:¬(x.kind=6∧x.code=0∧x.dW=0∧x.x=0∧x.y=0∧x.text=t):=by rintro ⟨a,b,c,d,e,f⟩;apply ae;obtain⟨k,fS,m,y,z,u⟩:=x;simp only at a b c d e f;subst a b c d e f;rfl
    simpa using this,rfl,trivial⟩
  exact⟨_,_,aC,ha.nil jD⟩
 subst ae;obtain⟨bJ,PN,jM,ht,agB,m4,ct⟩:=(QZ.gj (fq.fresh aZ f' 15) (by simp)).held cJ.1 cJ.2;have ct:aZ.next+15<bJ.next:=ct
 by_cases bm:held c2=0
 rotate_left
 ·have jD:dI ⟨6,0,0,0,0,t⟩=none:=by rw [he,if_neg (fun q=>bm q.2)]
  obtain⟨v,aa,aC,rfl,_⟩:=adp H1 aH aZ bJ bJ t d (27::91::t).length ab yU ⟨C,J,0,0,1⟩ ⟨0,0,0,0,0⟩ 0 (.undef) (held c2:Nat) (fun v aa=>v=.tuple [.slice none 0 0,.int .i64 220]∧True)
   ⟨by simp,Cz,⟨a6⟩,fT,⟨en⟩,⟨ft⟩,rx,IY,qe,by omega,by simp,⟨ht⟩,by simp;omega,rfl,trivial⟩
  exact⟨_,_,aC,ha.nil jD⟩
 rw [bm]at ht;have jD:dI ⟨6,0,0,0,0,t⟩=some (27::91::t):=by rw [he,if_pos ⟨rfl,bm⟩]
 have aeP:=(yi.trans (fq.fresh aZ f' 15)).trans m4;have CG:bJ.get 0=some (kf (c3 6 0 0 0 0 t)):=(aeP.get 0 (by show(0:Nat)<82;decide) (by decide)).trans rfl;obtain⟨agC,fY,Q0,aeQ,g5,_,_⟩:=Cw ⟨bJ.next+4,bJ.aJ⟩ az;obtain⟨tu,rfl,_⟩:=g5.ex
 obtain⟨v,aa,aC,rfl,rfl⟩:=adq H1 aH aZ bJ fY t d (27::91::t).length ab yU ⟨C,J,0,0,1⟩ ⟨Q0,tu.J,0,0,1⟩ (27::91::t).length (.undef) 0 (fun v aa=>v=.tuple [.slice (some ⟨Q0,tu.J,0,0,1⟩) (27::91::t).length (27::91::t).length,.int .i64 0]∧aa=⟨fY.next+5,fY.aJ⟩)
  ⟨by simp,Cz,⟨a6⟩,fT,⟨en⟩,⟨ft⟩,rx,IY,qe,by omega,by simp,⟨ht⟩,IW (h:=⟨bJ.next+4,bJ.aJ⟩) CG,⟨aeQ⟩,rfl,rfl⟩
 exact⟨_,_,aC,ha.new jD g5⟩
theorem aeR{e:bj}(bm:0≤e.dW):mC e:=by
 obtain⟨k,c,m,x,y,t⟩:=e;simp only at bm;by_cases bd:k=3
 ·subst bd;exact aeE bm
 by_cases hm:7<m
 ·exact aes bd hm
 by_cases p:k=1
 ·subst p;by_cases ac:x=0∧y=0∧t=[]
  ·obtain⟨rfl,rfl,rfl⟩:=ac;exact aet bm hm
  ·exact aeu hm ac
 by_cases ad:k=2
 ·subst ad;by_cases ac:x=0∧y=0∧t=[]
  ·obtain⟨rfl,rfl,rfl⟩:=ac;exact aev bm hm
  ·exact aew hm ac
 by_cases bI:k=5
 ·subst bI;exact aex hm
 by_cases bS:k=4
 ·subst bS;by_cases ac:c=0∧m=0∧x=0∧y=0
  ·obtain⟨rfl,rfl,rfl,rfl⟩:=ac;exact aeG t
  ·exact aeF hm ac
 by_cases dx:k=6
 ·subst dx;by_cases ac:c=0∧m=0∧x=0∧y=0
  ·obtain⟨rfl,rfl,rfl,rfl⟩:=ac;exact aeK t
  ·exact aeI hm ac
 exact aey bd p ad bI bS dx hm
theorem aeS(H:j){e:bj}(bm:0≤e.dW) :
 ∃w c aP,aI Tryz.prog aw QR [cm e] H (.tuple [w,.int .i64 c]) aP∧H.next≤aP.next∧(∀x,x<H.next→aP.get x=H.get x)∧((∃bw C,dI e=some bw∧c=0∧eS aP C w bw∧H.next≤C)∨(dI e=none∧c=220∧w=.slice none 0 0)):=by
 obtain⟨v,aa,aC,w,c,rfl,aD⟩:=aeR bm;obtain⟨aP,hN,aS,ag,ai⟩:=IM aC (fun a aT=>by rw [List.mem_singleton.1 aT];exact cR.of rfl) H;rcases aD with ⟨bw,C,dH,rfl,g⟩|⟨dH,rfl,rfl⟩
 ·exact⟨_,_,aP,hN,by omega,ai,.inl ⟨bw,H.next+C,dH,rfl,g.place aS ag,by omega⟩⟩
 ·exact⟨_,_,aP,hN,by omega,ai,.inr ⟨dH,rfl,rfl⟩⟩
end Go.Proofs.YtddnafghiejcoaaGreatDoor
