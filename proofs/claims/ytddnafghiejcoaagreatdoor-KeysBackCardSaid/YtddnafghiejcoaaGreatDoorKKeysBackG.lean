/-
  Parts of the proof of KeysBack.
-/
import Derived.Shelf.Strings.Search3
import Derived.Lib.AtoiAll
import Derived.Test.YtddnafghiejcoaaGreatDoorKKeysBackF
set_option linter.unusedVariables false
set_option linter.unusedSimpArgs false
namespace Go.Proofs.YtddnafghiejcoaaGreatDoor
open Go.cf Go.Keys
set_option maxRecDepth 1000000
theorem Jv:∀(l:List Nat)(n:Nat),d' (l++[n])=if l=[]then Lib.decDigits n else d' l++59::Lib.decDigits n
 |[],n=>rfl
 |[m],n=>rfl
 |m::k::r,n=>by have ih:=Jv (k::r) n;rw [if_neg aM]at ih⊢;show Lib.decDigits m++59::d' ((k::r)++[n])=_;rw [ih,d'];simp
theorem C4:∀(l:List Nat),(∀n∈l,n<10000000)→(d' l).length≤8*l.length
 |[],_=>by simp [d']
 |[n],h=>by have:=kH (n:=n) (k:=6) (by have:=h n aM ;simpa using this);simp only [d',List.length_cons,List.length_nil];omega
 |n::m::r,h=>by
  have ac:=kH (n:=n) (k:=6) (by have:=h n aM ;simpa using this);have ai:=C4 (m::r) fun x aj=>h x (by simp [aj])
  simp only [d',List.length_append,List.length_cons]at ai⊢; omega
abbrev st(l:List Nat):af:=af.an (l.map fun n=>aa.int .i64 (n:Nat)) 1 true
theorem adk{h:J}{q i:Nat}{l:List Nat}(e:h.get q=some (st l))(aq:i<l.length):bM (bY.D env) 3 ⟨q,0,0+i,0,1⟩ h=some (.int .i64 (l[i]:Nat)):=by have bZ:(bY.D env 3).map (fun d=>d.kind.isAgg)=some false:= ay;obtain⟨x,ac,ai⟩:=Option.map_eq_some_iff.1 bZ;unfold bM;rw [ac,e];simp [af.elem?,af.cC,hZ,ai,af.an,aq]
theorem C5{F:bJ}{nid k n c:Nat}{H:J}{a:bA}{b:af}(aZ:bD F (.tmp k)=.slice (some a) n c)(ak:H.get a.id=some b)(bc:b.ro=false)(aT:a.fld=0)(aw:0<c):e7 env nid (bD F) H (Op.convert 34 34 (Operand.tmp k))=some (.slice (some a) n c,H):=by have ac:(bY.D env 34).map (fun d=>d.kind)=some (.slice 5):= ay;have a8:(bY.D env 5).map (fun d=>d.kind)=some (.int .u8):= ay;obtain⟨kY,d1,aK⟩:=Option.map_eq_some_iff.1 ac;obtain⟨w7,d3,bt⟩:=Option.map_eq_some_iff.1 a8;simp only [e7,aZ,q',d1,aK,d3,bt,ak];simp [bc,aT,aw]
abbrev oE(e:Bytes)(bv:aa)(q n c i:Nat):bJ:=[(0,.str e),(5,bv),(10,.slice (some ⟨q,0,0,0,1⟩) n c),(11,.int .i64 (n:Nat)),(12,.int .i64 (i:Nat))]
theorem adl{B q c:Nat}{l:List Nat}{e:Bytes}(aC:l.length<2^20)(aR:∀n∈l,n<10000000)(aB:q<B):∀(t i:Nat)(H:J)(bv:aa)(j:Nat),l.length-i≤t→i≤l.length→B≤H.U→B≤j→eP H j bv (27::91::d' (l.take i))→H.get q=some (st l) →
 ∃aQ pG gB,hd B 29 (cs 44 0) (oE e bv q l.length c i) H (.exit 0) (oE e pG q l.length c l.length) aQ∧eP aQ gB pG (27::91::d' l)∧B≤gB∧H.U≤aQ.U∧∀x,x<B→aQ.get x=H.get x:=by
 intro t
 have fin:∀(H:J)(bv:aa)(j:Nat),B≤H.U→B≤j→eP H j bv (27::91::d' (l.take l.length)) →
  ∃aQ pG gB,hd B 29 (cs 44 0) (oE e bv q l.length c l.length) H (.exit 0) (oE e pG q l.length c l.length) aQ∧eP aQ gB pG (27::91::d' l)∧B≤gB∧H.U≤aQ.U∧∀x,x<B→aQ.get x=H.get x:=by
  intro H bv j cH a1 g;rw [List.take_length]at g;obtain⟨bi,aU,ac,bc,rfl,rfl,rfl⟩:=Ju H H H H B q 0 0 l.length c l.length 0 e bv bv bv (fun bi aU ac=>bi=.exit 0∧aU=oE e bv q l.length c l.length∧ac=⟨H.U+1,H.aH⟩) (aY cH ⟨fun h=> ab,fun _=>⟨rfl,rfl,rfl⟩⟩);exact⟨_,bv,j,dK.last aM bc,g.keep rfl (by show H.U≤H.U+1;omega),a1,by show H.U≤H.U+1;omega,fun _ _=>rfl⟩
 induction t with
 |zero =>
  intro i H bv j bW aq cH a1 g _;obtain rfl:i=l.length:= ab;exact fin H bv j cH a1 g
 |succ t ih =>
  intro i H bv j bW aq cH a1 g ak;by_cases aw:i<l.length
  ·have aj : l[i] < 10000000 := aR _ (List.getElem_mem aw)
   have mZ:∀k,bM (bY.D env) 3 ⟨q,0,0+Int.toNat (i:Int),0,1⟩ ⟨H.U+k,H.aH⟩=some (.int .i64 (l[i]:Nat)):=fun k=>by rw [Int.toNat_natCast];exact adk (h:=⟨H.U+k,H.aH⟩) ak aw
   have QU:l.take (i+1)=l.take i++[l[i]]:=by rw [List.take_add_one,List.getElem?_eq_getElem aw];rfl
   have xg:(d' (l.take i)).length≤8*l.length:=by
    have:=C4 (l.take i) fun n h=>aR n (List.mem_of_mem_take h)
    rw [List.length_take]at this;omega
   have step:∀(aX:J)(v2:aa)(j2:Nat),eP aX j2 v2 (27::91::d' (l.take (i+1)))→B≤j2→H.U≤aX.U→(∀x,x<B→aX.get x=H.get x)→dc B 29 (cs 44 0) (oE e bv q l.length c i) H .normal (oE e v2 q l.length c (i+1)) ⟨aX.U+2,aX.aH⟩ →
    ∃aQ pG gB,hd B 29 (cs 44 0) (oE e bv q l.length c i) H (.exit 0) (oE e pG q l.length c l.length) aQ∧eP aQ gB pG (27::91::d' l)∧B≤gB∧H.U≤aQ.U∧∀x,x<B→aQ.get x=H.get x:=by
    intro aX v2 j2 g2 vX iR iO bc;obtain⟨aQ,pG,gB,dN,dp,Jw,tl,hD⟩:=ih (i+1) ⟨aX.U+2,aX.aH⟩ v2 j2 ab ab (by show B≤aX.U+2;omega) vX (g2.keep rfl (by show aX.U≤aX.U+2;omega)) ((iO q aB).trans ak);have tl:aX.U+2≤aQ.U:=tl;exact⟨aQ,pG,gB,dK.step bc dN,dp,Jw,ab,fun x aj=>(hD x aj).trans (iO x aj)⟩
   have ho:((i:Int)+1)=((i+1:Nat):Int):= ab;by_cases bf:0<i
   ·
     have bX:l.take i≠[]:=by intro h;have:=congrArg List.length h;rw [List.length_take,List.length_nil]at this;omega
     have vY:∀F,bN env dF (H.U+9) (bD F) ⟨H.U+12,H.aH⟩ (Op.buildSlice 34 1 {toList:=[(0,Operand.const (Value.int .u8 (59)))]})=some (aa.slice (some ⟨H.U+9,0,0,0,1⟩) 1 1,(⟨H.U+12,H.aH⟩:J).set (H.U+9) (af.an (aN [59]) 1 true)):=by intro F;kernel_rfl
     have hT:((⟨H.U+12,H.aH⟩:J).set (H.U+9) (af.an (aN [59]) 1 true)).get (H.U+9)=some (af.an (aN [59]) 1 true):=J.gE _ _ _;have jD:∀x,x<H.U→((⟨H.U+12,H.aH⟩:J).set (H.U+9) (af.an (aN [59]) 1 true)).get x=H.get x:=fun x aj=>J.fg _ _ ab
     have lg:((⟨H.U+12,H.aH⟩:J).set (H.U+9) (af.an (aN [59]) 1 true)).U=H.U+12:=rfl;generalize (⟨H.U+12,H.aH⟩:J).set (H.U+9) (af.an (aN [59]) 1 true)=H1 at vY hT jD lg;have g1:=g.keep (jD j g.lt) ab;have kY:eP H1 (H.U+9) (.slice (some ⟨H.U+9,0,0,0,1⟩) 1 1) [59]:=eP.an hT ab (fun h=>by cases h);obtain⟨v1,H2,j1,aT,g2,QV,jH,ib⟩:=g1.hk (nid:=H.U+10) kY.bk aM (by simp only [List.length_cons,List.length_nil];omega) ab;obtain⟨v2,aX,j2,aE,g3,vX,iR,iO⟩:=QS (n:=l[i]) (g2.keep (aQ:=⟨H2.U+4,H2.aH⟩) rfl (by show H2.U≤H2.U+4;omega)) (by simp only [List.length_append,List.length_cons,List.length_nil];omega) aj;have iR:H2.U+4≤aX.U:=iR;have ahU:B≤j1:=by rcases QV with h|h<;>omega
     obtain⟨bi,aU,ac,bc,rfl,rfl,rfl⟩:=Ju H H1 H2 aX B q 0 (H.U+9) l.length c i (l[i]:Nat) e bv v1 v2 (fun bi aU ac=>bi=.normal∧aU=oE e v2 q l.length c (i+1)∧ac=⟨aX.U+2,aX.aH⟩)
      (aY cH ⟨fun _=>aY ab ⟨⟨ab,ab⟩,mZ 6,aY ab ⟨fun _=>aY ab ⟨vY _,(C2 _ _ _ _).trans aT,aY ab ⟨⟨aE⟩,aY ab ⟨⟨ab,ab⟩,rfl,by rw [ho],rfl⟩⟩⟩,fun h=>absurd ab h⟩⟩,fun h=>absurd ab h⟩)
     refine step aX v2 j2 ?_ (by rcases vX with h|h; · omega
                                 ·have h:H2.U+4≤j2:=h
                                  omega) ab (fun x aj=> ?_) bc
     ·have bu:(27::91::d' (l.take (i+1)):Bytes)=27::91::d' (l.take i)++[59]++Lib.decDigits l[i]:=by rw [QU,Jv,if_neg bX];simp
      rw [bu];exact g3
     ·rw [iO x (by show x<H2.U+4;omega) ab];show H2.get x=_;rw [ib x ab ab];exact jD x ab
   ·obtain rfl:i=0:= ab;obtain⟨v2,aX,j2,aE,g3,vX,iR,iO⟩:=QS (n:=l[0]) (g.keep (aQ:=⟨H.U+12,H.aH⟩) rfl (by show H.U≤H.U+12;omega)) (by simp only [List.length_cons];omega) aj;have iR:H.U+12≤aX.U:=iR
    obtain⟨bi,aU,ac,bc,rfl,rfl,rfl⟩:=Ju H H H aX B q 0 0 l.length c 0 (l[0]:Nat) e bv bv v2 (fun bi aU ac=>bi=.normal∧aU=oE e v2 q l.length c 1∧ac=⟨aX.U+2,aX.aH⟩)
     (aY cH ⟨fun _=>aY ab ⟨⟨ab,ab⟩,mZ 6,aY ab ⟨fun h=>absurd h ab,fun _=>aY ab ⟨⟨aE⟩,aY ab ⟨⟨ab,ab⟩,rfl,rfl,rfl⟩⟩⟩⟩,fun h=>absurd ab h⟩)
    refine step aX v2 j2 ?_ (by rcases vX with h|h; · omega
                                ·have h:H.U+12≤j2:=h
                                 omega) ab (fun x aj=> ?_) bc
    ·have bu:(27::91::d' (l.take (0+1)):Bytes)=27::91::d' (l.take 0)++Lib.decDigits l[0]:=by rw [QU,Jv,if_pos aM];rfl
     rw [bu];exact g3
    ·exact iO x (by show x<H.U+12;omega) ab
  ·obtain rfl:i=l.length:= ab;exact fin H bv j cH a1 g
def QW(H:J)(args:List aa)(bs:Bytes):Prop :=
 ∃v aQ j,bS 44 args H v aQ∧eP aQ j v bs∧H.U≤j∧∀x,x<H.U→aQ.get x=H.get x
theorem Jx(H:J):∃H1,(∀F,bN env dF (H.U+1) (bD F) ⟨H.U+4,H.aH⟩ (Op.buildSlice 34 2 {toList:=[(0,Operand.const (Value.int .u8 (27))),(1,Operand.const (Value.int .u8 (91)))]})=some (aa.slice (some ⟨H.U+1,0,0,0,1⟩) 2 2,H1))∧(∀F,bD F (.tmp 8)=aa.slice (some ⟨H.U+1,0,0,0,1⟩) 2 2→e7 env (H.U+2) (bD F) H1 (Op.convert 34 34 (Operand.tmp 8))=some (aa.slice (some ⟨H.U+1,0,0,0,1⟩) 2 2,H1)) ∧
 eP H1 (H.U+1) (.slice (some ⟨H.U+1,0,0,0,1⟩) 2 2) [27,91]∧H1.U=H.U+4∧∀x,x<H.U→H1.get x=H.get x:=by
 have hT:((⟨H.U+4,H.aH⟩:J).set (H.U+1) (af.an (aN [27,91]) 1 true)).get (H.U+1)=some (af.an (aN [27,91]) 1 true):=J.gE _ _ _;exact⟨(⟨H.U+4,H.aH⟩:J).set (H.U+1) (af.an (aN [27,91]) 1 true),(fun F=> ay),fun F aZ=>C5 aZ hT rfl rfl aS,eP.an (bs:=[27,91]) hT (by show H.U+1<H.U+4;omega) (fun h=>by cases h),rfl,fun x aj=>J.fg _ _ ab⟩
theorem adm(H:J){e:Bytes}(he:e≠[])(aC:e.length<2^30):QW H [.str e,.slice none 0 0] (27::91::e):=by
 have fb:∀{a b:Nat}{p:Prop},a≤b→p→_root_.cond (Nat.ble a b) p False:=fun h k=>by rw [Nat.ble_eq.mpr h];exact k
 obtain⟨H1,ax,aw,g1,lg,jD⟩:=Jx H;obtain⟨v,H2,j,aT,g2,a1,jH,ib⟩:=(g1.keep (aQ:=⟨H1.U+8,H1.aH⟩) rfl (by show H1.U≤H1.U+8;omega)).hk (nid:=H1.U+6) (x:= .str e) (by rfl) he (by simp only [List.length_cons,List.length_nil];omega) (by show H1.U+6<H1.U+8;omega);have jH:H2.U=H1.U+8:=jH
 obtain⟨w,ag,aE,rfl,rfl⟩:=QT H H1 H2 (H.U+1) e v (fun w ag=>w=v∧ag=H2)
  (aY (Nat.le_refl _) (aY ab ⟨ax _,aw _ rfl,aY ab (aY ab (aY ab ⟨(zj _ _ _ _).trans aT,fb ab ⟨rfl,rfl⟩⟩))⟩))
 refine⟨_,_,j,aE,g2,by rcases a1 with h|h<;>omega,fun x aj=> ?_⟩;rw [ib x ab ab];exact jD x aj
theorem Jy{H:J}{q c:Nat}{l:List Nat}{e:Bytes}(ak:H.get q=some (st l))(aB:q<H.U)(mf:l.length<2^20)(aR:∀n∈l,n<10000000)(he:e≠[])(aC:e.length<2^30):QW H [.str e,.slice (some ⟨q,0,0,0,1⟩) l.length c] (eO e l):=by
 have fb:∀{a b:Nat}{p:Prop},a≤b→p→_root_.cond (Nat.ble a b) p False:=fun h k=>by rw [Nat.ble_eq.mpr h];exact k
 obtain⟨H1,ax,aw,g1,lg,jD⟩:=Jx H;obtain⟨H2,bv,j2,dN,g2,vX,jH,ib⟩:=adl (B:=H.U) (c:=c) (e:=e) mf aR aB l.length 0 ⟨H1.U+3,H1.aH⟩ _ (H.U+1) ab ab (by show H.U≤H1.U+3;omega) ab (g1.keep rfl (by show H1.U≤H1.U+3;omega)) ((jD q aB).trans ak);have jH:H1.U+3≤H2.U:=jH;have xg:=C4 l aR;obtain⟨v,aX,j,aT,g3,a1,iR,iO⟩:=(g2.keep (aQ:=⟨H2.U+4,H2.aH⟩) rfl (by show H2.U≤H2.U+4;omega)).hk (nid:=H2.U+2) (x:= .str e) (by rfl) he (by simp only [List.length_cons];omega) (by show H2.U+2<H2.U+4;omega);have iR:aX.U=H2.U+4:=iR
 obtain⟨w,ag,aE,rfl,rfl⟩:=adj H H1 H2 aX (H.U+1) q 0 l.length c e bv v (.int .i64 (l.length:Nat)) (fun w ag=>w=v∧ag=aX)
  (aY (Nat.le_refl _) (aY ab ⟨ax _,aw _ rfl,aY ab ⟨fw.hQ dN,aY ab ⟨(zj _ _ _ _).trans aT,fb ab ⟨rfl,rfl⟩⟩⟩⟩))
 refine⟨_,_,j,aE,?_,by rcases a1 with h|h<;>omega,fun x aj=> ?_⟩
 ·have bu:eO e l=27::91::d' l++e:=rfl;rw [bu];exact g3
 ·rw [iO x ab ab];show H2.get x=_;rw [ib x aj];exact jD x aj
abbrev kK(x:Nat):af:=af.an [aa.int .i32 (x:Nat)] 1 true
abbrev Jz:c':=(ak 19002 (ak 19003 (ak 20001 (ak 21001 (ak 21005 .nil)))))
theorem adn(x:Nat)(ae:bI)(aW:some (aa.bool (decide ((x:Int)≥55296)))=some (aa.bool false)∧some (aa.bool (decide ((x:Int)>1114111)))=some (aa.bool false)∧((x:Int)<128→(0≤(x:Int)∧(x:Int)≤255)∧ae (.str [UInt8.ofNat x]) (J.ar 43 [(0,(af.an ([.int .i32 (x:Int)]) 1 true)),(34,af.an [.int .u8 (x:Int)] 1 true),(35,af.an [.int .u8 (x:Int)] 1 false (some (5,0)))]))∧(¬(x:Int)<128→(2048≤(x:Int)→some (aa.bool (decide ((x:Int)≥65536)))=some (aa.bool false)∧True∧(0≤bp .i32 (x:Int) (63)∧bp .i32 (x:Int) (63)≤255)∧True∧Int.NonNeg (6-0)∧True∧(0≤bp .i32 (bw .i32 (x:Int) (6)) (63)∧bp .i32 (bw .i32 (x:Int) (6)) (63)≤255)∧True∧Int.NonNeg (6-0)∧(0≤bw .i32 (bw .i32 (x:Int) (6)) (6)∧bw .i32 (bw .i32 (x:Int) (6)) (6)≤255)∧True∧ae (.str [UInt8.ofNat (Int.toNat (b2 .u8 (bw .i32 (bw .i32 (x:Int) 6) 6) 224)),UInt8.ofNat (Int.toNat (b2 .u8 128 (bp .i32 (bw .i32 (x:Int) 6) 63))),UInt8.ofNat (Int.toNat (b2 .u8 128 (bp .i32 (x:Int) 63)))]) (J.ar 80 [(0,(af.an ([.int .i32 (x:Int)]) 1 true)),(37,(af.an ([.agg [.int .u8 (b2 .u8 (bw .i32 (bw .i32 (x:Int) (6)) (6)) (224)),.int .u8 (b2 .u8 (128) (bp .i32 (bw .i32 (x:Int) (6)) (63))),.int .u8 (b2 .u8 (128) (bp .i32 (x:Int) (63))),.int .u8 0]]) 4 true (some (95,4)))),(72,af.an [.int .u8 (b2 .u8 (bw .i32 (bw .i32 (x:Int) (6)) (6)) (224)),.int .u8 (b2 .u8 (128) (bp .i32 (bw .i32 (x:Int) (6)) (63))),.int .u8 (b2 .u8 (128) (bp .i32 (x:Int) (63)))] 1 false (some (5,0)))]))∧(¬2048≤(x:Int)→some (aa.bool (decide ((x:Int)≥65536)))=some (aa.bool false)∧True∧(0≤bp .i32 (x:Int) (63)∧bp .i32 (x:Int) (63)≤255)∧True∧Int.NonNeg (6-0)∧(0≤bw .i32 (x:Int) (6)∧bw .i32 (x:Int) (6)≤255)∧True∧ae (.str [UInt8.ofNat (Int.toNat (b2 .u8 (bw .i32 (x:Int) 6) 192)),UInt8.ofNat (Int.toNat (b2 .u8 128 (bp .i32 (x:Int) 63)))]) (J.ar 72 [(0,(af.an ([.int .i32 (x:Int)]) 1 true)),(36,(af.an ([.agg [.int .u8 (b2 .u8 (bw .i32 (x:Int) (6)) (192)),.int .u8 (b2 .u8 (128) (bp .i32 (x:Int) (63))),.int .u8 0,.int .u8 0]]) 4 true (some (95,4)))),(64,af.an [.int .u8 (b2 .u8 (bw .i32 (x:Int) (6)) (192)),.int .u8 (b2 .u8 (128) (bp .i32 (x:Int) (63)))] 1 false (some (5,0)))])))) :
 b4 51 [.slice (cm 0) 1 1] (J.rows 1 [(0,kK x)]) ae :=
 b9 cx (.az (.rounds 300) (he 5002 (.az (.val 1004 (.bool false)) (.az (.val 1012 (.bool false)) (.aI 3001 (ak 4002 .nil) (.aI 6001 (.az (.val 8001 (.bool false)) (ak 17001 (ak 17002 (ak 17003 (ak 18001 (ak 19001 Jz)))))) (.az (.val 8001 (.bool false)) (ak 19001 Jz)))))))) aW
abbrev QX:c':=(ak 17001 (ak 17002 (ak 17003 (ak 18001 (ak 19001 Jz)))))
theorem ado(x:Nat)(ae:bI)(aW:some (aa.bool (decide ((x:Int)≥55296)))=some (aa.bool true)∧some (aa.bool (decide ((x:Int)≤57343)))=some (aa.bool false)∧some (aa.bool (decide ((x:Int)>1114111)))=some (aa.bool false)∧some (aa.bool (decide ((x:Int)<128)))=some (aa.bool false)∧some (aa.bool (decide ((x:Int)≥2048)))=some (aa.bool true)∧(65536≤(x:Int)→True∧(0≤bp .i32 (x:Int) (63)∧bp .i32 (x:Int) (63)≤255)∧True∧Int.NonNeg (6-0)∧True∧(0≤bp .i32 (bw .i32 (x:Int) (6)) (63)∧bp .i32 (bw .i32 (x:Int) (6)) (63)≤255)∧True∧Int.NonNeg (6-0)∧True∧(0≤bp .i32 (bw .i32 (bw .i32 (x:Int) (6)) (6)) (63)∧bp .i32 (bw .i32 (bw .i32 (x:Int) (6)) (6)) (63)≤255)∧True∧Int.NonNeg (6-0)∧(0≤bw .i32 (bw .i32 (bw .i32 (x:Int) (6)) (6)) (6)∧bw .i32 (bw .i32 (bw .i32 (x:Int) (6)) (6)) (6)≤255)∧True∧ae (.str [UInt8.ofNat (Int.toNat (b2 .u8 (bw .i32 (bw .i32 (bw .i32 (x:Int) 6) 6) 6) 240)),UInt8.ofNat (Int.toNat (b2 .u8 128 (bp .i32 (bw .i32 (bw .i32 (x:Int) 6) 6) 63))),UInt8.ofNat (Int.toNat (b2 .u8 128 (bp .i32 (bw .i32 (x:Int) 6) 63))),UInt8.ofNat (Int.toNat (b2 .u8 128 (bp .i32 (x:Int) 63)))]) (J.ar 88 [(0,(af.an ([.int .i32 (x:Int)]) 1 true)),(38,(af.an ([.agg [.int .u8 (b2 .u8 (bw .i32 (bw .i32 (bw .i32 (x:Int) (6)) (6)) (6)) (240)),.int .u8 (b2 .u8 (128) (bp .i32 (bw .i32 (bw .i32 (x:Int) (6)) (6)) (63))),.int .u8 (b2 .u8 (128) (bp .i32 (bw .i32 (x:Int) (6)) (63))),.int .u8 (b2 .u8 (128) (bp .i32 (x:Int) (63)))]]) 4 true (some (95,4)))),(80,af.an [.int .u8 (b2 .u8 (bw .i32 (bw .i32 (bw .i32 (x:Int) (6)) (6)) (6)) (240)),.int .u8 (b2 .u8 (128) (bp .i32 (bw .i32 (bw .i32 (x:Int) (6)) (6)) (63))),.int .u8 (b2 .u8 (128) (bp .i32 (bw .i32 (x:Int) (6)) (63))),.int .u8 (b2 .u8 (128) (bp .i32 (x:Int) (63)))] 1 false (some (5,0)))]))∧(¬65536≤(x:Int)→True∧(0≤bp .i32 (x:Int) (63)∧bp .i32 (x:Int) (63)≤255)∧True∧Int.NonNeg (6-0)∧True∧(0≤bp .i32 (bw .i32 (x:Int) (6)) (63)∧bp .i32 (bw .i32 (x:Int) (6)) (63)≤255)∧True∧Int.NonNeg (6-0)∧(0≤bw .i32 (bw .i32 (x:Int) (6)) (6)∧bw .i32 (bw .i32 (x:Int) (6)) (6)≤255)∧True∧ae (.str [UInt8.ofNat (Int.toNat (b2 .u8 (bw .i32 (bw .i32 (x:Int) 6) 6) 224)),UInt8.ofNat (Int.toNat (b2 .u8 128 (bp .i32 (bw .i32 (x:Int) 6) 63))),UInt8.ofNat (Int.toNat (b2 .u8 128 (bp .i32 (x:Int) 63)))]) (J.ar 80 [(0,(af.an ([.int .i32 (x:Int)]) 1 true)),(37,(af.an ([.agg [.int .u8 (b2 .u8 (bw .i32 (bw .i32 (x:Int) (6)) (6)) (224)),.int .u8 (b2 .u8 (128) (bp .i32 (bw .i32 (x:Int) (6)) (63))),.int .u8 (b2 .u8 (128) (bp .i32 (x:Int) (63))),.int .u8 0]]) 4 true (some (95,4)))),(72,af.an [.int .u8 (b2 .u8 (bw .i32 (bw .i32 (x:Int) (6)) (6)) (224)),.int .u8 (b2 .u8 (128) (bp .i32 (bw .i32 (x:Int) (6)) (63))),.int .u8 (b2 .u8 (128) (bp .i32 (x:Int) (63)))] 1 false (some (5,0)))]))) :
 b4 51 [.slice (cm 0) 1 1] (J.rows 1 [(0,kK x)]) ae :=
 b9 cx (.az (.rounds 300) (he 5002 (.az (.val 1004 (.bool true)) (.az (.val 1007 (.bool false)) (.az (.val 1012 (.bool false)) (.az (.val 3001 (.bool false)) (.az (.val 6001 (.bool true)) (.aI 8001 (ak 15001 (ak 15002 (ak 15003 (ak 16001 QX)))) QX)))))))) aW
theorem adp(H H1 H2:J)(r q x k:Nat)(s:Bytes)(ae:bI)(aW:bd (H.U) (H.U) (bd (H.U) (H.U+1) (bN env dF (H.U+2) (bD [(7,.int .i32 (r:Int)),(4,.slice none 0 0),(0,.int .i32 (r:Int)),(1,.int .u8 0)]) (J.mk (H.U+6) (H.2)) (Op.buildSlice 84 1 {toList:=[(0,Operand.tmp 7)]})=some (aa.slice (cm q) 1 1,H1)∧ca 51 [.slice (cm q) 1 1] H1 (.str s) H1∧e7 env (H.U+4) (bD [(9,.str s),(8,.slice (cm q) 1 1),(7,.int .i32 (r:Int)),(4,.slice none 0 0),(0,.int .i32 (r:Int)),(1,.int .u8 0)]) H1 (Op.convert 9 34 (Operand.tmp 9))=some (aa.slice (cm x) k k,H2)∧bd (H.U) (H2.U) (bd (H.U) (H2.U+3) (bC (H.U) (H2.U+5) (ae (.slice (cm x) k k) (J.mk (H2.U+3+2) (J.aH (J.mk (H2.U+3) (J.aH H2)))))))))) :
 b4 42 [.int .i32 r,.int .u8 0] H ae :=
 b9 cx (.az (.act 1001 (.slice (cm q) 1 1) fun x=>H1) (.az (.val 1002 (.str s)) (.az (.mm 1003 (.slice (cm x) k k) fun x=>H2) .nil))) aW
abbrev lh(q:Nat):aa:=aa.slice (cm q) 1 1
theorem adq(H H1 H2 aX bO:J)(r q x y k:Nat)(s:Bytes)(v:aa)(ae:bI)(aW:bd (H.U) (H.U) (bd (H.U) (H.U+1) (bN env dF (H.U+2) (bD [(7,.int .i32 (r:Int)),(4,.slice none 0 0),(0,.int .i32 (r:Int)),(1,.int .u8 2)]) (J.mk (H.U+6) (H.2)) (Op.buildSlice 84 1 {toList:=[(0,Operand.tmp 7)]})=some ((lh q),H1)∧ca 51 [(lh q)] H1 (.str s) H1∧e7 env (H.U+4) (bD [(9,.str s),(8,(lh q)),(7,.int .i32 (r:Int)),(4,.slice none 0 0),(0,.int .i32 (r:Int)),(1,.int .u8 2)]) H1 (Op.convert 9 34 (Operand.tmp 9))=some (aa.slice (cm x) k k,H2)∧bd (H.U) (H2.U) (bd (H.U) (H2.U+3) (some (aa.bool ((r:Int) != 91))=some (aa.bool true)∧some (aa.bool ((r:Int) != 79))=some (aa.bool true)∧bd (H.U) (H2.U+14) (bN env dF (H2.U+14) (bD [(15,.bool true),(25,.bool true),(24,.bool true),(23,.int .i32 (r:Int)),(22,.bool true),(21,.bool true),(20,.bool true),(19,.int .i32 (r:Int)),(18,.bool true),(17,.bool true),(16,.int .u8 2),(11,.bool false),(13,.bool false),(12,.int .u8 2),(5,.slice (cm x) k k),(10,.slice (cm x) k k),(9,.str s),(8,(lh q)),(7,.int .i32 (r:Int)),(4,.slice none 0 0),(0,.int .i32 (r:Int)),(1,.int .u8 2)]) (J.mk (H2.U+18) (H2.2)) (Op.buildSlice 34 1 {toList:=[(0,Operand.const (Value.int .u8 (27)))]})=some (aa.slice (cm y) 1 1,aX)∧hC env Builtin.append {toList:=[34,34]} [.slice (cm y) 1 1,.slice (cm x) k k] (H2.U+16) aX=some (v,bO)∧bC (H.U) (bO.U) (ae v bO))))))) :
 b4 42 [.int .i32 r,.int .u8 2] H ae :=
 b9 cx (.az (.act 1001 ((lh q)) fun x=>H1) (.az (.val 1002 (.str s)) (.az (.mm 1003 (.slice (cm x) k k) fun x=>H2) (.az (.val 4004 (.bool true)) (.az (.val 4008 (.bool true)) (.az (.act 5000 (.slice (cm y) 1 1) fun x=>aX) (.az (.act 5002 v fun x=>bO) .nil))))))) aW
theorem adr(H H1 H2 aX bO:J)(r m q x y k:Nat)(s:Bytes)(v:aa)(ae:bI)(aW:bd (H.U) (H.U) (bd (H.U) (H.U+1) (bN env dF (H.U+2) (bD [(7,.int .i32 (r:Int)),(4,.slice none 0 0),(0,.int .i32 (r:Int)),(1,.int .u8 (m:Int))]) (J.mk (H.U+6) (H.2)) (Op.buildSlice 84 1 {toList:=[(0,Operand.tmp 7)]})=some ((lh q),H1)∧ca 51 [(lh q)] H1 (.str s) H1∧e7 env (H.U+4) (bD [(9,.str s),(8,(lh q)),(7,.int .i32 (r:Int)),(4,.slice none 0 0),(0,.int .i32 (r:Int)),(1,.int .u8 (m:Int))]) H1 (Op.convert 9 34 (Operand.tmp 9))=some (aa.slice (cm x) k k,H2)∧bd (H.U) (H2.U) (some (aa.bool ((m:Int) == 0))=some (aa.bool false)∧bd (H.U) (H2.U+3) (some (aa.bool ((m:Int) == 2))=some (aa.bool false)∧bd (H.U) (H2.U+14) (True∧some (aa.bool (dO .u8 (m:Int) 2 == 4))=some (aa.bool false)∧bd (H.U) (H2.U+18) ((-9223372036854775808≤(r:Int)∧(r:Int)≤9223372036854775807)∧(-9223372036854775808≤(m:Int)∧(m:Int)≤9223372036854775807)∧(-9223372036854775808≤(m:Int)+1∧(m:Int)+1≤9223372036854775807)∧bN env dF (H2.U+23) (bD [(81,.int .i64 ((m:Int)+1)),(80,.int .i64 (m:Int)),(79,.int .u8 (m:Int)),(78,.int .i64 (r:Int)),(77,.int .i32 (r:Int)),(29,.bool false),(32,.bool false),(31,.int .u8 (dO .u8 (m:Int) (2))),(30,.int .u8 (m:Int)),(15,.bool false),(25,.bool false),(24,.tuple []),(23,.tuple []),(22,.bool false),(21,.bool false),(20,.tuple []),(19,.tuple []),(18,.bool false),(17,.bool false),(16,.int .u8 (m:Int)),(11,.bool false),(13,.bool false),(12,.int .u8 (m:Int)),(5,.slice (cm x) k k),(10,.slice (cm x) k k),(9,.str s),(8,(lh q)),(7,.int .i32 (r:Int)),(4,.slice none 0 0),(0,.int .i32 (r:Int)),(1,.int .u8 (m:Int))]) (J.mk (H2.U+26) (H2.2)) (Op.buildSlice 102 2 {toList:=[(0,Operand.tmp 78),(1,Operand.tmp 81)]})=some ((j9 y),aX)∧ca 44 [.str [117],(j9 y)] aX v bO∧bC (H.U) (bO.U) (ae v bO)))))))) :
 b4 42 [.int .i32 r,.int .u8 m] H ae :=
 b9 cx (.az (.act 1001 ((lh q)) fun x=>H1) (.az (.val 1002 (.str s)) (.az (.mm 1003 (.slice (cm x) k k) fun x=>H2) (.az (.val 2001 (.bool false)) (.az (.val 4001 (.bool false)) (ak 6001 (.az (.val 6002 (.bool false)) (ak 17001 (ak 17003 (ak 17004 (.az (.act 17005 ((j9 y)) fun x=>aX) (.az (.act 17006 v fun x=>bO) .nil)))))))))))) aW
theorem ads(H H1 H2 aX bO:J)(r m q x y k:Nat)(s:Bytes)(v:aa)(ae:bI)(aW:bd (H.U) (H.U) (bd (H.U) (H.U+1) (bN env dF (H.U+2) (bD [(7,.int .i32 (r:Int)),(4,.slice none 0 0),(0,.int .i32 (r:Int)),(1,.int .u8 (m:Int))]) (J.mk (H.U+6) (H.2)) (Op.buildSlice 84 1 {toList:=[(0,Operand.tmp 7)]})=some ((lh q),H1)∧ca 51 [(lh q)] H1 (.str s) H1∧e7 env (H.U+4) (bD [(9,.str s),(8,(lh q)),(7,.int .i32 (r:Int)),(4,.slice none 0 0),(0,.int .i32 (r:Int)),(1,.int .u8 (m:Int))]) H1 (Op.convert 9 34 (Operand.tmp 9))=some (aa.slice (cm x) k k,H2)∧bd (H.U) (H2.U) (some (aa.bool ((m:Int) == 0))=some (aa.bool false)∧bd (H.U) (H2.U+3) (some (aa.bool ((m:Int) == 2))=some (aa.bool false)∧bd (H.U) (H2.U+14) (True∧some (aa.bool (dO .u8 (m:Int) 2 == 4))=some (aa.bool true)∧bd (H.U) (H2.U+18) (bd (H.U) (H2.U+19) (some (aa.bool ((r:Int) == 32))=some (aa.bool false)∧bd (H.U) (H2.U+22) (some (aa.bool (decide ((r:Int)≥97)))=some (aa.bool true)∧some (aa.bool (decide ((r:Int)≤122)))=some (aa.bool false)∧bd (H.U) (H2.U+37) (some (aa.bool (decide ((r:Int)≥92)))=some (aa.bool true)∧some (aa.bool (decide ((r:Int)≤95)))=some (aa.bool false)∧bd (H.U) (H2.U+44) ((-9223372036854775808≤(r:Int)∧(r:Int)≤9223372036854775807)∧(-9223372036854775808≤(m:Int)∧(m:Int)≤9223372036854775807)∧(-9223372036854775808≤(m:Int)+1∧(m:Int)+1≤9223372036854775807)∧bN env dF (H2.U+49) (bD [(37,.int .i64 ((m:Int)+1)),(36,.int .i64 (m:Int)),(35,.int .u8 (m:Int)),(34,.int .i64 (r:Int)),(33,.int .i32 (r:Int)),(61,.bool false),(67,.bool false),(66,.bool false),(65,.int .i32 (r:Int)),(64,.bool true),(63,.bool true),(62,.int .i32 (r:Int)),(43,.bool false),(57,.bool false),(56,.tuple []),(55,.tuple []),(54,.bool false),(53,.bool false),(52,.tuple []),(51,.tuple []),(50,.bool false),(49,.bool false),(48,.bool false),(47,.int .i32 (r:Int)),(46,.bool true),(45,.bool true),(44,.int .i32 (r:Int)),(40,.bool false),(42,.bool false),(41,.int .i32 (r:Int)),(6,.int .u8 0),(29,.bool true),(32,.bool true),(31,.int .u8 (dO .u8 (m:Int) (2))),(30,.int .u8 (m:Int)),(15,.bool false),(25,.bool false),(24,.tuple []),(23,.tuple []),(22,.bool false),(21,.bool false),(20,.tuple []),(19,.tuple []),(18,.bool false),(17,.bool false),(16,.int .u8 (m:Int)),(11,.bool false),(13,.bool false),(12,.int .u8 (m:Int)),(5,.slice (cm x) k k),(10,.slice (cm x) k k),(9,.str s),(8,(lh q)),(7,.int .i32 (r:Int)),(4,.slice none 0 0),(0,.int .i32 (r:Int)),(1,.int .u8 (m:Int))]) (J.mk (H2.U+52) (H2.2)) (Op.buildSlice 102 2 {toList:=[(0,Operand.tmp 34),(1,Operand.tmp 37)]})=some ((j9 y),aX)∧ca 44 [.str [117],(j9 y)] aX v bO∧bC (H.U) (bO.U) (ae v bO)))))))))))) :
 b4 42 [.int .i32 r,.int .u8 m] H ae :=
 b9 cx (.az (.act 1001 ((lh q)) fun x=>H1) (.az (.val 1002 (.str s)) (.az (.mm 1003 (.slice (cm x) k k) fun x=>H2) (.az (.val 2001 (.bool false)) (.az (.val 4001 (.bool false)) (ak 6001 (.az (.val 6002 (.bool true)) (.az (.val 9001 (.bool false)) (.az (.val 10001 (.bool true)) (.az (.val 10004 (.bool false)) (.az (.val 12001 (.bool true)) (.az (.val 12004 (.bool false)) (ak 8001 (ak 8003 (ak 8004 (.az (.act 8005 ((j9 y)) fun x=>aX) (.az (.act 8006 v fun x=>bO) .nil))))))))))))))))) aW
theorem QY(H:J)(B q i z:Nat)(k:Int)(m:Nat)(ae:cW→bJ→J→Prop)(aW:bd B (H.U) (((i:Int)<6→bd B (H.U+1) ((0≤(i:Int)∧(i:Int)<6)∧bM env.D 5 ⟨q,0,0+Int.toNat (i:Int),0,1⟩ (J.mk (H.U+4) (H.2))=some (.int .u8 (z:Int))∧bd B (H.U+4) (some (aa.bool (hf (z:Int) != k))=some (aa.bool true)∧bd B (H.U+8) ((-9223372036854775808≤(i:Int)+1∧(i:Int)+1≤9223372036854775807)∧ae .normal [(0,.int .i32 k),(1,.int .u8 (m:Int)),(5,.int .i64 ((m:Int)+1)),(52,.slice (cm q) 6 6),(53,.int .i64 6),(54,.int .i64 ((i:Int)+1))] (J.mk (H.U+8+2) (J.aH (J.mk (H.U+4+4) (J.aH (J.mk (H.U+1+3) (J.aH (J.mk (H.U+1) (J.aH H))))))))))))∧(¬(i:Int)<6→ae (.exit 1) [(0,.int .i32 k),(1,.int .u8 (m:Int)),(5,.int .i64 ((m:Int)+1)),(52,.slice (cm q) 6 6),(53,.int .i64 6),(54,.int .i64 (i:Int))] (J.mk (H.U+1) (J.aH H))))) :
 ∃e aU ac,dc B 111 (cs 43 0) [(0,.int .i32 k),(1,.int .u8 m),(5,.int .i64 (m+1)),(52,.slice (cm q) 6 6),(53,.int .i64 6),(54,.int .i64 i)] H e aU ac∧ae e aU ac :=
 fP eN mixed cx (hs:= .aI 12000 (ak 13000 (.az (.val 13001 (.int .u8 (z:Int))) (.az (.val 14003 (.bool true)) (ak 18000 .nil)))) .nil) (keep:=[0,1,5,52,53,54]) ay aW
abbrev QZ(H:J):J:=(J.mk (H.U+10+3) (J.aH (J.mk (H.U+2+8) (J.aH (J.mk (H.U+2) (J.aH H))))))
theorem Q0(H:J)(B i:Nat)(k:Int)(m:Nat)(ae:cW→bJ→J→Prop)(aW:bd B (H.U) (((i:Int)≤24→bd B (H.U+2) ((0<k→some (aa.bool (hH (i:Int) == k))=some (aa.bool false)∧bd B (H.U+10) ((-9223372036854775808≤(i:Int)+1∧(i:Int)+1≤9223372036854775807)∧ae .normal [(0,.int .i32 k),(1,.int .u8 (m:Int)),(5,.int .i64 ((m:Int)+1)),(9,.int .i64 ((i:Int)+1))] (QZ H)))∧(¬0<k→bd B (H.U+10) ((-9223372036854775808≤(i:Int)+1∧(i:Int)+1≤9223372036854775807)∧ae .normal [(0,.int .i32 k),(1,.int .u8 (m:Int)),(5,.int .i64 ((m:Int)+1)),(9,.int .i64 ((i:Int)+1))] (QZ H)))))∧(¬(i:Int)≤24→ae (.exit 3) [(0,.int .i32 k),(1,.int .u8 (m:Int)),(5,.int .i64 ((m:Int)+1)),(9,.int .i64 (i:Int))] (J.mk (H.U+2) (J.aH H))))) :
 ∃e aU ac,dc B 111 (cs 43 1) [(0,.int .i32 k),(1,.int .u8 m),(5,.int .i64 (m+1)),(9,.int .i64 i)] H e aU ac∧ae e aU ac :=
 fP eN mixed cx (hs:= .aI 22001 (.aI 24001 (.az (.val 24006 (.bool false)) (ak 23001 .nil)) (ak 23001 .nil)) .nil) (keep:=[0,1,5,9]) ay aW
abbrev kL(q:Nat):aa:=aa.slice (cm q) 6 6
abbrev zk(aX:J)(m:Nat)(k:Int):c':=(.az (.loop [(0,.int .i32 k),(1,.int .u8 (m:Int)),(5,.int .i64 ((m:Int)+1)),(9,.int .i64 25)] aX (.exit 3)) .nil)
theorem adt(H H1 H2 aX:J)(q m:Nat)(k:Int)(gm:aa)(ae:bI)(aW:bd (H.U) (H.U) (bd (H.U) (H.U+1) ((-9223372036854775808≤(m:Int)∧(m:Int)≤9223372036854775807)∧(-9223372036854775808≤(m:Int)+1∧(m:Int)+1≤9223372036854775807)∧bd (H.U) (H.U+5) (some (aa.bool (decide (k≥1)))=some (aa.bool false)∧bd (H.U) (H.U+11) (bN env dF (H.U+11) (bD [(18,.bool false),(17,.tuple []),(16,.tuple []),(15,.bool false),(14,.bool false),(13,.int .i32 k),(5,.int .i64 ((m:Int)+1)),(12,.int .i64 ((m:Int)+1)),(11,.int .i64 (m:Int)),(10,.int .u8 (m:Int)),(4,.slice none 0 0),(0,.int .i32 k),(1,.int .u8 (m:Int))]) (J.mk (H.U+15) (H.2)) (Op.buildSlice 34 6 {toList:=[(0,Operand.const (Value.int .u8 (65))),(1,Operand.const (Value.int .u8 (66))),(2,Operand.const (Value.int .u8 (67))),(3,Operand.const (Value.int .u8 (68))),(4,Operand.const (Value.int .u8 (72))),(5,Operand.const (Value.int .u8 (70)))]})=some ((kL q),H1)∧e7 env (H.U+12) (bD [(51,(kL q)),(18,.bool false),(17,.tuple []),(16,.tuple []),(15,.bool false),(14,.bool false),(13,.int .i32 k),(5,.int .i64 ((m:Int)+1)),(12,.int .i64 ((m:Int)+1)),(11,.int .i64 (m:Int)),(10,.int .u8 (m:Int)),(4,.slice none 0 0),(0,.int .i32 k),(1,.int .u8 (m:Int))]) H1 (Op.convert 34 34 (Operand.tmp 51))=some ((kL q),H1)∧dc (H.U) 111 (Code.loop (cs 43 0)) [(0,.int .i32 k),(1,.int .u8 (m:Int)),(5,.int .i64 ((m:Int)+1)),(52,(kL q)),(53,.int .i64 6),(54,.int .i64 0)] H1 (.exit 1) [(0,.int .i32 k),(1,.int .u8 (m:Int)),(5,.int .i64 ((m:Int)+1)),(52,(kL q)),(53,.int .i64 6),(54,gm)] H2∧bd (H.U) (H2.U) (((m:Int)=0→some (aa.bool (decide (k≥21)))=some (aa.bool false)∧bd (H.U) (H2.U+10) (dc (H.U) 111 (Code.loop (cs 43 1)) [(0,.int .i32 k),(1,.int .u8 (m:Int)),(5,.int .i64 ((m:Int)+1)),(9,.int .i64 2)] (J.mk (H2.U+10+1) (J.aH (J.mk (H2.U+10) (J.aH H2)))) (.exit 3) [(0,.int .i32 k),(1,.int .u8 (m:Int)),(5,.int .i64 ((m:Int)+1)),(9,.int .i64 25)] aX∧bd (H.U) (aX.U) (bC (H.U) (aX.U+1) (ae (.slice none 0 0) (J.mk (aX.U+1) (J.aH aX))))))∧(¬(m:Int)=0→bd (H.U) (H2.U+10) (dc (H.U) 111 (Code.loop (cs 43 1)) [(0,.int .i32 k),(1,.int .u8 (m:Int)),(5,.int .i64 ((m:Int)+1)),(9,.int .i64 2)] (J.mk (H2.U+10+1) (J.aH (J.mk (H2.U+10) (J.aH H2)))) (.exit 3) [(0,.int .i32 k),(1,.int .u8 (m:Int)),(5,.int .i64 ((m:Int)+1)),(9,.int .i64 25)] aX∧bd (H.U) (aX.U) (bC (H.U) (aX.U+1) (ae (.slice none 0 0) (J.mk (aX.U+1) (J.aH aX)))))))))))) :
 b4 43 [.int .i32 k,.int .u8 m] H ae :=
 b9 cx (ak 1001 (ak 1002 (.az (.val 2001 (.bool false)) (.az (.act 11000 ((kL q)) fun x=>H1) (.az (.mm 11001 ((kL q)) fun h=>h) (.az (.keep [0,1,5,52,53,54]) (.az (.loop [(0,.int .i32 k),(1,.int .u8 (m:Int)),(5,.int .i64 ((m:Int)+1)),(52,(kL q)),(53,.int .i64 6),(54,gm)] H2 (.exit 1)) (.aI 19001 (.az (.val 19004 (.bool false)) (.az (.keep [0,1,5,9]) (zk aX m k))) (.az (.keep [0,1,5,9]) (zk aX m k)))))))))) aW
abbrev JA(H2:J):J:=(J.mk (H2.U+10+1) (J.aH (J.mk (H2.U+10) (J.aH H2))))
theorem adu(H H1 H2 aX:J)(q m:Nat)(k:Int)(gm:aa)(ae:bI)(aW:bd (H.U) (H.U) (bd (H.U) (H.U+1) ((-9223372036854775808≤(m:Int)∧(m:Int)≤9223372036854775807)∧(-9223372036854775808≤(m:Int)+1∧(m:Int)+1≤9223372036854775807)∧bd (H.U) (H.U+5) (some (aa.bool (decide (k≥1)))=some (aa.bool true)∧some (aa.bool (decide (k≤4)))=some (aa.bool false)∧bd (H.U) (H.U+11) (bN env dF (H.U+11) (bD [(18,.bool false),(17,.bool false),(16,.int .i32 k),(15,.bool true),(14,.bool true),(13,.int .i32 k),(5,.int .i64 ((m:Int)+1)),(12,.int .i64 ((m:Int)+1)),(11,.int .i64 (m:Int)),(10,.int .u8 (m:Int)),(4,.slice none 0 0),(0,.int .i32 k),(1,.int .u8 (m:Int))]) (J.mk (H.U+15) (H.2)) (Op.buildSlice 34 6 {toList:=[(0,Operand.const (Value.int .u8 (65))),(1,Operand.const (Value.int .u8 (66))),(2,Operand.const (Value.int .u8 (67))),(3,Operand.const (Value.int .u8 (68))),(4,Operand.const (Value.int .u8 (72))),(5,Operand.const (Value.int .u8 (70)))]})=some ((kL q),H1)∧e7 env (H.U+12) (bD [(51,(kL q)),(18,.bool false),(17,.bool false),(16,.int .i32 k),(15,.bool true),(14,.bool true),(13,.int .i32 k),(5,.int .i64 ((m:Int)+1)),(12,.int .i64 ((m:Int)+1)),(11,.int .i64 (m:Int)),(10,.int .u8 (m:Int)),(4,.slice none 0 0),(0,.int .i32 k),(1,.int .u8 (m:Int))]) H1 (Op.convert 34 34 (Operand.tmp 51))=some ((kL q),H1)∧dc (H.U) 111 (Code.loop (cs 43 0)) [(0,.int .i32 k),(1,.int .u8 (m:Int)),(5,.int .i64 ((m:Int)+1)),(52,(kL q)),(53,.int .i64 6),(54,.int .i64 0)] H1 (.exit 1) [(0,.int .i32 k),(1,.int .u8 (m:Int)),(5,.int .i64 ((m:Int)+1)),(52,(kL q)),(53,.int .i64 6),(54,gm)] H2∧bd (H.U) (H2.U) (((m:Int)=0→(21≤k→some (aa.bool (decide (k<25)))=some (aa.bool false)∧bd (H.U) (H2.U+10) (dc (H.U) 111 (Code.loop (cs 43 1)) [(0,.int .i32 k),(1,.int .u8 (m:Int)),(5,.int .i64 ((m:Int)+1)),(9,.int .i64 2)] (JA H2) (.exit 3) [(0,.int .i32 k),(1,.int .u8 (m:Int)),(5,.int .i64 ((m:Int)+1)),(9,.int .i64 25)] aX∧bd (H.U) (aX.U) (bC (H.U) (aX.U+1) (ae (.slice none 0 0) (J.mk (aX.U+1) (J.aH aX))))))∧(¬21≤k→bd (H.U) (H2.U+10) (dc (H.U) 111 (Code.loop (cs 43 1)) [(0,.int .i32 k),(1,.int .u8 (m:Int)),(5,.int .i64 ((m:Int)+1)),(9,.int .i64 2)] (JA H2) (.exit 3) [(0,.int .i32 k),(1,.int .u8 (m:Int)),(5,.int .i64 ((m:Int)+1)),(9,.int .i64 25)] aX∧bd (H.U) (aX.U) (bC (H.U) (aX.U+1) (ae (.slice none 0 0) (J.mk (aX.U+1) (J.aH aX)))))))∧(¬(m:Int)=0→bd (H.U) (H2.U+10) (dc (H.U) 111 (Code.loop (cs 43 1)) [(0,.int .i32 k),(1,.int .u8 (m:Int)),(5,.int .i64 ((m:Int)+1)),(9,.int .i64 2)] (JA H2) (.exit 3) [(0,.int .i32 k),(1,.int .u8 (m:Int)),(5,.int .i64 ((m:Int)+1)),(9,.int .i64 25)] aX∧bd (H.U) (aX.U) (bC (H.U) (aX.U+1) (ae (.slice none 0 0) (J.mk (aX.U+1) (J.aH aX)))))))))))) :
 b4 43 [.int .i32 k,.int .u8 m] H ae :=
 b9 cx (ak 1001 (ak 1002 (.az (.val 2001 (.bool true)) (.az (.val 2004 (.bool false)) (.az (.act 11000 ((kL q)) fun x=>H1) (.az (.mm 11001 ((kL q)) fun h=>h) (.az (.keep [0,1,5,52,53,54]) (.az (.loop [(0,.int .i32 k),(1,.int .u8 (m:Int)),(5,.int .i64 ((m:Int)+1)),(52,(kL q)),(53,.int .i64 6),(54,gm)] H2 (.exit 1)) (.aI 19001 (.aI 19004 (.az (.val 19008 (.bool false)) (.az (.keep [0,1,5,9]) (zk aX m k))) (.az (.keep [0,1,5,9]) (zk aX m k))) (.az (.keep [0,1,5,9]) (zk aX m k))))))))))) aW
abbrev bB(k c m x y:Int)(t:Bytes):aa:= .agg [.int .i8 k,.int .i32 c,.int .u8 m,.int .i64 x,.int .i64 y,.str t]
theorem adv(H:J)(c m x y:Int)(t:Bytes)(a:bA)(n:Nat)(ae:bI)(aW:ca 40 [.agg [.int .i8 3,.int .i32 c,.int .u8 m,.int .i64 x,.int .i64 y,.str t]] (J.ar 18 [(0,af.an [.agg [.int .i8 3,.int .i32 c,.int .u8 m,.int .i64 x,.int .i64 y,.str t]] 6 true (some (42,6))),(4,(af.an ([.agg [.int .i8 3,.int .i32 0,.int .u8 0,.int .i64 x,.int .i64 y,.str t]]) 6 true (some (42,6))))]) (.slice (some a) n n) H∧ae (.tuple [.slice (some a) n n,.int .i64 0]) (J.mk (H.U+2+3) (J.aH (J.mk (H.U+2) (J.aH H))))) :
 b4 21 [bB 3 c m x y t] (⟨0,.nil⟩) ae :=
 b9 cx (.az (.act 5001 (.slice (some a) n n) fun x=>H) .nil) aW
theorem adw(H:J)(c m x y:Int)(t:Bytes)(ae:bI)(aW:ca 40 [.agg [.int .i8 3,.int .i32 c,.int .u8 m,.int .i64 x,.int .i64 y,.str t]] (J.ar 18 [(0,af.an [.agg [.int .i8 3,.int .i32 c,.int .u8 m,.int .i64 x,.int .i64 y,.str t]] 6 true (some (42,6))),(4,(af.an ([.agg [.int .i8 3,.int .i32 0,.int .u8 0,.int .i64 x,.int .i64 y,.str t]]) 6 true (some (42,6))))]) (.slice none 0 0) H∧ae (.tuple [.slice none 0 0,.int .i64 220]) (J.mk (H.U+2+2) (J.aH (J.mk (H.U+2) (J.aH H))))) :
 b4 21 [bB 3 c m x y t] (⟨0,.nil⟩) ae :=
 b9 cx (.az (.act 5001 (.slice none 0 0) fun x=>H) .nil) aW
theorem adx(k c m x y:Int)(t:Bytes)(ae:bI)(aW:some (aa.bool (k == 3))=some (aa.bool false)∧some (aa.bool (decide (m>7)))=some (aa.bool true)∧ae (.tuple [.slice none 0 0,.int .i64 220]) (J.ar 23 [(0,af.an [.agg [.int .i8 k,.int .i32 c,.int .u8 m,.int .i64 x,.int .i64 y,.str t]] 6 true (some (42,6))),(4,(af.an ([.agg [.int .i8 k,.int .i32 0,.int .u8 0,.int .i64 x,.int .i64 y,.str t]]) 6 true (some (42,6))))])) :
 b4 21 [bB k c m x y t] (⟨0,.nil⟩) ae :=
 b9 cx (.az (.val 4002 (.bool false)) (.az (.val 6002 (.bool true)) .nil)) aW
abbrev vZ(c m:Int):aa:=aa.agg [.int .i8 1,.int .i32 c,.int .u8 m,.int .i64 0,.int .i64 0,.str []]
abbrev JB:aa:=aa.agg [.int .i8 1,.int .i32 0,.int .u8 0,.int .i64 0,.int .i64 0,.str []]
abbrev C6(c m:Int):J:=(J.ar 33 [(0,af.an [(vZ c m)] 6 true (some (42,6))),(4,(af.an ([JB]) 6 true (some (42,6))))])
theorem ady(H:J)(c m:Int)(a:bA)(n:Nat)(ae:bI)(aW:some (aa.bool (decide (m>7)))=some (aa.bool false)∧ca 41 [.int .i32 c] (C6 c m) (.bool true) (C6 c m)∧ca 42 [.int .i32 c,.int .u8 m] (J.ar 39 [(0,af.an [(vZ c m)] 6 true (some (42,6))),(4,(af.an ([JB]) 6 true (some (42,6))))]) (.slice (some a) n n) H∧ae (.tuple [.slice (some a) n n,.int .i64 0]) (J.mk (H.U+2+3) (J.aH (J.mk (H.U+2) (J.aH H))))) :
 b4 21 [bB 1 c m 0 0 []] (⟨0,.nil⟩) ae :=
 b9 cx (.az (.val 6002 (.bool false)) (.az (.val 7011 (.bool true)) (.az (.act 8004 (.slice (some a) n n) fun x=>H) .nil))) aW
theorem adz(c m x y:Int)(t:Bytes)(ae:bI)(aW:some (aa.bool (decide (m>7)))=some (aa.bool false)∧some (aa.bool (1 == 1&&(0 == 0&&(0 == 0&&(x == 0&&(y == 0&&(t ==[]&&true)))))))=some (aa.bool false)∧ae (.tuple [.slice none 0 0,.int .i64 220]) (J.ar 84 [(0,af.an [.agg [.int .i8 1,.int .i32 c,.int .u8 m,.int .i64 x,.int .i64 y,.str t]] 6 true (some (42,6))),(4,(af.an ([.agg [.int .i8 1,.int .i32 0,.int .u8 0,.int .i64 x,.int .i64 y,.str t]]) 6 true (some (42,6))))])) :
 b4 21 [bB 1 c m x y t] (⟨0,.nil⟩) ae :=
 b9 cx (.az (.val 6002 (.bool false)) (.az (.val 7006 (.bool false)) .nil)) aW
theorem adA(c m:Int)(ae:bI)(aW:some (aa.bool (decide (m>7)))=some (aa.bool false)∧ca 41 [.int .i32 c] (C6 c m) (.bool false) (C6 c m)∧ae (.tuple [.slice none 0 0,.int .i64 220]) (J.ar 84 [(0,af.an [(vZ c m)] 6 true (some (42,6))),(4,(af.an ([JB]) 6 true (some (42,6))))])) :
 b4 21 [bB 1 c m 0 0 []] (⟨0,.nil⟩) ae :=
 b9 cx (.az (.val 6002 (.bool false)) (.az (.val 7011 (.bool false)) .nil)) aW
theorem adB(H:J)(c m:Int)(a:bA)(n:Nat)(ae:bI)(aW:some (aa.bool (decide (m>7)))=some (aa.bool false)∧ca 43 [.int .i32 c,.int .u8 m] (J.ar 48 [(0,af.an [.agg [.int .i8 2,.int .i32 c,.int .u8 m,.int .i64 0,.int .i64 0,.str []]] 6 true (some (42,6))),(4,(af.an ([.agg [.int .i8 2,.int .i32 0,.int .u8 0,.int .i64 0,.int .i64 0,.str []]]) 6 true (some (42,6))))]) (.slice (some a) n n) H∧ae (.tuple [.slice (some a) n n,.int .i64 0]) (J.mk (H.U+2+3) (J.aH (J.mk (H.U+2) (J.aH H))))) :
 b4 21 [bB 2 c m 0 0 []] (⟨0,.nil⟩) ae :=
 b9 cx (.az (.val 6002 (.bool false)) (.az (.act 10004 (.slice (some a) n n) fun x=>H) .nil)) aW
theorem adC(H:J)(c m:Int)(ae:bI)(aW:some (aa.bool (decide (m>7)))=some (aa.bool false)∧ca 43 [.int .i32 c,.int .u8 m] (J.ar 48 [(0,af.an [.agg [.int .i8 2,.int .i32 c,.int .u8 m,.int .i64 0,.int .i64 0,.str []]] 6 true (some (42,6))),(4,(af.an ([.agg [.int .i8 2,.int .i32 0,.int .u8 0,.int .i64 0,.int .i64 0,.str []]]) 6 true (some (42,6))))]) (.slice none 0 0) H∧ae (.tuple [.slice none 0 0,.int .i64 220]) (J.mk (H.U+2+2) (J.aH (J.mk (H.U+2) (J.aH H))))) :
 b4 21 [bB 2 c m 0 0 []] (⟨0,.nil⟩) ae :=
 b9 cx (.az (.val 6002 (.bool false)) (.az (.act 10004 (.slice none 0 0) fun x=>H) .nil)) aW
theorem adD(c m x y:Int)(t:Bytes)(ae:bI)(aW:some (aa.bool (decide (m>7)))=some (aa.bool false)∧some (aa.bool (2 == 2&&(0 == 0&&(0 == 0&&(x == 0&&(y == 0&&(t ==[]&&true)))))))=some (aa.bool false)∧ae (.tuple [.slice none 0 0,.int .i64 220]) (J.ar 84 [(0,af.an [.agg [.int .i8 2,.int .i32 c,.int .u8 m,.int .i64 x,.int .i64 y,.str t]] 6 true (some (42,6))),(4,(af.an ([.agg [.int .i8 2,.int .i32 0,.int .u8 0,.int .i64 x,.int .i64 y,.str t]]) 6 true (some (42,6))))])) :
 b4 21 [bB 2 c m x y t] (⟨0,.nil⟩) ae :=
 b9 cx (.az (.val 6002 (.bool false)) (.az (.val 9006 (.bool false)) .nil)) aW
theorem adE(H:J)(a:bA)(n:Nat)(ae:bI)(aW:ca 44 [.str [79],.slice none 0 0] (J.ar 48 [(0,af.an [qI] 6 true (some (42,6))),(4,(af.an ([qI]) 6 true (some (42,6))))]) (.slice (some a) n n) H∧ae (.tuple [.slice (some a) n n,.int .i64 0]) (J.mk (H.U+2+3) (J.aH (J.mk (H.U+2) (J.aH H))))) :
 b4 21 [bB 5 0 0 0 0 []] (⟨0,.nil⟩) ae :=
 b9 cx (.az (.act 12000 (.slice (some a) n n) fun x=>H) .nil) aW
theorem adF(H:J)(a:bA)(n:Nat)(ae:bI)(aW:ca 44 [.str [73],.slice none 0 0] (J.ar 52 [(0,af.an [tN] 6 true (some (42,6))),(4,(af.an ([qI]) 6 true (some (42,6))))]) (.slice (some a) n n) H∧ae (.tuple [.slice (some a) n n,.int .i64 0]) (J.mk (H.U+2+3) (J.aH (J.mk (H.U+2) (J.aH H))))) :
 b4 21 [bB 5 1 0 0 0 []] (⟨0,.nil⟩) ae :=
 b9 cx (.az (.act 14000 (.slice (some a) n n) fun x=>H) .nil) aW
theorem adG(c m x y:Int)(t:Bytes)(ae:bI)(aW:some (aa.bool (decide (m>7)))=some (aa.bool false)∧some (aa.bool (5 == 5&&(c == 0&&(m == 0&&(x == 0&&(y == 0&&(t ==[]&&true)))))))=some (aa.bool false)∧some (aa.bool (5 == 5&&(c == 1&&(m == 0&&(x == 0&&(y == 0&&(t ==[]&&true)))))))=some (aa.bool false)∧ae (.tuple [.slice none 0 0,.int .i64 220]) (J.ar 84 [(0,af.an [.agg [.int .i8 5,.int .i32 c,.int .u8 m,.int .i64 x,.int .i64 y,.str t]] 6 true (some (42,6))),(4,(af.an ([.agg [.int .i8 5,.int .i32 0,.int .u8 0,.int .i64 x,.int .i64 y,.str t]]) 6 true (some (42,6))))])) :
 b4 21 [bB 5 c m x y t] (⟨0,.nil⟩) ae :=
 b9 cx (.az (.val 6002 (.bool false)) (.az (.val 11002 (.bool false)) (.az (.val 13002 (.bool false)) .nil))) aW
abbrev su(t:Bytes):aa:=aa.agg [.int .i8 4,.int .i32 0,.int .u8 0,.int .i64 0,.int .i64 0,.str t]
abbrev ua(t:Bytes):af:=(af.an ([(su t)]) 6 true (some (42,6)))
abbrev Q1(t:Bytes):J:=(J.ar 75 [(0,af.an [(su t)] 6 true (some (42,6))),(4,(ua t)),(68,af.an [.int .i64 200] 1 true)])
theorem adH(H H1:J)(t:Bytes)(a a2:bA)(n n2:Nat)(ae:bI)(aW:some (aa.bool (4 == 4&&(0 == 0&&(0 == 0&&(0 == 0&&(0 == 0&&(t == t&&true)))))))=some (aa.bool true)∧some (aa.bool (decide ((↑(List.length t):Int)≤65536)))=some (aa.bool true)∧ca 45 [.str t,.str [27,91,50,48,49,126]] (J.ar 68 [(0,af.an [(su t)] 6 true (some (42,6))),(4,(ua t))]) (.bool false) (J.ar 68 [(0,af.an [(su t)] 6 true (some (42,6))),(4,(ua t))])∧ca 44 [.str [126],.slice (cm 68) 1 1] (Q1 t) (.slice (some a) n n) H∧pT 75 (Q1 t) H=true∧bM env.D 9 ⟨0,0,0,5,6⟩ H=some (aa.str t)∧Nat.le (Nat.succ (List.length t+List.length (Array.toList (ByteArray.data {data:= #[27,91,50,48,49,126]})))) (2^62)∧hC env Builtin.append {toList:=[34,9]} [.slice (some a) n n,.str (t++[(27:UInt8),(91:UInt8),(50:UInt8),(48:UInt8),(49:UInt8),(126:UInt8)])] 73 H=some (aa.slice (some a2) n2 n2,H1)∧(bA.id a<68∨75≤bA.id a)∧ae (.tuple [.slice (some a2) n2 n2,.int .i64 0]) (J.mk (H1.U+2+3) (J.aH (J.mk (H1.U+2) (J.aH H1))))) :
 b4 21 [bB 4 0 0 0 0 t] (⟨0,.nil⟩) ae :=
 b9 cx (.az (.val 15004 (.bool true)) (.az (.val 15009 (.bool true)) (.az (.val 15014 (.bool false)) (.az (.act 16001 (.slice (some a) n n) fun x=>H) (.az (.val 16003 (.str t)) (ak 16004 (.az (.FB 16005 (.slice (some a2) n2 n2) fun x=>H1) .nil))))))) aW
theorem adI(c m x y:Int)(t:Bytes)(ae:bI)(aW:some (aa.bool (decide (m>7)))=some (aa.bool false)∧some (aa.bool (4 == 4&&(c == 0&&(m == 0&&(x == 0&&(y == 0&&(t == t&&true)))))))=some (aa.bool false)∧ae (.tuple [.slice none 0 0,.int .i64 220]) (J.ar 84 [(0,af.an [.agg [.int .i8 4,.int .i32 c,.int .u8 m,.int .i64 x,.int .i64 y,.str t]] 6 true (some (42,6))),(4,(af.an ([.agg [.int .i8 4,.int .i32 0,.int .u8 0,.int .i64 x,.int .i64 y,.str t]]) 6 true (some (42,6))))])) :
 b4 21 [bB 4 c m x y t] (⟨0,.nil⟩) ae :=
 b9 cx (.az (.val 6002 (.bool false)) (.az (.val 15004 (.bool false)) .nil)) aW
theorem adJ(t:Bytes)(ae:bI)(aW:some (aa.bool (4 == 4&&(0 == 0&&(0 == 0&&(0 == 0&&(0 == 0&&(t == t&&true)))))))=some (aa.bool true)∧some (aa.bool (decide ((↑(List.length t):Int)≤65536)))=some (aa.bool false)∧ae (.tuple [.slice none 0 0,.int .i64 220]) (J.ar 84 [(0,af.an [(su t)] 6 true (some (42,6))),(4,(ua t))])) :
 b4 21 [bB 4 0 0 0 0 t] (⟨0,.nil⟩) ae :=
 b9 cx (.az (.val 15004 (.bool true)) (.az (.val 15009 (.bool false)) .nil)) aW
theorem adK(t:Bytes)(ae:bI)(aW:some (aa.bool (4 == 4&&(0 == 0&&(0 == 0&&(0 == 0&&(0 == 0&&(t == t&&true)))))))=some (aa.bool true)∧some (aa.bool (decide ((↑(List.length t):Int)≤65536)))=some (aa.bool true)∧ca 45 [.str t,.str [27,91,50,48,49,126]] (J.ar 68 [(0,af.an [(su t)] 6 true (some (42,6))),(4,(ua t))]) (.bool true) (J.ar 68 [(0,af.an [(su t)] 6 true (some (42,6))),(4,(ua t))])∧ae (.tuple [.slice none 0 0,.int .i64 220]) (J.ar 84 [(0,af.an [(su t)] 6 true (some (42,6))),(4,(ua t))])) :
 b4 21 [bB 4 0 0 0 0 t] (⟨0,.nil⟩) ae :=
 b9 cx (.az (.val 15004 (.bool true)) (.az (.val 15009 (.bool true)) (.az (.val 15014 (.bool true)) .nil))) aW
abbrev li(t:Bytes):aa:=aa.agg [.int .i8 6,.int .i32 0,.int .u8 0,.int .i64 0,.int .i64 0,.str t]
theorem adL(H1 H2 aX bO dC:J)(t:Bytes)(d n zl:Nat)(a:bA)(bb:Option bA)(ae:bI)(aW:some (aa.bool (6 == 6&&(0 == 0&&(0 == 0&&(0 == 0&&(0 == 0&&(t == t&&true)))))))=some (aa.bool true)∧some (aa.bool (decide ((↑(List.length t):Int)≤62)))=some (aa.bool true)∧ca 14 [] (J.ar 82 [(0,af.an [(li t)] 6 true (some (42,6))),(4,(af.an ([(li t)]) 6 true (some (42,6))))]) (.ptr (aJ d)) H1∧bM env.D 9 ⟨0,0,0,5,6⟩ (J.mk (H1.U+6) (H1.2))=some (aa.str t)∧ca 44 [.str t,.slice none 0 0] (J.mk (H1.U+6) (H1.2)) (.slice (some a) n n) H2∧ca 26 [.ptr (aJ d),.slice (some a) n n] H2 (.slice bb zl zl) aX∧some (aa.bool ((zl:Int) == 1))=some (aa.bool false)∧ae (.tuple [.slice none 0 0,.int .i64 220]) (J.mk (aX.U+17+2) (J.aH (J.mk (aX.U+15+2) (J.aH (J.mk (aX.U+15) (J.aH aX))))))) :
 b4 21 [bB 6 0 0 0 0 t] (⟨0,.nil⟩) ae :=
 b9 cx (.az (.val 17004 (.bool true)) (.az (.val 17009 (.bool true)) (.az (.act 18000 (.ptr (aJ d)) fun x=>H1) (.az (.val 19002 (.str t)) (.az (.act 19003 (.slice (some a) n n) fun x=>H2) (.az (.act 19004 (.slice bb zl zl) fun x=>aX) (.az (.val 20002 (.bool false)) .nil))))))) aW
theorem adM(H1 H2 aX bO dC:J)(t:Bytes)(d n l ia:Nat)(a a2:bA)(n2:Nat)(k c m x y:Int)(t2:Bytes)(ae:bI)(aW:some (aa.bool (6 == 6&&(0 == 0&&(0 == 0&&(0 == 0&&(0 == 0&&(t == t&&true)))))))=some (aa.bool true)∧some (aa.bool (decide ((↑(List.length t):Int)≤62)))=some (aa.bool true)∧ca 14 [] (J.ar 82 [(0,af.an [(li t)] 6 true (some (42,6))),(4,(af.an ([(li t)]) 6 true (some (42,6))))]) (.ptr (aJ d)) H1∧bM env.D 9 ⟨0,0,0,5,6⟩ (J.mk (H1.U+6) (H1.2))=some (aa.str t)∧ca 44 [.str t,.slice none 0 0] (J.mk (H1.U+6) (H1.2)) (.slice (some a) n n) H2∧ca 26 [.ptr (aJ d),.slice (some a) n n] H2 (.slice (some ⟨l,ia,0,0,6⟩) 1 1) aX∧bM env.D 42 ⟨l,ia,0,0,6⟩ (J.mk (aX.U+15) (aX.2))=some (aa.agg [.int .i8 k,.int .i32 c,.int .u8 m,.int .i64 x,.int .i64 y,.str t2])∧l<aX.U∧bM env.D 42 ⟨0,0,0,0,6⟩ (J.mk (aX.U+15) (aX.2))=some ((li t))∧0<aX.U∧some (aa.bool (k == 6&&(c == 0&&(m == 0&&(x == 0&&(y == 0&&(t2 == t&&true)))))))=some (aa.bool false)∧ae (.tuple [.slice none 0 0,.int .i64 220]) (J.mk (aX.U+17+2) (J.aH (J.mk (aX.U+15+2) (J.aH (J.mk (aX.U+15) (J.aH aX))))))) :
 b4 21 [bB 6 0 0 0 0 t] (⟨0,.nil⟩) ae :=
 b9 cx (.az (.val 17004 (.bool true)) (.az (.val 17009 (.bool true)) (.az (.act 18000 (.ptr (aJ d)) fun x=>H1) (.az (.val 19002 (.str t)) (.az (.act 19003 (.slice (some a) n n) fun x=>H2) (.az (.act 19004 (.slice (some ⟨l,ia,0,0,6⟩) 1 1) fun x=>aX) (.az (.k4 20006 (bB k c m x y t2)) (.az (.k4 20007 (bB 6 0 0 0 0 t)) (.az (.val 20008 (.bool false)) .nil))))))))) aW
theorem adN(H1 H2 aX bO dC:J)(t:Bytes)(d n l ia:Nat)(a a2:bA)(n2:Nat)(w:aa)(bh:Int)(ae:bI)(aW:some (aa.bool (6 == 6&&(0 == 0&&(0 == 0&&(0 == 0&&(0 == 0&&(t == t&&true)))))))=some (aa.bool true)∧some (aa.bool (decide ((↑(List.length t):Int)≤62)))=some (aa.bool true)∧ca 14 [] (J.ar 82 [(0,af.an [(li t)] 6 true (some (42,6))),(4,(af.an ([(li t)]) 6 true (some (42,6))))]) (.ptr (aJ d)) H1∧bM env.D 9 ⟨0,0,0,5,6⟩ (J.mk (H1.U+6) (H1.2))=some (aa.str t)∧ca 44 [.str t,.slice none 0 0] (J.mk (H1.U+6) (H1.2)) (.slice (some a) n n) H2∧ca 26 [.ptr (aJ d),.slice (some a) n n] H2 (.slice (some ⟨l,ia,0,0,6⟩) 1 1) aX∧bM env.D 42 ⟨l,ia,0,0,6⟩ (J.mk (aX.U+15) (aX.2))=some ((li t))∧l<aX.U∧bM env.D 42 ⟨0,0,0,0,6⟩ (J.mk (aX.U+15) (aX.2))=some ((li t))∧0<aX.U∧some (aa.bool (6 == 6&&(0 == 0&&(0 == 0&&(0 == 0&&(0 == 0&&(t == t&&true)))))))=some (aa.bool true)∧ca 16 [.ptr (aJ d)] (J.mk (aX.U+15) (aX.2)) (.int .i64 bh) bO∧some (aa.bool (bh == 0))=some (aa.bool false)∧ae (.tuple [.slice none 0 0,.int .i64 220]) (J.mk (bO.U+2+2) (J.aH (y8 bO)))) :
 b4 21 [bB 6 0 0 0 0 t] (⟨0,.nil⟩) ae :=
 b9 cx (.az (.val 17004 (.bool true)) (.az (.val 17009 (.bool true)) (.az (.act 18000 (.ptr (aJ d)) fun x=>H1) (.az (.val 19002 (.str t)) (.az (.act 19003 (.slice (some a) n n) fun x=>H2) (.az (.act 19004 (.slice (some ⟨l,ia,0,0,6⟩) 1 1) fun x=>aX) (.az (.k4 20006 (bB 6 0 0 0 0 t)) (.az (.k4 20007 (bB 6 0 0 0 0 t)) (.az (.val 20008 (.bool true)) (.az (.act 20012 (.int .i64 bh) fun x=>bO) (.az (.val 20013 (.bool false)) .nil))))))))))) aW
theorem adO(H1 H2 aX bO dC:J)(t:Bytes)(d n l ia:Nat)(a a2:bA)(n2:Nat)(w:aa)(bh:Int)(ae:bI)(aW:some (aa.bool (6 == 6&&(0 == 0&&(0 == 0&&(0 == 0&&(0 == 0&&(t == t&&true)))))))=some (aa.bool true)∧some (aa.bool (decide ((↑(List.length t):Int)≤62)))=some (aa.bool true)∧ca 14 [] (J.ar 82 [(0,af.an [(li t)] 6 true (some (42,6))),(4,(af.an ([(li t)]) 6 true (some (42,6))))]) (.ptr (aJ d)) H1∧bM env.D 9 ⟨0,0,0,5,6⟩ (J.mk (H1.U+6) (H1.2))=some (aa.str t)∧ca 44 [.str t,.slice none 0 0] (J.mk (H1.U+6) (H1.2)) (.slice (some a) n n) H2∧ca 26 [.ptr (aJ d),.slice (some a) n n] H2 (.slice (some ⟨l,ia,0,0,6⟩) 1 1) aX∧bM env.D 42 ⟨l,ia,0,0,6⟩ (J.mk (aX.U+15) (aX.2))=some ((li t))∧l<aX.U∧bM env.D 42 ⟨0,0,0,0,6⟩ (J.mk (aX.U+15) (aX.2))=some ((li t))∧0<aX.U∧some (aa.bool (6 == 6&&(0 == 0&&(0 == 0&&(0 == 0&&(0 == 0&&(t == t&&true)))))))=some (aa.bool true)∧ca 16 [.ptr (aJ d)] (J.mk (aX.U+15) (aX.2)) (.int .i64 0) bO∧bM env.D 9 ⟨0,0,0,5,6⟩ (J.mk (bO.U+4) (bO.2))=some (aa.str t)∧ca 44 [.str t,.slice none 0 0] (J.mk (bO.U+4) (bO.2)) (.slice (some a2) n2 n2) dC∧ae (.tuple [.slice (some a2) n2 n2,.int .i64 0]) (J.mk (dC.U+2+3) (J.aH (J.mk (dC.U+2) (J.aH dC))))) :
 b4 21 [bB 6 0 0 0 0 t] (⟨0,.nil⟩) ae :=
 b9 cx (.az (.val 17004 (.bool true)) (.az (.val 17009 (.bool true)) (.az (.act 18000 (.ptr (aJ d)) fun x=>H1) (.az (.val 19002 (.str t)) (.az (.act 19003 (.slice (some a) n n) fun x=>H2) (.az (.act 19004 (.slice (some ⟨l,ia,0,0,6⟩) 1 1) fun x=>aX) (.az (.k4 20006 (bB 6 0 0 0 0 t)) (.az (.k4 20007 (bB 6 0 0 0 0 t)) (.az (.val 20008 (.bool true)) (.az (.act 20012 (.int .i64 0) fun x=>bO) (.az (.val 21001 (.str t)) (.az (.act 21002 (.slice (some a2) n2 n2) fun x=>dC) .nil)))))))))))) aW
theorem adP(c m x y:Int)(t:Bytes)(ae:bI)(aW:some (aa.bool (decide (m>7)))=some (aa.bool false)∧some (aa.bool (6 == 6&&(c == 0&&(m == 0&&(x == 0&&(y == 0&&(t == t&&true)))))))=some (aa.bool false)∧ae (.tuple [.slice none 0 0,.int .i64 220]) (J.ar 84 [(0,af.an [.agg [.int .i8 6,.int .i32 c,.int .u8 m,.int .i64 x,.int .i64 y,.str t]] 6 true (some (42,6))),(4,(af.an ([.agg [.int .i8 6,.int .i32 0,.int .u8 0,.int .i64 x,.int .i64 y,.str t]]) 6 true (some (42,6))))])) :
 b4 21 [bB 6 c m x y t] (⟨0,.nil⟩) ae :=
 b9 cx (.az (.val 6002 (.bool false)) (.az (.val 17004 (.bool false)) .nil)) aW
theorem adQ(t:Bytes)(ae:bI)(aW:some (aa.bool (6 == 6&&(0 == 0&&(0 == 0&&(0 == 0&&(0 == 0&&(t == t&&true)))))))=some (aa.bool true)∧some (aa.bool (decide ((↑(List.length t):Int)≤62)))=some (aa.bool false)∧ae (.tuple [.slice none 0 0,.int .i64 220]) (J.ar 84 [(0,af.an [(li t)] 6 true (some (42,6))),(4,(af.an ([(li t)]) 6 true (some (42,6))))])) :
 b4 21 [bB 6 0 0 0 0 t] (⟨0,.nil⟩) ae :=
 b9 cx (.az (.val 17004 (.bool true)) (.az (.val 17009 (.bool false)) .nil)) aW
theorem adR(k c m x y:Int)(t:Bytes)(ae:bI)(aW:some (aa.bool (k == 3))=some (aa.bool false)∧some (aa.bool (decide (m>7)))=some (aa.bool false)∧some (aa.bool (k == 1))=some (aa.bool false)∧some (aa.bool (k == 2))=some (aa.bool false)∧some (aa.bool (k == 5&&(c == 0&&(m == 0&&(x == 0&&(y == 0&&(t ==[]&&true)))))))=some (aa.bool false)∧some (aa.bool (k == 5&&(c == 1&&(m == 0&&(x == 0&&(y == 0&&(t ==[]&&true)))))))=some (aa.bool false)∧some (aa.bool (k == 4&&(c == 0&&(m == 0&&(x == 0&&(y == 0&&(t == t&&true)))))))=some (aa.bool false)∧some (aa.bool (k == 6&&(c == 0&&(m == 0&&(x == 0&&(y == 0&&(t == t&&true)))))))=some (aa.bool false)∧ae (.tuple [.slice none 0 0,.int .i64 220]) (J.ar 84 [(0,af.an [.agg [.int .i8 k,.int .i32 c,.int .u8 m,.int .i64 x,.int .i64 y,.str t]] 6 true (some (42,6))),(4,(af.an ([.agg [.int .i8 k,.int .i32 0,.int .u8 0,.int .i64 x,.int .i64 y,.str t]]) 6 true (some (42,6))))])) :
 b4 21 [bB k c m x y t] (⟨0,.nil⟩) ae :=
 b9 cx (.az (.val 4002 (.bool false)) (.az (.val 6002 (.bool false)) (.az (.val 7002 (.bool false)) (.az (.val 9002 (.bool false)) (.az (.val 11002 (.bool false)) (.az (.val 13002 (.bool false)) (.az (.val 15004 (.bool false)) (.az (.val 17004 (.bool false)) .nil)))))))) aW
theorem adS(c m x y:Int)(t:Bytes)(ae:bI)(aW:some (aa.bool (decide (c<0)))=some (aa.bool true)∧ae (.slice none 0 0) (J.ar 41 [(0,af.an [.agg [.int .i8 3,.int .i32 c,.int .u8 m,.int .i64 x,.int .i64 y,.str t]] 6 true (some (42,6)))])) :
 b4 40 [bB 3 c m x y t] (⟨0,.nil⟩) ae :=
 b9 cx (.az (.val 1002 (.bool true)) .nil) aW
theorem adT(c m x y:Int)(t:Bytes)(ae:bI)(aW:some (aa.bool (decide (c<0)))=some (aa.bool false)∧some (aa.bool (decide (c>6)))=some (aa.bool true)∧ae (.slice none 0 0) (J.ar 41 [(0,af.an [.agg [.int .i8 3,.int .i32 c,.int .u8 m,.int .i64 x,.int .i64 y,.str t]] 6 true (some (42,6)))])) :
 b4 40 [bB 3 c m x y t] (⟨0,.nil⟩) ae :=
 b9 cx (.az (.val 1002 (.bool false)) (.az (.val 1006 (.bool true)) .nil)) aW
theorem adU(c m x y:Int)(t:Bytes)(ae:bI)(aW:some (aa.bool (decide (c<0)))=some (aa.bool false)∧some (aa.bool (decide (c>6)))=some (aa.bool false)∧some (aa.bool (decide (m>7)))=some (aa.bool true)∧ae (.slice none 0 0) (J.ar 41 [(0,af.an [.agg [.int .i8 3,.int .i32 c,.int .u8 m,.int .i64 x,.int .i64 y,.str t]] 6 true (some (42,6)))])) :
 b4 40 [bB 3 c m x y t] (⟨0,.nil⟩) ae :=
 b9 cx (.az (.val 1002 (.bool false)) (.az (.val 1006 (.bool false)) (.az (.val 1011 (.bool true)) .nil))) aW
theorem adV(c m x y:Int)(t:Bytes)(ae:bI)(aW:some (aa.bool (decide (c<0)))=some (aa.bool false)∧some (aa.bool (decide (c>6)))=some (aa.bool false)∧some (aa.bool (decide (m>7)))=some (aa.bool false)∧some (aa.bool (decide (x<0)))=some (aa.bool true)∧ae (.slice none 0 0) (J.ar 41 [(0,af.an [.agg [.int .i8 3,.int .i32 c,.int .u8 m,.int .i64 x,.int .i64 y,.str t]] 6 true (some (42,6)))])) :
 b4 40 [bB 3 c m x y t] (⟨0,.nil⟩) ae :=
 b9 cx (.az (.val 1002 (.bool false)) (.az (.val 1006 (.bool false)) (.az (.val 1011 (.bool false)) (.az (.val 1016 (.bool true)) .nil)))) aW
theorem adW(c m x y:Int)(t:Bytes)(ae:bI)(aW:some (aa.bool (decide (c<0)))=some (aa.bool false)∧some (aa.bool (decide (c>6)))=some (aa.bool false)∧some (aa.bool (decide (m>7)))=some (aa.bool false)∧some (aa.bool (decide (x<0)))=some (aa.bool false)∧some (aa.bool (decide (x≥4096)))=some (aa.bool true)∧ae (.slice none 0 0) (J.ar 41 [(0,af.an [.agg [.int .i8 3,.int .i32 c,.int .u8 m,.int .i64 x,.int .i64 y,.str t]] 6 true (some (42,6)))])) :
 b4 40 [bB 3 c m x y t] (⟨0,.nil⟩) ae :=
 b9 cx (.az (.val 1002 (.bool false)) (.az (.val 1006 (.bool false)) (.az (.val 1011 (.bool false)) (.az (.val 1016 (.bool false)) (.az (.val 1021 (.bool true)) .nil))))) aW
theorem adX(c m x y:Int)(t:Bytes)(ae:bI)(aW:some (aa.bool (decide (c<0)))=some (aa.bool false)∧some (aa.bool (decide (c>6)))=some (aa.bool false)∧some (aa.bool (decide (m>7)))=some (aa.bool false)∧some (aa.bool (decide (x<0)))=some (aa.bool false)∧some (aa.bool (decide (x≥4096)))=some (aa.bool false)∧some (aa.bool (decide (y<0)))=some (aa.bool true)∧ae (.slice none 0 0) (J.ar 41 [(0,af.an [.agg [.int .i8 3,.int .i32 c,.int .u8 m,.int .i64 x,.int .i64 y,.str t]] 6 true (some (42,6)))])) :
 b4 40 [bB 3 c m x y t] (⟨0,.nil⟩) ae :=
 b9 cx (.az (.val 1002 (.bool false)) (.az (.val 1006 (.bool false)) (.az (.val 1011 (.bool false)) (.az (.val 1016 (.bool false)) (.az (.val 1021 (.bool false)) (.az (.val 1026 (.bool true)) .nil)))))) aW
theorem adY(c m x y:Int)(t:Bytes)(ae:bI)(aW:some (aa.bool (decide (c<0)))=some (aa.bool false)∧some (aa.bool (decide (c>6)))=some (aa.bool false)∧some (aa.bool (decide (m>7)))=some (aa.bool false)∧some (aa.bool (decide (x<0)))=some (aa.bool false)∧some (aa.bool (decide (x≥4096)))=some (aa.bool false)∧some (aa.bool (decide (y<0)))=some (aa.bool false)∧some (aa.bool (decide (y≥4096)))=some (aa.bool true)∧ae (.slice none 0 0) (J.ar 41 [(0,af.an [.agg [.int .i8 3,.int .i32 c,.int .u8 m,.int .i64 x,.int .i64 y,.str t]] 6 true (some (42,6)))])) :
 b4 40 [bB 3 c m x y t] (⟨0,.nil⟩) ae :=
 b9 cx (.az (.val 1002 (.bool false)) (.az (.val 1006 (.bool false)) (.az (.val 1011 (.bool false)) (.az (.val 1016 (.bool false)) (.az (.val 1021 (.bool false)) (.az (.val 1026 (.bool false)) (.az (.val 1031 (.bool true)) .nil))))))) aW
theorem adZ(c m x y:Int)(t:Bytes)(ae:bI)(aW:some (aa.bool (decide (c<0)))=some (aa.bool false)∧some (aa.bool (decide (c>6)))=some (aa.bool false)∧some (aa.bool (decide (m>7)))=some (aa.bool false)∧some (aa.bool (decide (x<0)))=some (aa.bool false)∧some (aa.bool (decide (x≥4096)))=some (aa.bool false)∧some (aa.bool (decide (y<0)))=some (aa.bool false)∧some (aa.bool (decide (y≥4096)))=some (aa.bool false)∧some (aa.bool !t == Array.toList #[])=some (aa.bool true)∧ae (.slice none 0 0) (J.ar 41 [(0,af.an [.agg [.int .i8 3,.int .i32 c,.int .u8 m,.int .i64 x,.int .i64 y,.str t]] 6 true (some (42,6)))])) :
 b4 40 [bB 3 c m x y t] (⟨0,.nil⟩) ae :=
 b9 cx (.az (.val 1002 (.bool false)) (.az (.val 1006 (.bool false)) (.az (.val 1011 (.bool false)) (.az (.val 1016 (.bool false)) (.az (.val 1021 (.bool false)) (.az (.val 1026 (.bool false)) (.az (.val 1031 (.bool false)) (.az (.val 1036 (.bool true)) .nil)))))))) aW
abbrev nH(q:Nat):aa:=aa.slice (cm q) 3 3
abbrev pH(c m x y:Nat):aa:=aa.agg [.int .i8 3,.int .i32 (c:Int),.int .u8 (m:Int),.int .i64 (x:Int),.int .i64 (y:Int),.str []]
abbrev pI:aa:=aa.agg [.int .i64 0,.int .i64 1,.int .i64 2,.int .i64 0,.int .i64 64,.int .i64 65,.int .i64 35]
theorem ad0(H H1 H2:J)(c m x y bn j ds n q:Nat)(v:aa)(ae:bI)(aW:some (aa.bool false)=some (aa.bool false)∧some (aa.bool (decide ((c:Int)>6)))=some (aa.bool false)∧some (aa.bool (decide ((m:Int)>7)))=some (aa.bool false)∧some (aa.bool false)=some (aa.bool false)∧some (aa.bool (decide ((x:Int)≥4096)))=some (aa.bool false)∧some (aa.bool false)=some (aa.bool false)∧some (aa.bool (decide ((y:Int)≥4096)))=some (aa.bool false)∧some (aa.bool false)=some (aa.bool false)∧some (aa.bool ((c:Int) == 3))=some (aa.bool false)∧pT 63 (J.ar 63 [(0,af.an [(pH c m x y)] 6 true (some (42,6)))]) (J.ar 66 [(0,af.an [(pH c m x y)] 6 true (some (42,6))),(63,(af.an ([pI]) 7 true (some (106,7))))])=true∧oM env.D 106 (pI) (.int .i32 (c:Int))=some (.int .i64 (bn:Int))∧(-9223372036854775808≤(m:Int)∧(m:Int)≤9223372036854775807)∧Int.NonNeg (2-0)∧True∧(-9223372036854775808≤(x:Int)+1∧(x:Int)+1≤9223372036854775807)∧(-9223372036854775808≤(y:Int)+1∧(y:Int)+1≤9223372036854775807)∧ca 44 [.str [77],.slice (cm 60) 3 3] (J.ar 66 [(0,af.an [(pH c m x y)] 6 true (some (42,6))),(60,af.an [.int .i64 (b2 .i64 (bn:Int) (eZ .i64 (m:Int) (2))),.int .i64 ((x:Int)+1),.int .i64 ((y:Int)+1)] 1 true),(63,(af.an ([pI]) 7 true (some (106,7))))]) (.slice (some ⟨j,ds,0,0,1⟩) n n) H∧bN env dF (H.U+0) (bD [(4,.slice (some ⟨j,ds,0,0,1⟩) n n),(63,.slice (some ⟨j,ds,0,0,1⟩) n n),(62,.slice (cm 60) 3 3),(61,.int .i64 ((y:Int)+1)),(60,.int .i64 (y:Int)),(59,.ptr (some ⟨0,0,0,4,6⟩)),(58,.int .i64 ((x:Int)+1)),(57,.int .i64 (x:Int)),(56,.ptr (some ⟨0,0,0,3,6⟩)),(55,.int .i64 (b2 .i64 (bn:Int) (eZ .i64 (m:Int) (2)))),(54,.int .i64 (eZ .i64 (m:Int) (2))),(53,.int .i64 (m:Int)),(52,.int .u8 (m:Int)),(51,.ptr (some ⟨0,0,0,2,6⟩)),(50,.int .i64 (bn:Int)),(49,.int .i32 (c:Int)),(48,.ptr (some ⟨0,0,0,1,6⟩)),(47,pI),(46,.str [77]),(45,.bool false),(44,.int .i32 (c:Int)),(43,.ptr (some ⟨0,0,0,1,6⟩)),(3,.str [77]),(42,.bool false),(41,.bool false),(40,.str []),(39,.ptr (some ⟨0,0,0,5,6⟩)),(38,.bool false),(37,.bool false),(36,.bool false),(35,.int .i64 (y:Int)),(34,.ptr (some ⟨0,0,0,4,6⟩)),(33,.bool false),(32,.bool false),(31,.bool false),(30,.int .i64 (y:Int)),(29,.ptr (some ⟨0,0,0,4,6⟩)),(28,.bool false),(27,.bool false),(26,.bool false),(25,.int .i64 (x:Int)),(24,.ptr (some ⟨0,0,0,3,6⟩)),(23,.bool false),(22,.bool false),(21,.bool false),(20,.int .i64 (x:Int)),(19,.ptr (some ⟨0,0,0,3,6⟩)),(18,.bool false),(17,.bool false),(16,.bool false),(15,.int .u8 (m:Int)),(14,.ptr (some ⟨0,0,0,2,6⟩)),(13,.bool false),(12,.bool false),(11,.bool false),(10,.int .i32 (c:Int)),(9,.ptr (some ⟨0,0,0,1,6⟩)),(8,.bool false),(7,.bool false),(6,.int .i32 (c:Int)),(5,.ptr (some ⟨0,0,0,1,6⟩)),(2,.slice none 0 0),(1,.ptr (aJ 0)),(0,(pH c m x y))]) (J.mk (H.U+6) (H.2)) (Op.buildSlice 34 3 {toList:=[(0,Operand.const (Value.int .u8 (27))),(1,Operand.const (Value.int .u8 (91))),(2,Operand.const (Value.int .u8 (60)))]})=some ((nH q),H1)∧e7 env (H.U+1) (bD [(64,(nH q)),(4,.slice (some ⟨j,ds,0,0,1⟩) n n),(63,.slice (some ⟨j,ds,0,0,1⟩) n n),(62,.slice (cm 60) 3 3),(61,.int .i64 ((y:Int)+1)),(60,.int .i64 (y:Int)),(59,.ptr (some ⟨0,0,0,4,6⟩)),(58,.int .i64 ((x:Int)+1)),(57,.int .i64 (x:Int)),(56,.ptr (some ⟨0,0,0,3,6⟩)),(55,.int .i64 (b2 .i64 (bn:Int) (eZ .i64 (m:Int) (2)))),(54,.int .i64 (eZ .i64 (m:Int) (2))),(53,.int .i64 (m:Int)),(52,.int .u8 (m:Int)),(51,.ptr (some ⟨0,0,0,2,6⟩)),(50,.int .i64 (bn:Int)),(49,.int .i32 (c:Int)),(48,.ptr (some ⟨0,0,0,1,6⟩)),(47,pI),(46,.str [77]),(45,.bool false),(44,.int .i32 (c:Int)),(43,.ptr (some ⟨0,0,0,1,6⟩)),(3,.str [77]),(42,.bool false),(41,.bool false),(40,.str []),(39,.ptr (some ⟨0,0,0,5,6⟩)),(38,.bool false),(37,.bool false),(36,.bool false),(35,.int .i64 (y:Int)),(34,.ptr (some ⟨0,0,0,4,6⟩)),(33,.bool false),(32,.bool false),(31,.bool false),(30,.int .i64 (y:Int)),(29,.ptr (some ⟨0,0,0,4,6⟩)),(28,.bool false),(27,.bool false),(26,.bool false),(25,.int .i64 (x:Int)),(24,.ptr (some ⟨0,0,0,3,6⟩)),(23,.bool false),(22,.bool false),(21,.bool false),(20,.int .i64 (x:Int)),(19,.ptr (some ⟨0,0,0,3,6⟩)),(18,.bool false),(17,.bool false),(16,.bool false),(15,.int .u8 (m:Int)),(14,.ptr (some ⟨0,0,0,2,6⟩)),(13,.bool false),(12,.bool false),(11,.bool false),(10,.int .i32 (c:Int)),(9,.ptr (some ⟨0,0,0,1,6⟩)),(8,.bool false),(7,.bool false),(6,.int .i32 (c:Int)),(5,.ptr (some ⟨0,0,0,1,6⟩)),(2,.slice none 0 0),(1,.ptr (aJ 0)),(0,(pH c m x y))]) H1 (Op.convert 34 34 (Operand.tmp 64))=some ((nH q),H1)∧((0:Int)≤2∧2≤(n:Int)∧n≤n)∧hC env Builtin.append {toList:=[34,34]} [(nH q),.slice (some ⟨j,ds,2,0,1⟩) (n-2) (n-2)] (H.U+4) H1=some (v,H2)∧ae v H2) :
 b4 40 [bB 3 c m x y []] (⟨0,.nil⟩) ae :=
 b9 cx (.az (.val 1002 (.bool false)) (.az (.val 1006 (.bool false)) (.az (.val 1011 (.bool false)) (.az (.val 1016 (.bool false)) (.az (.val 1021 (.bool false)) (.az (.val 1026 (.bool false)) (.az (.val 1031 (.bool false)) (.az (.val 1036 (.bool false)) (.az (.val 4002 (.bool false)) (he 6001 (.az (.val 6004 (.int .i64 (bn:Int))) (ak 6007 (ak 6008 (ak 6009 (ak 6012 (ak 6015 (.az (.act 6017 (.slice (some ⟨j,ds,0,0,1⟩) n n) fun x=>H) (.az (.act 7000 ((nH q)) fun x=>H1) (.az (.mm 7001 ((nH q)) fun h=>h) (ak 7003 (.az (.act 7004 v fun x=>H2) .nil))))))))))))))))))))) aW
theorem ad1(H H1 H2:J)(c m x y bn j ds n q:Nat)(v:aa)(ae:bI)(aW:some (aa.bool false)=some (aa.bool false)∧some (aa.bool (decide ((c:Int)>6)))=some (aa.bool false)∧some (aa.bool (decide ((m:Int)>7)))=some (aa.bool false)∧some (aa.bool false)=some (aa.bool false)∧some (aa.bool (decide ((x:Int)≥4096)))=some (aa.bool false)∧some (aa.bool false)=some (aa.bool false)∧some (aa.bool (decide ((y:Int)≥4096)))=some (aa.bool false)∧some (aa.bool false)=some (aa.bool false)∧some (aa.bool ((c:Int) == 3))=some (aa.bool true)∧pT 64 (J.ar 64 [(0,af.an [(pH c m x y)] 6 true (some (42,6)))]) (J.ar 67 [(0,af.an [(pH c m x y)] 6 true (some (42,6))),(64,(af.an ([pI]) 7 true (some (106,7))))])=true∧oM env.D 106 (pI) (.int .i32 (c:Int))=some (.int .i64 (bn:Int))∧(-9223372036854775808≤(m:Int)∧(m:Int)≤9223372036854775807)∧Int.NonNeg (2-0)∧True∧(-9223372036854775808≤(x:Int)+1∧(x:Int)+1≤9223372036854775807)∧(-9223372036854775808≤(y:Int)+1∧(y:Int)+1≤9223372036854775807)∧ca 44 [.str [109],.slice (cm 61) 3 3] (J.ar 67 [(0,af.an [(pH c m x y)] 6 true (some (42,6))),(61,af.an [.int .i64 (b2 .i64 (bn:Int) (eZ .i64 (m:Int) (2))),.int .i64 ((x:Int)+1),.int .i64 ((y:Int)+1)] 1 true),(64,(af.an ([pI]) 7 true (some (106,7))))]) (.slice (some ⟨j,ds,0,0,1⟩) n n) H∧bN env dF (H.U+0) (bD [(4,.slice (some ⟨j,ds,0,0,1⟩) n n),(63,.slice (some ⟨j,ds,0,0,1⟩) n n),(62,.slice (cm 61) 3 3),(61,.int .i64 ((y:Int)+1)),(60,.int .i64 (y:Int)),(59,.ptr (some ⟨0,0,0,4,6⟩)),(58,.int .i64 ((x:Int)+1)),(57,.int .i64 (x:Int)),(56,.ptr (some ⟨0,0,0,3,6⟩)),(55,.int .i64 (b2 .i64 (bn:Int) (eZ .i64 (m:Int) (2)))),(54,.int .i64 (eZ .i64 (m:Int) (2))),(53,.int .i64 (m:Int)),(52,.int .u8 (m:Int)),(51,.ptr (some ⟨0,0,0,2,6⟩)),(50,.int .i64 (bn:Int)),(49,.int .i32 (c:Int)),(48,.ptr (some ⟨0,0,0,1,6⟩)),(47,pI),(46,.str [109]),(3,.str [109]),(45,.bool true),(44,.int .i32 (c:Int)),(43,.ptr (some ⟨0,0,0,1,6⟩)),(42,.bool false),(41,.bool false),(40,.str []),(39,.ptr (some ⟨0,0,0,5,6⟩)),(38,.bool false),(37,.bool false),(36,.bool false),(35,.int .i64 (y:Int)),(34,.ptr (some ⟨0,0,0,4,6⟩)),(33,.bool false),(32,.bool false),(31,.bool false),(30,.int .i64 (y:Int)),(29,.ptr (some ⟨0,0,0,4,6⟩)),(28,.bool false),(27,.bool false),(26,.bool false),(25,.int .i64 (x:Int)),(24,.ptr (some ⟨0,0,0,3,6⟩)),(23,.bool false),(22,.bool false),(21,.bool false),(20,.int .i64 (x:Int)),(19,.ptr (some ⟨0,0,0,3,6⟩)),(18,.bool false),(17,.bool false),(16,.bool false),(15,.int .u8 (m:Int)),(14,.ptr (some ⟨0,0,0,2,6⟩)),(13,.bool false),(12,.bool false),(11,.bool false),(10,.int .i32 (c:Int)),(9,.ptr (some ⟨0,0,0,1,6⟩)),(8,.bool false),(7,.bool false),(6,.int .i32 (c:Int)),(5,.ptr (some ⟨0,0,0,1,6⟩)),(2,.slice none 0 0),(1,.ptr (aJ 0)),(0,(pH c m x y))]) (J.mk (H.U+6) (H.2)) (Op.buildSlice 34 3 {toList:=[(0,Operand.const (Value.int .u8 (27))),(1,Operand.const (Value.int .u8 (91))),(2,Operand.const (Value.int .u8 (60)))]})=some ((nH q),H1)∧e7 env (H.U+1) (bD [(64,(nH q)),(4,.slice (some ⟨j,ds,0,0,1⟩) n n),(63,.slice (some ⟨j,ds,0,0,1⟩) n n),(62,.slice (cm 61) 3 3),(61,.int .i64 ((y:Int)+1)),(60,.int .i64 (y:Int)),(59,.ptr (some ⟨0,0,0,4,6⟩)),(58,.int .i64 ((x:Int)+1)),(57,.int .i64 (x:Int)),(56,.ptr (some ⟨0,0,0,3,6⟩)),(55,.int .i64 (b2 .i64 (bn:Int) (eZ .i64 (m:Int) (2)))),(54,.int .i64 (eZ .i64 (m:Int) (2))),(53,.int .i64 (m:Int)),(52,.int .u8 (m:Int)),(51,.ptr (some ⟨0,0,0,2,6⟩)),(50,.int .i64 (bn:Int)),(49,.int .i32 (c:Int)),(48,.ptr (some ⟨0,0,0,1,6⟩)),(47,pI),(46,.str [109]),(3,.str [109]),(45,.bool true),(44,.int .i32 (c:Int)),(43,.ptr (some ⟨0,0,0,1,6⟩)),(42,.bool false),(41,.bool false),(40,.str []),(39,.ptr (some ⟨0,0,0,5,6⟩)),(38,.bool false),(37,.bool false),(36,.bool false),(35,.int .i64 (y:Int)),(34,.ptr (some ⟨0,0,0,4,6⟩)),(33,.bool false),(32,.bool false),(31,.bool false),(30,.int .i64 (y:Int)),(29,.ptr (some ⟨0,0,0,4,6⟩)),(28,.bool false),(27,.bool false),(26,.bool false),(25,.int .i64 (x:Int)),(24,.ptr (some ⟨0,0,0,3,6⟩)),(23,.bool false),(22,.bool false),(21,.bool false),(20,.int .i64 (x:Int)),(19,.ptr (some ⟨0,0,0,3,6⟩)),(18,.bool false),(17,.bool false),(16,.bool false),(15,.int .u8 (m:Int)),(14,.ptr (some ⟨0,0,0,2,6⟩)),(13,.bool false),(12,.bool false),(11,.bool false),(10,.int .i32 (c:Int)),(9,.ptr (some ⟨0,0,0,1,6⟩)),(8,.bool false),(7,.bool false),(6,.int .i32 (c:Int)),(5,.ptr (some ⟨0,0,0,1,6⟩)),(2,.slice none 0 0),(1,.ptr (aJ 0)),(0,(pH c m x y))]) H1 (Op.convert 34 34 (Operand.tmp 64))=some ((nH q),H1)∧((0:Int)≤2∧2≤(n:Int)∧n≤n)∧hC env Builtin.append {toList:=[34,34]} [(nH q),.slice (some ⟨j,ds,2,0,1⟩) (n-2) (n-2)] (H.U+4) H1=some (v,H2)∧ae v H2) :
 b4 40 [bB 3 c m x y []] (⟨0,.nil⟩) ae :=
 b9 cx (.az (.val 1002 (.bool false)) (.az (.val 1006 (.bool false)) (.az (.val 1011 (.bool false)) (.az (.val 1016 (.bool false)) (.az (.val 1021 (.bool false)) (.az (.val 1026 (.bool false)) (.az (.val 1031 (.bool false)) (.az (.val 1036 (.bool false)) (.az (.val 4002 (.bool true)) (he 6001 (.az (.val 6004 (.int .i64 (bn:Int))) (ak 6007 (ak 6008 (ak 6009 (ak 6012 (ak 6015 (.az (.act 6017 (.slice (some ⟨j,ds,0,0,1⟩) n n) fun x=>H) (.az (.act 7000 ((nH q)) fun x=>H1) (.az (.mm 7001 ((nH q)) fun h=>h) (ak 7003 (.az (.act 7004 v fun x=>H2) .nil))))))))))))))))))))) aW
theorem zm{x:Nat}{l:List aa}{s:Bytes}(h:l=aN (put x))(hs:s=strOf l):s=put x:=by rw [hs,h,jh]
def vF(x:Nat)(v:aa)(ag:J):Prop:=v=.str (put x)∧ag.get 0=some (kK x)
theorem ad2{x:Nat}(hs:Keys.Scalar x):∃v ag,bS 51 [.slice (some ⟨0,0,0,0,1⟩) 1 1] (J.of [kK x]) v ag∧vF x v ag:=by
 have e:J.of [kK x]=J.rows 1 [(0,kK x)]:= ay;rw [e];unfold Keys.Scalar at hs;by_cases h:x<55296
 ·refine adn x (vF x) ?_;have aj:x<2^31:= ab;refine⟨by simp;omega,by simp;omega,?_⟩
  repeat' (first|exact True.intro|apply And.intro|intro _)
  all_goals first
   |omega
   |(simp only [Option.some.injEq,aa.bool.injEq,decide_eq_false_iff_not];omega)
   |exact hS
   |exact(rV aj).1|exact(rV aj).2|exact(rW aj).1|exact(rW aj).2
   |exact(vl ab).1|exact(vl ab).2|exact(rX ab).1|exact(rX ab).2
   |exact congrArg aa.str (zm (pj ab) rfl)
   |exact congrArg aa.str (zm (rT ab ab) rfl)
   |exact congrArg aa.str (zm (qp ab ab ab) rfl)
   |rfl
 ·refine ado x (vF x) ?_;have aj:x<2^31:= ab;refine⟨by simp;omega,by simp;omega,by simp;omega,by simp;omega,by simp;omega,?_⟩
  repeat' (first|exact True.intro|apply And.intro|intro _)
  all_goals first
   |omega
   |exact hS
   |exact(rV aj).1|exact(rV aj).2|exact(rW aj).1|exact(rW aj).2|exact(vk aj).1|exact(vk aj).2
   |exact(rX ab).1|exact(rX ab).2|exact(vm ab).1|exact(vm ab).2
   |exact congrArg aa.str (zm (qp ab ab ab) rfl)
   |exact congrArg aa.str (zm (rU ab ab) rfl)
   |rfl
theorem Q2{x q:Nat}{H:J}(hs:Keys.Scalar x)(ak:H.get q=some (kK x))(aB:q<H.U):bS 51 [.slice (some ⟨q,0,0,0,1⟩) 1 1] H (.str (put x)) H:=by
 obtain⟨v,ag,aE,rfl,bf⟩:=ad2 hs
 have ax:dy (kK x):=by intro e he;simp only [kK,af.an,List.mem_singleton]at he;subst he;exact cU.int _ _
 have:=b1.pure (l:=[kK x]) aE (fun b fy=>by rw [List.mem_singleton.1 fy];exact ax) (by show [ag.get 0]=_;rw [bf];rfl) (cU.str _) (by exact⟨by show 0<1;decide,trivial⟩) (H:=H) [q] aM (by intro j a1;rw [List.mem_singleton.1 a1];exact aB) (by simp [ak]);simpa [aa.bg,bA.bg,dJ]using this
noncomputable def okB(r:Option (aa×J))(bs:Bytes):Bool :=
 match r with
 |some (.slice (some a) n c,h) =>
  decide (n=bs.length)&&decide (c=bs.length)&&decide (a.fld=0)&&decide (a.es=1)&&decide (a.idx=0)&&Nat.blt a.id h.U &&
   (match h.get a.id with|some b=>decide (a.ad=b.ad)&&!b.ro&&sH b.bk&&decide (bytesOf b.bk=some bs)&&(b.exact || decide (b.ty=none) || decide (b.ty=some (5,0)))|none=>false)
 |_=>false
theorem Q3:∀{l:List aa}{bs:Bytes},sH l=true→bytesOf l=some bs→l=aN bs
 |[],bs,_,h=>by simp only [bytesOf,Option.some.injEq]at h;subst h;rfl
 |a ::r,bs,aq,h=>by
  unfold sH at aq;split at aq
  ·rename_i he;cases he
  ·rename_i n fH he;simp only [List.cons.injEq]at he;obtain⟨rfl,rfl⟩:=he;simp only [Bool.and_eq_true,decide_eq_true_eq]at aq;simp only [bytesOf,Option.map_eq_some_iff]at h;obtain⟨l,ac,rfl⟩:=h;rw [Q3 aq.2 ac];show _=aa.int .u8 ((UInt8.ofNat n.toNat).toNat:Int)::aN l;rw [UInt8.toNat_ofNat',show((n.toNat%2^8:Nat):Int)=n by omega]
  ·cases aq
theorem Q4{f:FuncId}{args:List aa}{k:Nat}{bs:Bytes}(h:okB (n6 Tryz.prog env k f args ⟨0,.nil⟩) bs=true)(aT:∀a∈args,cU a)(H:J) :
 ∃v aQ j,bS f args H v aQ∧eP aQ j v bs∧H.U≤j∧∀x,x<H.U→aQ.get x=H.get x:=by
 unfold okB at h;split at h
 ·rename_i a n c ac bc;simp only [Bool.and_eq_true,decide_eq_true_eq,Bool.or_eq_true,Bool.not_eq_true']at h;obtain⟨⟨⟨⟨⟨⟨rfl,rfl⟩,dh⟩,du⟩,fE⟩,bf⟩,bQ⟩:=h;have bf:=Nat.blt_eq.mp bf;split at bQ
  ·rename_i b ax;simp only [Bool.and_eq_true,decide_eq_true_eq,Bool.or_eq_true,Bool.not_eq_true']at bQ;obtain⟨⟨⟨⟨aK,aP⟩,bt⟩,g'⟩,h6⟩:=bQ;have fO:=Q3 bt g'
   have n1:dy b:=by intro e he;rw [fO]at he;exact lN bs e he
   rw [xu]at bc;have aE:bS f args (J.of []) _ ac:=b1.uR eN mixed bc;obtain⟨aQ,gk,lQ,eX,kd⟩:=aE.place aM (fun b ax=>by cases ax) (tb.2 fun a h=>(aT a h).eM _) (H:=H) [] List.nodup_nil (fun j a1=>by cases a1) rfl (fun i b h=>by simp at h);have r:∀i,dJ [] H.U i=H.U+i:=fun i=>by rw [n9 aM];simp
   have g:=eX a.id b ax;rw [n1.bg,r]at g
   have gz:args.map (aa.bg (dJ [] H.U))=args:=by
    conv=>rhs;rw [←List.map_id args]
    exact List.map_congr_left fun e he=>(aT e he).1 _
   rw [gz]at gk;obtain⟨ad3,ahV,ahW,ahX,ahY⟩:=a;simp only at dh du fE aK g bf;subst dh du fE aK;refine⟨_,aQ,H.U+ad3,gk,⟨⟨b,?_,g,aP,fO,fun he=> ?_⟩,?_⟩,ab,fun x aj=>kd x aj aM⟩
   ·simp only [aa.bg,bA.bg,r]
   ·rcases h6 with (h|h)|h
    ·rw [he]at h;cases h
    ·exact .inl h
    ·exact .inr h
   ·rw [lQ];simp only [List.length_nil,Nat.sub_zero];omega
  ·cases bQ
 ·cases h
def ad4(r:Option (aa×J)):Bool:=match r with|some (.slice none n c,_)=>decide (n=0)&&decide (c=0)|_=>false
def zn(n:Nat):Bytes:=if n<10 then [u8 (48+n)]else if n<100 then [u8 (48+n/10),u8 (48+n%10)]else [u8 (48+n/100),u8 (48+n/10%10),u8 (48+n%10)]
theorem JC{n:Nat}(h:n<1000):zn n=Lib.decDigits n:=by
 unfold zn;split
 ·exact(tZ ‹_›).symm
 ·split
  ·rw [tY ab,tZ ab];rfl
  ·rw [tY ab,tY ab,tZ ab,Nat.div_div_eq_div_mul];rfl
def JD(e:UInt8)(a:Nat):Bytes:=27::91::(zn a++[e])
def v7(e:UInt8)(a b:Nat):Bytes:=27::91::(zn a++59::zn b++[e])
theorem ad5{e:UInt8}{a:Nat}(h:a<1000):JD e a=eO [e] [a]:=by unfold JD;rw [JC h];rfl
theorem zo{e:UInt8}{a b:Nat}(h:a<1000)(ai:b<1000):v7 e a b=eO [e] [a,b]:=by unfold v7;rw [JC h,JC ai];rfl
def JE(r m:Nat):Bytes :=
 match (if m=2 then none else tX r)with
 |some c=>if m=4 then [c]else [27,c]
 |none=>v7 117 r (m+1)
noncomputable def ub(r m:Nat):Bool:=okB (n6 Tryz.prog env 400 42 [.int .i32 (r:Nat),.int .u8 (m:Nat)] ⟨0,.nil⟩) (JE r m)
def JF(k m:Nat):Option Bytes :=
 if 1≤k∧k≤4 then
  if m=0 then some [u8 (nG k)]
  else if m=2∧k≠4 then some [27,u8 (nG k)]
  else if m=1∧k=2 then some [27,91,90]
  else some (v7 117 (nG k) (m+1))
 else match sr k with
 |some c=>if m=0 then some [27,91,c]else some (v7 c 1 (m+1))
 |none =>
  if m=0∧21≤k∧k≤24 then some [27,79,u8 (80+(k-21))]
  else match qP k with
  |some n=>if m=0 then some (JD 126 n)else some (v7 126 n (m+1))
  |none=>none
noncomputable def zp(k m:Nat):Bool :=
 match JF k m with
 |some bs=>okB (n6 Tryz.prog env 400 43 [.int .i32 (k:Nat),.int .u8 (m:Nat)] ⟨0,.nil⟩) bs
 |none=>ad4 (n6 Tryz.prog env 400 43 [.int .i32 (k:Nat),.int .u8 (m:Nat)] ⟨0,.nil⟩)
theorem ad6:∀k:Fin 14,∀m:Fin 8,zp (k.val+1) m.val=true:=by decide+kernel
theorem ad7:∀k:Fin 6,∀m:Fin 8,zp (k.val+21) m.val=true:=by decide+kernel
theorem ad8:∀k:Fin 6,∀m:Fin 8,zp (k.val+27) m.val=true:=by decide+kernel
theorem Q5:∀r:Fin 48,ub (r.val+32) 4=true∧ub (r.val+32) 6=true:=by decide+kernel
theorem Q6:∀r:Fin 47,ub (r.val+80) 4=true∧ub (r.val+80) 6=true:=by decide+kernel
theorem Q7:ub 91 2=true∧ub 79 2=true:=by decide+kernel
def pJ(f:FuncId)(H:J)(args:List aa)(bs:Bytes):Prop :=
 ∃v aQ j,bS f args H v aQ∧eP aQ j v bs∧H.U≤j∧∀x,x<H.U→aQ.get x=H.get x
theorem JG{H:J}{y:Nat}(b:af)(k:Nat)(bV:y<H.U+k):((⟨H.U+k,H.aH⟩:J).set y b).get y=some b:=J.gE _ _ _
theorem ad9(H:J)(r:Nat)(hs:Keys.Scalar r):∃H1 H2,(∀F,bD F (.tmp 7)=.int .i32 (r:Nat)→bN env dF (H.U+2) (bD F) ⟨H.U+6,H.aH⟩ (Op.buildSlice 84 1 {toList:=[(0,Operand.tmp 7)]})=some (aa.slice (some ⟨H.U+2,0,0,0,1⟩) 1 1,H1)) ∧
 bS 51 [.slice (some ⟨H.U+2,0,0,0,1⟩) 1 1] H1 (.str (put r)) H1 ∧
 (∀F,bD F (.tmp 9)=.str (put r)→e7 env (H.U+4) (bD F) H1 (Op.convert 9 34 (Operand.tmp 9))=some (.slice (some ⟨H.U+4,0,0,0,1⟩) (put r).length (put r).length,H2)) ∧
 eP H2 (H.U+4) (.slice (some ⟨H.U+4,0,0,0,1⟩) (put r).length (put r).length) (put r)∧H2.U=H.U+6∧∀x,x<H.U→H2.get x=H.get x:=by
 have hT:((⟨H.U+6,H.aH⟩:J).set (H.U+2) (kK r)).get (H.U+2)=some (kK r):=J.gE _ _ _;have mu:(((⟨H.U+6,H.aH⟩:J).set (H.U+2) (kK r)).set (H.U+4) (af.an (aN (put r)) 1 false)).get (H.U+4)=some (af.an (aN (put r)) 1 false):=J.gE _ _ _;refine⟨(⟨H.U+6,H.aH⟩:J).set (H.U+2) (kK r),((⟨H.U+6,H.aH⟩:J).set (H.U+2) (kK r)).set (H.U+4) (af.an (aN (put r)) 1 false),fun F fx=> ?_,Q2 hs hT (by show H.U+2<H.U+6;omega),fun F fx=> ?_,eP.an (bs:=put r) mu (by show H.U+4<H.U+6;omega) (fun _=> .inl rfl),rfl,fun x aj=> ?_⟩
 ·have ax:∀(K:J)(y:Nat)(z:Int),oL (bY.D env) 84 1 [(0,.int .i32 z)] y K=some (.slice (some ⟨y,0,0,0,1⟩) 1 1,K.set y (af.an [.int .i32 z] 1 true)):=by intro K y z;kernel_rfl
  show oL (bY.D env) 84 1 [(0,bD F (.tmp 7))] _ _=_;rw [fx];exact ax _ _ _
 ·have ac:(bY.D env 9).map (fun d=>d.kind)=some .string:= ay;have ai:(bY.D env 34).map (fun d=>d.kind)=some (.slice 5):= ay;have a8:(bY.D env 5).map (fun d=>d.kind)=some (.int .u8):= ay;obtain⟨kY,d1,aK⟩:=Option.map_eq_some_iff.1 ac;obtain⟨wS,d2,aP⟩:=Option.map_eq_some_iff.1 ai;obtain⟨w7,d3,bt⟩:=Option.map_eq_some_iff.1 a8;simp only [e7,fx,q',d1,aK,d2,aP,d3,bt];rfl
 ·rw [J.fg _ _ ab,J.fg _ _ ab];rfl
theorem Q8{F:bJ}{nid a b:Nat}{H:J}{x y:Nat}(aT:bD F (.tmp a)=.int .i64 (x:Nat))(ax:bD F (.tmp b)=.int .i64 (y:Nat)):bN env dF nid (bD F) H (Op.buildSlice 102 2 {toList:=[(0,Operand.tmp a),(1,Operand.tmp b)]})=some (.slice (some ⟨nid,0,0,0,1⟩) 2 2,H.set nid (st [x,y])):=by
 have fy:∀(K:J)(y:Nat)(z w:Int),oL (bY.D env) 102 2 [(0,.int .i64 z),(1,.int .i64 w)] y K=some (.slice (some ⟨y,0,0,0,1⟩) 2 2,K.set y (af.an [.int .i64 z,.int .i64 w] 1 true)):=by intro K y z w;kernel_rfl
 show oL (bY.D env) 102 2 [(0,bD F (.tmp a)),(1,bD F (.tmp b))] _ _=_;rw [aT,ax];exact fy _ _ _ _
theorem Q9{H2:J}{r m k:Nat}(bc:r<10000000)(hm:m≤7):∃v bO j,bS 44 [.str [117],.slice (some ⟨k,0,0,0,1⟩) 2 2] ((⟨k+3,H2.aH⟩:J).set k (st [r,m+1])) v bO∧eP bO j v (eO [117] [r,m+1])∧k+3≤j∧∀x,x<k→bO.get x=H2.get x:=by obtain⟨v,bO,j,aE,g,a1,ao⟩:=Jy (H:=(⟨k+3,H2.aH⟩:J).set k (st [r,m+1])) (q:=k) (c:=2) (l:=[r,m+1]) (e:=[117]) (J.gE _ _ _) (by show k<k+3;omega) aM (by intro n aR;simp only [List.mem_cons,List.not_mem_nil,or_false]at aR;rcases aR with rfl|rfl<;>omega) aM aM;refine⟨v,bO,j,aE,g,a1,fun x aj=> ?_⟩;rw [ao x (by show x<k+3;omega),J.fg _ _ ab];rfl
theorem ad'{r m:Nat}(hm:m≤7)(bc:r<1000)(h:m=4∨m=6∨(m=2∧(r=91∨r=79))):JE r m=jL r m:=by
 unfold JE jL;rw [if_neg (show ¬m=0 by omega)];by_cases ai:m=2
 ·rw [if_pos ai,if_neg ab,if_neg ab];exact zo bc ab
 ·rw [if_neg ai,if_neg ab,if_pos (show m=4∨m=6 by omega)];cases tX r with
  |none=>exact zo bc ab
  |some c=>rfl
theorem aea(H:J){r m:Nat}(bc:shown r=true)(hm:m≤7):pJ 42 H [.int .i32 (r:Nat),.int .u8 (m:Nat)] (jL r m):=by
 have fb:∀{a b:Nat}{p:Prop},a≤b→p→_root_.cond (Nat.ble a b) p False:=fun h k=>by rw [Nat.ble_eq.mpr h];exact k
 obtain⟨hs,lY,oA,_⟩:=pF bc;rw [show(r:Int).toNat=r by omega]at hs lY oA;have ev:=hs;unfold Keys.Scalar at ev;have ahZ:=GL r;by_cases aw:r<127∧(m=4∨m=6∨(m=2∧(r=91∨r=79)))
 ·
   have k:ub r m=true:=by
    rcases aw.2 with rfl|rfl|⟨rfl,rfl|rfl⟩
    ·rcases Nat.lt_or_ge r 80 with h|h
     ·have:=(Q5 ⟨r-32,ab⟩).1;simpa [Nat.sub_add_cancel lY]using this
     ·have:=(Q6 ⟨r-80,ab⟩).1;simpa [Nat.sub_add_cancel h]using this
    ·rcases Nat.lt_or_ge r 80 with h|h
     ·have:=(Q5 ⟨r-32,ab⟩).2;simpa [Nat.sub_add_cancel lY]using this
     ·have:=(Q6 ⟨r-80,ab⟩).2;simpa [Nat.sub_add_cancel h]using this
    ·exact Q7.1
    ·exact Q7.2
   have:=Q4 k (fun a aT=>by
    simp only [List.mem_cons,List.not_mem_nil,or_false]at aT
    rcases aT with rfl|rfl<;>exact cU.int _ _) H
   rw [ad' hm ab aw.2]at this;exact this
 obtain⟨H1,H2,ax,bW,C7,g2,jH,ib⟩:=ad9 H r hs;by_cases bf:m=0
 ·subst bf
  obtain⟨v,ag,aE,rfl,rfl⟩:=adp H H1 H2 r (H.U+2) (H.U+4) (put r).length (put r) (fun v ag=>v=.slice (some ⟨H.U+4,0,0,0,1⟩) (put r).length (put r).length∧ag=⟨H2.U+5,H2.aH⟩)
   (aY (Nat.le_refl _) (aY ab ⟨ax _ rfl,⟨bW⟩,C7 _ rfl,aY ab (aY ab (fb ab ⟨rfl,rfl⟩))⟩))
  exact⟨_,_,_,aE,g2.keep rfl (by show H2.U≤H2.U+5;omega),ab,ib⟩
 ·by_cases ai:m=2∧r≠91∧r≠79
  ·obtain⟨rfl,Jp,Jq⟩:=ai;have kV:∀F,bN env dF (H2.U+14) (bD F) ⟨H2.U+18,H2.aH⟩ (Op.buildSlice 34 1 {toList:=[(0,Operand.const (Value.int .u8 (27)))]})=some (aa.slice (some ⟨H2.U+14,0,0,0,1⟩) 1 1,(⟨H2.U+18,H2.aH⟩:J).set (H2.U+14) (af.an (aN [27]) 1 true)):=by intro F;kernel_rfl
   have ou:=JG (H:=H2) (y:=H2.U+14) (af.an (aN [27]) 1 true) 18 ab;have iO:∀x,x<H2.U→((⟨H2.U+18,H2.aH⟩:J).set (H2.U+14) (af.an (aN [27]) 1 true)).get x=H2.get x:=fun x aj=>J.fg _ _ ab
   have iR:((⟨H2.U+18,H2.aH⟩:J).set (H2.U+14) (af.an (aN [27]) 1 true)).U=H2.U+18:=rfl;generalize (⟨H2.U+18,H2.aH⟩:J).set (H2.U+14) (af.an (aN [27]) 1 true)=aX at kV ou iO iR;have g3:=g2.keep (iO _ g2.lt) ab;obtain⟨v,bO,j,aT,g4,a1,acm,zq⟩:=(eP.an (bs:=[27]) ou ab (fun h=>by cases h)).hk (nid:=H2.U+16) g3.bk (zf r) (by simp only [List.length_cons,List.length_nil];omega) ab
   obtain⟨w,ag,aE,rfl,rfl⟩:=adq H H1 H2 aX bO r (H.U+2) (H.U+4) (H2.U+14) (put r).length (put r) v (fun w ag=>w=v∧ag=bO)
    (aY (Nat.le_refl _) (aY ab ⟨ax _ rfl,⟨bW⟩,C7 _ rfl,aY ab (aY ab ⟨by simp;omega,by simp;omega,aY ab ⟨kV _,(C2 _ _ _ _).trans aT,fb ab ⟨rfl,rfl⟩⟩⟩)⟩))
   refine⟨_,_,j,aE,?_,by rcases a1 with h|h<;>omega,fun x aj=> ?_⟩
   ·have:jL r 2=[27]++put r:=by unfold jL;rw [if_neg aS,if_pos ⟨rfl,Jp,Jq⟩];rfl
    rw [this];exact g4
   ·rw [zq x ab ab,iO x ab];exact ib x aj
  ·by_cases C8:m=4∨m=6
   ·have ah0:127<r:= ab;obtain⟨v,bO,j,fo,g4,a1,zq⟩:=Q9 (H2:=H2) (r:=r) (m:=m) (k:=H2.U+49) ab hm;have ni:dO .u8 (m:Int) 2=4:=by rcases C8 with rfl|rfl<;>decide+kernel
    obtain⟨w,ag,aE,rfl,rfl⟩:=ads H H1 H2 _ bO r m (H.U+2) (H.U+4) (H2.U+49) (put r).length (put r) v (fun w ag=>w=v∧ag=bO)
     (aY (Nat.le_refl _) (aY ab ⟨ax _ rfl,⟨bW⟩,C7 _ rfl,aY ab ⟨by simp;omega,aY ab ⟨by simp;omega,aY ab ⟨trivial,by rw [ni];rfl,aY ab (aY ab ⟨by simp;omega,aY ab ⟨by simp;omega,by simp;omega,aY ab ⟨by simp;omega,by simp;omega,aY ab ⟨ab,ab,ab,Q8 (x:=r) (y:=m+1) rfl (by rfl),⟨fo⟩,fb (by have:=g4.lt;omega) ⟨rfl,rfl⟩⟩⟩⟩⟩)⟩⟩⟩⟩))
    refine⟨_,_,j,aE,?_,ab,fun x aj=> ?_⟩
    ·have:jL r m=eO [117] [r,m+1]:=by
      unfold jL;rw [if_neg bf,if_neg ab,if_pos C8];have:tX r=none:=by unfold tX;rw [if_neg ab,if_neg ab,if_neg ab]
      rw [this]
     rw [this];exact g4
    ·rw [zq x ab];exact ib x aj
   ·have Aa:m≠2:= ab;obtain⟨v,bO,j,fo,g4,a1,zq⟩:=Q9 (H2:=H2) (r:=r) (m:=m) (k:=H2.U+23) ab hm
    have ni:dO .u8 (m:Int) 2≠4:=by have:m=1∨m=3∨m=5∨m=7:= ab;rcases this with rfl|rfl|rfl|rfl<;>decide+kernel
    obtain⟨w,ag,aE,rfl,rfl⟩:=adr H H1 H2 _ bO r m (H.U+2) (H.U+4) (H2.U+23) (put r).length (put r) v (fun w ag=>w=v∧ag=bO)
     (aY (Nat.le_refl _) (aY ab ⟨ax _ rfl,⟨bW⟩,C7 _ rfl,aY ab ⟨by simp;omega,aY ab ⟨by simp;omega,aY ab ⟨trivial,by simp [ni],aY ab ⟨ab,ab,ab,Q8 (x:=r) (y:=m+1) rfl (by rfl),⟨fo⟩,fb (by have:=g4.lt;omega) ⟨rfl,rfl⟩⟩⟩⟩⟩⟩))
    refine⟨_,_,j,aE,?_,ab,fun x aj=> ?_⟩
    ·have:jL r m=eO [117] [r,m+1]:=by unfold jL;rw [if_neg bf,if_neg ab,if_neg C8]
     rw [this];exact g4
    ·rw [zq x ab];exact ib x aj
def v8(f:FuncId)(H:J)(args:List aa):Prop :=
 ∃aQ,bS f args H (.slice none 0 0) aQ∧H.U≤aQ.U∧∀x,x<H.U→aQ.get x=H.get x
theorem JH{f:FuncId}{args:List aa}{v:aa}{ag:J}(aE:bS f args (J.of []) v ag)(aT:∀a∈args,cU a)(H:J) :
 ∃aQ,bS f args H (v.bg (fun i=>H.U+i)) aQ∧aQ.U=H.U+ag.U∧(∀i b,ag.get i=some b→aQ.get (H.U+i)=some (b.bg (fun i=>H.U+i)))∧∀x,x<H.U→aQ.get x=H.get x:=by
 obtain⟨aQ,gk,lQ,eX,kd⟩:=aE.place aM (fun b ax=>by cases ax) (tb.2 fun a h=>(aT a h).eM _) (H:=H) [] List.nodup_nil (fun j a1=>by cases a1) rfl (fun i b h=>by simp at h);have r:(dJ [] H.U)=fun i=>H.U+i:=by funext i;rw [n9 aM];simp
 have gz:args.map (aa.bg (dJ [] H.U))=args:=by
  conv=>rhs;rw [←List.map_id args]
  exact List.map_congr_left fun e he=>(aT e he).1 _
 rw [gz,r]at gk;rw [r]at eX;refine⟨aQ,gk,by rw [lQ];simp,?_,fun x aj=>kd x aj aM⟩;intro i b ax;have:=eX i b ax;exact this
theorem eP.place{ag aQ:J}{j n:Nat}{v:aa}{bs:Bytes}(g:eP ag j v bs)(aR:aQ.U=n+ag.U)(ak:∀i b,ag.get i=some b→aQ.get (n+i)=some (b.bg (fun i=>n+i))):eP aQ (n+j) (v.bg (fun i=>n+i)) bs:=by
 obtain⟨b,rfl,ai,a8,bQ,bF⟩:=g.ex
 have n1:dy b:=by intro e he;rw [bQ]at he;exact lN bs e he
 have aC:=g.lt;have k:=ak j b ai;rw [n1.bg]at k;exact⟨⟨b,rfl,k,a8,bQ,bF⟩,ab⟩
theorem pJ.of{f:FuncId}{args:List aa}{v:aa}{ag:J}{j:Nat}{bs:Bytes}(aE:bS f args (J.of []) v ag)(g:eP ag j v bs)(aT:∀a∈args,cU a)(H:J):pJ f H args bs:=by obtain⟨aQ,gk,aR,ak,ao⟩:=JH aE aT H;exact⟨_,aQ,H.U+j,gk,g.place aR ak,ab,ao⟩
theorem v8.of{f:FuncId}{args:List aa}{ag:J}(aE:bS f args (J.of []) (.slice none 0 0) ag)(aT:∀a∈args,cU a)(H:J):v8 f H args:=by obtain⟨aQ,gk,aR,ak,ao⟩:=JH aE aT H;exact⟨aQ,gk,ab,ao⟩
theorem eP.drop{H:J}{j ds n k:Nat}{bs:Bytes}(g:eP H j (.slice (some ⟨j,ds,0,0,1⟩) n n) bs)(au:k≤bs.length):fU 1 (.slice (some ⟨j,ds,k,0,1⟩) (n-k) (n-k)) H=some (aN (bs.drop k)):=by
 obtain⟨b,he,ai,a8,bQ,bF⟩:=g.ex;simp only [aa.slice.injEq,Option.some.injEq,bA.mk.injEq,true_and,and_true]at he;obtain⟨rfl,rfl,_⟩:=he;simp only [fU,if_true,ai];split
 ·rename_i h;rw [List.drop_eq_nil_of_le ab];rfl
 ·rw [if_pos ⟨by simp [af.cC,bQ,aN];omega,by simp [bQ,aN];omega⟩,bQ]
  congr 1
  rw [List.take_of_length_le (by simp [aN])];simp [aN,List.map_drop]
end Go.Proofs.YtddnafghiejcoaaGreatDoor
namespace Go.Keys
open Go.Lib
theorem Q'{w:Bytes}(h:kg w=true):w.all digit=true∧number w=200:=by
 unfold kg at h;simp only [Bool.or_eq_true,Bool.and_eq_true,beq_iff_eq]at h;rcases h with h|⟨h,_⟩
 ·subst h;decide
 ·have e:∀w:Bytes,(w.dropWhile (· == 48)).all digit=true→w.all digit=true∧number w=number (w.dropWhile (· == 48)):=by
   intro w;induction w with
   |nil=>intro _;exact⟨rfl,rfl⟩
   |cons b r ih =>
    intro bU;by_cases ax:b=48
    ·subst ax;have bi:(48::r).dropWhile (· == (48:UInt8))=r.dropWhile (· == 48):=by simp [List.dropWhile]
     rw [bi]at bU⊢;obtain⟨a,c⟩:=ih bU;refine⟨by simp only [List.all_cons,a,Bool.and_true];decide,?_⟩;rw [←c];rfl
    ·have bi:(b::r).dropWhile (· == (48:UInt8))=b::r:=by rw [List.dropWhile_cons,if_neg (by simpa using ax)]
     rw [bi]at bU⊢;exact⟨bU,rfl⟩
  have:=e w (by rw [h];decide);rw [h]at this;exact⟨this.1,by rw [this.2];decide⟩
theorem aeb{n:Nat}(h:n≠200):kg (decDigits n)=false:=by
 cases q:kg (decDigits n)with
 |false=>rfl
 |true =>
  have:=(Q' q).2;rw [QE]at this;exact absurd this h
theorem aec(n m:Nat):kg (d' [n,m])=false:=by
 cases q:kg (d' [n,m])with
 |false=>rfl
 |true =>
  have:=(Q' q).1;rw [d',List.all_append,List.all_cons]at this;simp [digit]at this
theorem JI{c:UInt8}{n m:Nat}(aR:n<1000000000)(hm:m≤7)(ac:¬(c=82∨c=99∨c=110))(ai:¬(c=77∨c=109)) :
 told (d' [n,m+1]) c=if 0<gw c.toNat∧n=1 then some (er (gw c.toNat) m)else if c=126∧0<iM n then some (er (iM n) m)else if c=117 then dL n m else none:=by
 unfold told;rw [if_neg ac,if_neg ai,Ji (by intro x aj;simp only [List.mem_cons,List.not_mem_nil,or_false]at aj;rcases aj with rfl|rfl<;>omega)];simp only [List.length_cons,List.length_nil];rw [if_neg ab];have e:(((m+1:Nat):Int)-1)=m:= ab;rw [e];simp
theorem aed{c:UInt8}{n:Nat}(aR:n<1000000000)(ac:¬(c=82∨c=99∨c=110))(ai:¬(c=77∨c=109)) :
 told (d' [n]) c=if c=126∧0<iM n then some (er (iM n) 0)else if c=117 then dL n 0 else none:=by
 unfold told;rw [if_neg ac,if_neg ai,Ji (by intro x aj;simp only [List.mem_cons,List.not_mem_nil,or_false]at aj;omega)];simp
theorem JJ{n m:Nat}(aR:n<1000000000)(hm:m≤8):(d' [n,m]).length≤60:=by rw [d',d',List.length_append,List.length_cons];have:=kH (n:=n) (k:=8) (by simpa using aR);have:=kH (n:=m) (k:=0) (by simp;omega);omega
theorem JK{r m:Nat}(bc:r<2097153)(hm:m≤7){e:bl}(h:dL r m=some e):dd zero (eO [117] [r,m+1])=(zero,[e]):=by refine ze (JJ ab ab) aS aS (fun h=>absurd h aS) ?_;rw [JI ab hm aS aS,if_neg (by simp [gw]),if_neg (fun q=>absurd q.1 aS),if_pos rfl,h]
theorem Ra{r m:Nat}(hs:shown r=true):dL r m=some (fi r m):=by unfold dL;have:=pF hs;unfold Scalar at this;rw [if_neg ab,if_neg ab,if_neg ab,if_neg ab,if_neg (by simp [hs];omega)]
theorem aee(s:Bytes):dd zero (27::s)=dd ⟨.dj,[27],[],[]⟩ s:=by rw [dd];show(_,[]++_)=_;rw [List.nil_append];rfl
theorem aef{c:UInt8}(h:c.toNat<32∨c.toNat=127)(ji:c≠27):dd zero [c]=(zero,[control c.toNat]):=by rw [vV];show ground zero c=_;unfold ground;rw [if_neg ji];unfold iv;rw [if_pos h];rfl
theorem aeg{c:UInt8}(h:c.toNat<32∨c.toNat=127)(ji:c≠27):dd zero [27,c]=(zero,[{control c.toNat with df:=(control c.toNat).df+2}]):=by rw [aee,vV];show dj _ c=_;unfold dj;rw [if_neg ji,if_neg (by rintro rfl;revert h;decide),if_neg (by rintro rfl;revert h;decide)];unfold plain iv;rw [if_pos h];rfl
theorem Rb{r:Nat}{c:UInt8}(h:tX r=some c):(c.toNat<32∨c.toNat=127)∧c≠27∧control c.toNat=fi r 4:=by
 have go:∀k:Nat,k<32→k≠27→k≠9→k≠13→u8 k=c→(k=0→r=32)→(0<k→k<27→r=k+96)→(27<k→r=k+64)→(c.toNat<32∨c.toNat=127)∧c≠27∧control c.toNat=fi r 4:=by
  intro k ac ai a8 bQ e a b d;have lR:c.toNat=k:=by rw [←e];exact kJ ab
  refine⟨.inl ab,by rintro rfl;exact ai (by rw [←lR];rfl),?_⟩;rw [lR];unfold control;rw [if_neg bQ,if_neg a8,if_neg ab];split
  ·rename_i bf;rw [a bf];rfl
  ·split
   ·rw [b ab ab];simp [fi]
   ·rw [d ab];simp [fi]
 unfold tX at h;split at h
 ·simp only [Option.some.injEq]at h;exact go 0 aS aS aS aS (by rw [←h];rfl) (fun _=> ab) ab ab
 ·split at h
  ·simp only [Option.some.injEq]at h;exact go (r%32) ab ab ab ab h ab ab ab
  ·split at h
   ·simp only [Option.some.injEq]at h;exact go (r%32) ab ab ab ab h ab ab ab
   ·cases h
theorem aeh{r m:Nat}(hs:shown r=true)(hm:m≤7):dd zero (jL r m)=(zero,[fi r m]):=by
 obtain⟨bf,lY,oA,_⟩:=pF hs;have e:(r:Int).toNat=r:= ab;rw [e]at bf lY oA;have bc:r<2097153:=by unfold Scalar at bf;omega
 unfold jL;split
 ·rename_i mM;subst mM;exact acX bf lY oA
 ·split
  ·rename_i h;rw [h.1];exact acY bf lY oA h.2.1 h.2.2
  ·split
   ·rename_i C8;split
    ·rename_i c aw;obtain⟨av,a2,a3⟩:=Rb aw;split
     ·rename_i bQ;rw [aef av a2,a3,bQ];rfl
     ·rw [aeg av a2,a3,show m=6 by omega];rfl
    ·exact JK bc hm (Ra hs)
   ·exact JK bc hm (Ra hs)
theorem aei{k:Nat}{c:UInt8}(h:sr k=some c):gw c.toNat=k∧0<k∧64≤c.toNat∧c.toNat≤126∧¬(c=82∨c=99∨c=110)∧¬(c=77∨c=109)∧c≠126∧c≠90∧c≠73∧c≠79:=by
 unfold sr at h;split at h
 ·simp only [Option.some.injEq]at h;subst h;rcases (show k=5∨k=6∨k=7∨k=8 by omega)with rfl|rfl|rfl|rfl<;>decide
 ·split at h
  ·simp only [Option.some.injEq]at h;subst h;rename_i au;subst au;decide
  ·split at h
   ·simp only [Option.some.injEq]at h;subst h;rename_i au;subst au;decide
   ·cases h
theorem JL{k n:Nat}(h:qP k=some n):iM n=k∧0<k∧n≤24:=by
 have go:∀k:Fin 33,∀n:Fin 25,qP k.val=some n.val→iM n.val=k.val∧0<k.val:= aS
 have au:k<33∧n<25:=by
  unfold qP at h
  repeat' split at h
  all_goals first|(cases h;done)|(simp only [Option.some.injEq]at h;omega)
 have:=go ⟨k,au.1⟩ ⟨n,au.2⟩ h;exact⟨this.1,this.2,ab⟩
theorem aej{k:Nat}(ac:1≤k)(bQ:k≤4)(m:Nat):dL (nG k) m=some (er k m):=by rcases (show k=1∨k=2∨k=3∨k=4 by omega)with rfl|rfl|rfl|rfl<;>rfl
theorem aek{k m:Nat}{b:Bytes}(hm:m≤7)(h:kG k m=some b)(ax:b≠[27]):dd zero b=(zero,[er k m]):=by
 unfold kG at h;split at h
 ·rename_i au;split at h
  ·rename_i mM;simp only [Option.some.injEq]at h;subst h mM;rcases (show k=1∨k=2∨k=3∨k=4 by omega)with rfl|rfl|rfl|rfl
   ·decide
   ·decide
   ·decide
   ·exact absurd rfl ax
  ·split at h
   ·rename_i ni;simp only [Option.some.injEq]at h;subst h;rw [ni.1];rcases (show k=1∨k=2∨k=3 by omega)with rfl|rfl|rfl<;>decide
   ·split at h
    ·rename_i ni;simp only [Option.some.injEq]at h;subst h;rw [ni.1,ni.2];decide
    ·simp only [Option.some.injEq]at h;subst h;refine JK ?_ hm (aej au.1 au.2 m);unfold nG;repeat' split
     all_goals omega
 ·split at h
  ·rename_i c aw;obtain⟨a0,av,a2,a3,a4,a5,pc,xN,Gl,a9⟩:=aei aw;split at h
   ·rename_i mM;simp only [Option.some.injEq]at h;subst h mM;refine ze aS a2 a3 (fun h=>absurd h pc) ?_;show told [] c=_;unfold told;rw [if_neg a4,if_neg a5];show(if c=90 then _ else _)=_;rw [if_neg xN,if_neg Gl,if_neg a9,if_pos ab,a0];rfl
   ·simp only [Option.some.injEq]at h;subst h;refine ze (JJ aS ab) a2 a3 (fun h=>absurd h pc) ?_;rw [JI aS hm a4 a5,if_pos ⟨ab,rfl⟩,a0]
  ·split at h
   ·rename_i mM;simp only [Option.some.injEq]at h;subst h;rw [mM.1];rcases (show k=21∨k=22∨k=23∨k=24 by omega)with rfl|rfl|rfl|rfl<;>decide
   ·split at h
    ·rename_i n aR;obtain⟨a0,av,a2⟩:=JL aR;split at h
     ·rename_i mM;simp only [Option.some.injEq]at h;subst h mM;refine ze ?_ aS aS (fun _=>aeb ab) ?_
      ·show(decDigits n).length≤60;have:=kH (n:=n) (k:=1) (by simp;omega);omega
      ·rw [aed ab aS aS,if_pos ⟨rfl,ab⟩,a0];rfl
     ·simp only [Option.some.injEq]at h;subst h;refine ze (JJ ab ab) aS aS (fun _=>aec _ _) ?_;rw [JI ab hm aS aS,if_neg (by simp [gw]),if_pos ⟨rfl,ab⟩,a0]
    ·cases h
theorem JM:∀c:Fin 7,∀m:Fin 8,(gp c.val+4*m.val)/4%8=m.val∧gp c.val+4*m.val-4*m.val=gp c.val∧gp c.val+4*m.val<1000:= aS
theorem ael{c m x y:Nat}(aw:c≤6)(hm:m≤7)(aj:x<4096)(bV:y<4096):dd zero (lX c m x y)=(zero,[⟨3,c,m,x,y,[]⟩]):=by
 obtain⟨a',bP,ei⟩:=JM ⟨c,ab⟩ ⟨m,ab⟩;simp only at a' bP ei
 have hw:(60::d' [gp c+4*m,x+1,y+1]).all qR=true:=by rw [List.all_cons,Jj];rfl
 have aC:(60::d' [gp c+4*m,x+1,y+1]).length≤60:=by rw [d',d',d'];simp only [List.length_cons,List.length_append];have:=kH (n:=gp c+4*m) (k:=2) (by simp;omega);have:=kH (n:=x+1) (k:=3) (by simp;omega);have:=kH (n:=y+1) (k:=3) (by simp;omega);omega
 have aR:numbers (d' [gp c+4*m,x+1,y+1])=some [gp c+4*m,x+1,y+1]:=Ji (by
  intro n aR;simp only [List.mem_cons,List.not_mem_nil,or_false]at aR
  rcases aR with rfl|rfl|rfl<;>omega)
 have ex:(((x+1:Nat):Int)-1)=x:= ab;have je:(((y+1:Nat):Int)-1)=y:= ab;by_cases a8:c=3
 ·subst a8;show dd zero (27::91::((60::d' _)++[109]))=_;refine Jk hw aC aS aS (fun h=>absurd h aS) ?_;show(match numbers (d' [gp 3+4*m,x+1,y+1])with|some [ap,a6,n2]=>_|_=>_)=_;rw [aR];simp only [a',bP];rw [if_neg ab,if_pos (by simp [gp]),ex,je];rfl
 ·show dd zero (27::91::((60::d' _)++[if c=3 then 109 else 77]))=_;rw [if_neg a8];refine Jk hw aC aS aS (fun h=>absurd h aS) ?_;show(match numbers (d' [gp c+4*m,x+1,y+1])with|some [ap,a6,n2]=>_|_=>_)=_;rw [aR];simp only [a',bP];rw [if_neg ab,if_neg aM,ex,je];rcases (show c=0∨c=1∨c=2∨c=4∨c=5∨c=6 by omega)with rfl|rfl|rfl|rfl|rfl|rfl<;>rfl
end Go.Keys
namespace Go.Keys
def Div(x:Bytes):Prop:= ¬x <+: dW∧¬dW <+: x
theorem aem{x:Bytes}(h:Div x)(t:Bytes):Div (x++t):=by
 refine⟨fun q=>h.1 ((List.prefix_append x t).trans q),fun q=> ?_⟩;rcases List.prefix_append_right_inj x |>.1 (List.prefix_refl _)with _
 rcases Nat.le_total x.length dW.length with aC|aC
 ·exact h.1 (List.prefix_of_prefix_length_le (List.prefix_append x t) q aC)
 ·exact h.2 (List.prefix_of_prefix_length_le q (List.prefix_append x t) aC)
theorem aen(P:Bytes)(b:UInt8)(M:Nat):(P++[b]).take M=if(P.take M).length<M then P.take M++[b]else P.take M:=by
 rw [List.length_take];split
 ·rename_i h;rw [List.take_append,List.take_of_length_le (l:=[b]) (by simp;omega)]
 ·rename_i h;rw [List.take_append,show M-P.length=0 by omega];simp
theorem JN(P x:Bytes):(P++x).drop P.length=x:= aM
theorem Rc:∀(n:Nat)(k P:Bytes),k.length≤n→k.length≤6→(∀i,i<P.length→Div ((P++k).drop i)) →
 ∃iT,iT++(shift n k (P.take 65536)).1=P++k∧(shift n k (P.take 65536)).2=iT.take 65536∧(shift n k (P.take 65536)).1 <+: dW∧∀i,i<iT.length→Div ((P++k).drop i)
 |0,k,P,h,_,aE=>by have:k=[]:=List.eq_nil_of_length_eq_zero ab;subst this;exact⟨P,by simp [shift],by simp [shift],by simp [shift],aE⟩
 |n+1,[],P,h,_,aE=>⟨P,by simp [shift],by simp [shift],by simp [shift],aE⟩
 |n + 1,b::r,P,h,dv,aE=>by
  rw [shift];split
  ·rename_i ah;exact⟨P,rfl,rfl,List.isPrefixOf_iff_prefix.1 ah,aE⟩
  ·rename_i ah;rw [←aen];have e:P++b::r=(P++[b])++r:= aM;rw [e]
   have hdiv:Div (b::r):=by refine⟨fun q=>ah (List.isPrefixOf_iff_prefix.2 q),fun q=> ?_⟩;have:=q.eq_of_length_le (by simpa [dW]using dv);exact ah (List.isPrefixOf_iff_prefix.2 (by rw [this];exact List.prefix_refl _))
   refine Rc n r (P++[b]) (by simp only [List.length_cons]at h;omega) (by simp only [List.length_cons]at dv;omega) fun i aq=> ?_
   rw [←e];simp only [List.length_append,List.length_cons,List.length_nil]at aq;rcases Nat.lt_or_ge i P.length with ac|ac
   ·exact aE i ac
   ·rw [show i=P.length by omega,JN];exact hdiv
structure zr(S P:Bytes)(s:bK):Prop where
 nx:s.nx=.cK
 aF:s.aF=[]
 all:S=P++s.al
 aD:s.aD=P.take 65536
 short:s.al.length<6
 pre:s.al <+: dW
 div:∀i,i<P.length→Div (S.drop i)
def C9(t:Bytes):bl:=⟨4,0,0,0,0,t⟩
theorem Rd{S P:Bytes}{s:bK}(h:zr S P s)(c:UInt8) :
 ((step s c).2=[]∧∃iT,zr (S++[c]) iT (step s c).1)∨(∃iT,S++[c]=iT++dW∧step s c=(zero,[C9 (iT.take 65536)])∧∀i,i<iT.length→Div ((S++[c]).drop i)):=by
 obtain⟨nx,al,aF,aD⟩:=s;obtain⟨ac,ai,a8,bQ,bF,dv,cE⟩:=h;simp only at ac ai a8 bQ bF dv;subst ac ai a8 bQ;have e:P++al++[c]=P++(al++[c]):= aM
 have k:=Rc (al.length+1) (al++[c]) P aM (by simp;omega) fun i aq=>by rw [←e,List.drop_append_of_le_length (by simp;omega)];exact aem (cE i aq) _
 obtain⟨iT,av,a2,a3,a4⟩:=k;show((cK _ c).2=[]∧∃iT,zr _ iT (cK _ c).1)∨(∃iT,_∧cK _ c=_∧_);unfold cK;simp only;split
 ·rename_i aC;refine .inr ⟨iT,?_,?_,?_⟩
  ·rw [e,←av]
   congr 1
   exact a3.eq_of_length_le (by rw [aC];decide)
  ·rw [a2];rfl
  ·rw [e];exact a4
 ·rename_i aC;have hlen:=a3.length_le;have Ks:dW.length=6:=rfl;refine .inl ⟨rfl,iT,rfl,rfl,by rw [e,←av],a2,by show(shift _ _ _).1.length<6;omega,a3,by rw [e];exact a4⟩
theorem Re:∀(t:Bytes),hasEnd t=false↔ ∀i,¬dW <+: t.drop i
 |[]=>by simp [hasEnd];decide
 |b ::r=>by
  rw [hasEnd,Bool.or_eq_false_iff,Re r];constructor
  ·rintro ⟨ac,ai⟩ i;cases i with
   |zero=>intro q;rw [List.drop_zero]at q;rw [List.isPrefixOf_iff_prefix.2 q]at ac;cases ac
   |succ i=>rw [List.drop_succ_cons];exact ai i
  ·intro h;refine⟨?_,fun i=>by have:=h (i+1);rwa [List.drop_succ_cons]at this⟩;cases q:dW.isPrefixOf (b::r)with
   |false=>rfl
   |true=>exact absurd (List.isPrefixOf_iff_prefix.1 q) (h 0)
theorem Rf:∀(t S P:Bytes)(s:bK),zr S P s→t≠[]→(∀i,i+6<(S++t).length→ ¬dW <+: (S++t).drop i)→ ∀Q,S++t=Q++dW→dd s t=(zero,[C9 (Q.take 65536)])
 |[],_,_,_,_,h,_,_,_=>absurd rfl h
 |[c],S,P,s,aq,_,ao,Q,eD=>by
  rw [vV];rcases Rd aq c with ⟨_,iT,h⟩|⟨iT,e,h,_⟩
  ·exfalso;have aT:=h.all;rw [eD]at aT;have hs:=h.short;have aC:=congrArg List.length aT;have dv:dW.length=6:=rfl;simp only [List.length_append]at aC;have:=h.div Q.length ab;rw [eD,JN]at this;exact this.1 (List.prefix_refl _)
  ·rw [h];rw [eD]at e;have:=List.append_cancel_right e;rw [this]
 |c ::d::r,S,P,s,aq,_,ao,Q,eD=>by
  rw [dd];have e0:S++c::d::r=(S++[c])++(d::r):= aM;rcases Rd aq c with ⟨ai,iT,h⟩|⟨iT,e,h,_⟩
  ·rw [ai,List.nil_append,Rf (d::r) (S++[c]) iT _ h aM (by rw [←e0];exact ao) Q (by rw [←e0];exact eD)]
  ·exfalso;have aC:=congrArg List.length e;have dv:dW.length=6:=rfl;simp only [List.length_append,List.length_cons,List.length_nil]at aC;refine ao iT.length (by simp only [List.length_append,List.length_cons];omega) ?_;rw [e0,e,List.append_assoc,JN];exact List.prefix_append _ _
theorem aeo{t:Bytes}(aC:t.length≤65536)(h:hasEnd t=false):dd zero (mL++(t++dW))=(zero,[C9 t]):=by
 have e:dd zero mL=(⟨.cK,[],[],[]⟩,[]):= aS;rw [Bq,e];simp only [List.nil_append];rw [Rf (t++dW) [] [] _ ⟨rfl,rfl,rfl,rfl,aS,aS,aM⟩ (by simp [dW]) ?_ t rfl,List.take_of_length_le aC];intro i aq q;rw [List.nil_append]at aq q;rw [List.length_append]at aq;have dv:dW.length=6:=rfl;rw [Re]at h;rcases Nat.lt_or_ge t.length (i+6)with ac|ac
 ·
   obtain⟨j,a1⟩:∃j,t.length=i+j:=⟨t.length-i,ab⟩
   have QV:1≤j∧j≤5:= ab;obtain⟨u,hu⟩:=q;have g:=congrArg (fun l=>l[j]?) hu;simp only [List.getElem?_drop,List.getElem?_append]at g;rw [if_pos ab,if_neg ab,show i+j-t.length=0 by omega]at g;rcases (show j=1∨j=2∨j=3∨j=4∨j=5 by omega)with rfl|rfl|rfl|rfl|rfl<;>exact absurd g aS
 ·refine h i ?_;rw [List.drop_append_of_le_length ab]at q;exact List.prefix_of_prefix_length_le q (List.prefix_append _ _) (by rw [List.length_drop];omega)
end Go.Keys
namespace Go.Keys
theorem JO(c m:Int):(fi c m).kind≠6:=fun h=>absurd (show(1:Int)=6 from h) aS
theorem zt(c m:Int):(er c m).kind≠6:=fun h=>absurd (show(2:Int)=6 from h) aS
theorem zu(t:Bytes):(gM t).kind≠6:=fun h=>absurd (show(7:Int)=6 from h) aS
theorem aep(t:Bytes):(C9 t).kind≠6:=fun h=>absurd (show(4:Int)=6 from h) aS
def Rg(s:bK)(c:UInt8)(r:bK×List bl):Prop:= ∀e∈r.2,e.kind=6→s.nx=.sequence∧r.2=[e]∧r.1.nx=.ground∧e=⟨6,0,0,0,0,s.al.drop 2++[c]⟩
theorem qT{s:bK}{c:UInt8}{r:bK×List bl}(h:∀e∈r.2,e.kind≠6):Rg s c r:=fun e he au=>absurd au (h e he)
theorem Rh(c:Nat):(control c).kind≠6:=by
 unfold control
 repeat' split
 all_goals first|exact JO _ _|exact zt _ _
theorem Ri{s:bK}{c:UInt8}{no:bK→bK×List bl}(h:∀s1,∀e∈(no s1).2,e.kind≠6):∀e∈(gv s c no).2,e.kind≠6:=by
 unfold gv;simp only;split
 ·intro e he;cases he
 ·split
  ·split
   ·intro e he;simp only [tell,List.mem_singleton]at he;subst he;exact JO _ _
   ·intro e he;simp only [tell,List.mem_singleton]at he;subst he;exact zu _
  ·exact h _
theorem Rj{s:bK}{c:UInt8}{no:bK→bK×List bl}(h:∀s1,∀e∈(no s1).2,e.kind≠6):∀e∈(iv s c no).2,e.kind≠6:=by
 unfold iv;split
 ·intro e he;simp only [tell,List.mem_singleton]at he;subst he;split
  ·exact Rh _
  ·exact Rh _
 ·exact Ri h
theorem C'(s:bK)(c:UInt8):∀e∈(ground s c).2,e.kind≠6:=by
 unfold ground;split
 ·intro e he;cases he
 ·refine Rj fun s1 e he=> ?_
  simp only [tell,List.mem_singleton]at he;subst he;exact zu _
theorem Da{a:bl}{l:List bl}(aT:a.kind≠6)(h:∀e∈l,e.kind≠6):∀e∈a::l,e.kind≠6:=by
 intro e he;rcases List.mem_cons.1 he with rfl|he
 ·exact aT
 ·exact h e he
theorem JP(s:bK)(c:UInt8):∀e∈(bad s c).2,e.kind≠6:=Da (zu _) (C' _ _)
theorem zv{a:bl}(aT:a.kind≠6):∀e∈ [a],e.kind≠6:=Da aT aM
theorem Rk(s:bK)(c:UInt8):Rg s c (step s c):=by
 unfold step;split
 ·exact qT (C' _ _)
 ·unfold dj;refine qT ?_;split
  ·exact Da (zt _ _) (C' _ _)
  ·split
   ·intro e he;cases he
   ·split
    ·intro e he;cases he
    ·exact Rj fun s1=>JP _ _
 ·exact qT (Ri fun s1=>JP _ _)
 ·rename_i aR;unfold sequence;split
  ·unfold done;split
   ·exact qT (by intro e he;cases he)
   ·intro e he au;simp only [tell,List.mem_singleton]at he;refine⟨aR,by simp only [tell,he],rfl,?_⟩;cases bW:told (s.al.drop 2) c with
    |none=>rw [bW]at he;subst he;exact absurd au (zu _)
    |some x =>
     rw [bW]at he;simp only [Option.getD_some]at he;subst he;rcases acA bW with h|h
     ·rcases h with h|h|h|h<;>(rw [h.1]at au;exact absurd au aS)
     ·exact h
  ·split
   ·exact qT (JP _ _)
   ·split
    ·exact qT (zv (zu _))
    ·exact qT (by intro e he;cases he)
 ·unfold single;refine qT ?_;split
  ·exact zv (zt _ _)
  ·split
   ·exact zv (zt _ _)
   ·split
    ·exact zv (zt _ _)
    ·exact Da (JO _ _) (C' _ _)
 ·unfold cK;simp only;refine qT ?_;split
  ·exact zv (aep _)
  ·intro e he;cases he
theorem Rl:∀(n:Nat)(k p:Bytes),(shift n k p).1.length≤k.length
 |0,k,p=>by simp [shift]
 |n+1,[],p=>by simp [shift]
 |n +1,b::r,p=>by
  rw [shift];split
  ·exact Nat.le_refl _
  ·have:=Rl n r (if p.length<65536 then p++[b]else p);simp only [List.length_cons];omega
theorem JQ(c:UInt8){s:bK}{no:bK→bK×List bl}(h:∀s1,(no s1).1.nx≠ .cK):(gv s c no).1.nx≠ .cK:=by
 unfold gv;simp only;split
 ·intro h;cases h
 ·split
  ·split<;>(intro h;cases h)
  ·exact h _
theorem v'(c:UInt8)(s:bK):(ground s c).1.nx≠ .cK:=by
 unfold ground;split
 ·intro h;cases h
 ·unfold iv;split
  ·intro h;cases h
  ·exact JQ c fun s1=>by intro h;cases h
theorem aeq{s:bK}{c:UInt8}(ah:s.nx≠ .cK)(ac:(step s c).1.nx=.cK):(step s c).1=⟨.cK,[],s.aF,s.aD⟩∧(step s c).2=[]:=by
 revert ac
 unfold step;split
 ·exact fun h=>absurd h (v' c s)
 ·unfold dj;split
  ·exact fun h=>absurd h (v' c _)
  ·split
   ·intro h;cases h
   ·split
    ·intro h;cases h
    ·unfold plain iv;split
     ·intro h;cases h
     ·exact fun h=>absurd h (JQ c fun s1=>v' c _)
 ·exact fun h=>absurd h (JQ c fun s1=>v' c _)
 ·rename_i aR;unfold sequence;split
  ·unfold done;split
   ·intro _;exact⟨rfl,rfl⟩
   ·intro h;cases h
  ·split
   ·exact fun h=>absurd h (v' c _)
   ·split
    ·intro h;cases h
    ·exact fun h=>absurd h ah
 ·unfold single;split
  ·intro h;cases h
  ·split
   ·intro h;cases h
   ·split
    ·intro h;cases h
    ·exact fun h=>absurd h (v' c _)
 ·rename_i aR;exact absurd aR ah
theorem aer{s:bK}(c:UInt8)(fa:Good s):(step s c).1.al.length≤s.al.length+1:=by
 by_cases ah:s.nx=.cK
 ·unfold step;rw [ah];simp only;unfold cK;simp only;split
  ·simp [tell]
  ·have:=Rl (s.al.length+1) (s.al++[c]) s.aD;simp only [List.length_append,List.length_cons,List.length_nil]at this;exact this
 ·rcases acv c fa ah with ac|ac|⟨_,ac⟩|⟨_,_,ac⟩
  ·rw [Qz (xR c fa) ac];simp [zero]
  ·rw [(aeq ah ac).1];simp
  ·rw [ac];simp
  ·rw [ac];simp
theorem Rm:Good zero:=⟨rfl,rfl,rfl⟩
theorem Rn:∀(b:Bytes){s:bK},Good s→ ∀e∈(dd s b).2,e.kind=6→e.text.length+2≤s.al.length+b.length
 |[],s,_,e,he,_=>by simp [dd]at he
 |c ::r,s,fa,e,he,au=>by
  rw [dd]at he;rcases List.mem_append.1 he with he|he
  ·obtain⟨ac,ai,a8,bQ⟩:=Rk s c e he au;obtain⟨nx,al,aF,aD⟩:=s;simp only at ac;subst ac;obtain⟨_,_,bF,_⟩:=fa;rw [bQ];simp only [List.length_append,List.length_drop,List.length_cons,List.length_nil]at *;omega
  ·have ac:=aer c fa;have ai:=Rn r (xR c fa) e he au;simp only [List.length_cons];omega
theorem aes{t:Bytes}(h:(dd zero (27::91::t)).2=[⟨6,0,0,0,0,t⟩]):(dd zero (27::91::t)).1=zero:=by
 rcases List.eq_nil_or_concat t with rfl|⟨eQ,c,rfl⟩
 ·exact absurd h aS
 ·have e:(27:UInt8)::91::eQ.concat c=(27::91::eQ)++[c]:= aM;rw [e,Bq,vV]at h⊢;simp only at h⊢;have fa:=BD (27::91::eQ) Rm;have h9:(⟨6,0,0,0,0,eQ.concat c⟩:bl)∈(dd zero (27::91::eQ)).2++(step (dd zero (27::91::eQ)).1 c).2:=by rw [h];simp
  rcases List.mem_append.1 h9 with ac|ac
  ·have:=Rn _ Rm _ ac rfl;simp [zero]at this;omega
  ·obtain⟨_,_,a8,_⟩:=Rk _ c _ ac rfl;exact Qz (xR c fa) a8
theorem aet{e:bl}{b:Bytes}(bf:0≤e.df)(h:enc e=some b)(ax:b≠[27]):dd zero b=(zero,[e]):=by
 obtain⟨kind,code,df,x,y,text⟩:=e;simp only at bf;unfold enc at h;simp only at h;split at h
 ·rename_i au;split at h
  ·rename_i hm;simp only [Option.some.injEq]at h;simp only [ss,Bool.and_eq_true,decide_eq_true_eq]at hm;obtain⟨⟨⟨⟨⟨⟨⟨c0,kZ⟩,m7⟩,jA⟩,kY⟩,Db⟩,o2⟩,rfl⟩:=hm;subst h au;rw [ael ab ab ab ab,Int.toNat_of_nonneg c0,Int.toNat_of_nonneg bf,Int.toNat_of_nonneg jA,Int.toNat_of_nonneg Db]
  ·cases h
 ·split at h
  ·cases h
  ·rename_i Ro;split at h
   ·rename_i au;obtain⟨rfl,ah,hs⟩:=au;simp only [qQ,Bool.and_eq_true,decide_eq_true_eq]at ah;obtain⟨⟨rfl,rfl⟩,rfl⟩:=ah;simp only [Option.some.injEq]at h;subst h;have:=(pF hs).2.2.2;rw [←this]at hs;rw [aeh hs ab,this,Int.toNat_of_nonneg bf];rfl
   ·split at h
    ·rename_i au;obtain⟨rfl,ah⟩:=au;simp only [qQ,Bool.and_eq_true,decide_eq_true_eq]at ah;obtain⟨⟨rfl,rfl⟩,rfl⟩:=ah;split at h
     ·rename_i c0;rw [aek ab h ax,Int.toNat_of_nonneg c0,Int.toNat_of_nonneg bf];rfl
     ·cases h
    ·split at h
     ·rename_i aZ;simp only [Option.some.injEq]at h;subst h;rw [aZ];decide
     ·split at h
      ·rename_i aZ;simp only [Option.some.injEq]at h;subst h;rw [aZ];decide
      ·split at h
       ·rename_i aZ;simp only [Option.some.injEq]at h;subst h;rw [aZ.1];exact aeo aZ.2.1 aZ.2.2
       ·split at h
        ·rename_i aZ;rw [aZ.1]at h;split at h
         ·rename_i bc;simp only [Option.some.injEq]at h;subst h;rw [aZ.1];exact Prod.ext (aes bc.1) bc.1
         ·cases h
        ·cases h
theorem aeu{r:Nat}(lY:32≤r)(hs:Scalar r):put r≠[27]:=by
 intro h;rcases Nat.lt_or_ge r 128 with ac|ac
 ·rw [pj ac]at h;have:=congrArg (fun l=>(l.headD 0).toNat) h;simp only [List.headD_cons,kJ (show r<256 by omega)]at this;exact absurd this (by show ¬r=27;omega)
 ·have aC:=congrArg List.length h;rcases Nat.lt_or_ge r 2048 with ai|ai
  ·rw [rT ac ai]at aC;simp at aC
  ·rcases Nat.lt_or_ge r 65536 with a8|a8
   ·rw [qp hs ai a8]at aC;simp at aC
   ·rw [rU hs a8]at aC;simp at aC
theorem aev{e:bl}(bf:0≤e.df)(h:enc e=some [27]):e=er 4 0:=by
 obtain⟨kind,code,df,x,y,text⟩:=e;simp only at bf;unfold enc at h;simp only at h;split at h
 ·split at h
  ·simp [lX]at h
  ·cases h
 ·split at h
  ·cases h
  ·rename_i Ro;split at h
   ·rename_i au;obtain⟨rfl,ah,hs⟩:=au;exfalso;obtain⟨s1,s2,Rp,_⟩:=pF hs;simp only [Option.some.injEq]at h;unfold jL at h;split at h
    ·exact aeu s2 s1 h
    ·split at h
     ·have:=zf code.toNat;simp at h;exact this h
     ·split at h
      ·split at h
       ·rename_i c aw;split at h
        ·simp only [List.cons.injEq,and_true]at h;exact(Rb aw).2.1 h
        ·simp at h
       ·simp [eO]at h
      ·simp [eO]at h
   ·split at h
    ·rename_i au;obtain⟨rfl,ah⟩:=au;simp only [qQ,Bool.and_eq_true,decide_eq_true_eq]at ah;obtain⟨⟨rfl,rfl⟩,rfl⟩:=ah;split at h
     ·rename_i c0
      have:code.toNat=4∧df.toNat=0:=by
       unfold kG at h;split at h
       ·rename_i au;split at h
        ·rename_i mM;refine⟨?_,mM⟩;rcases (show code.toNat=1∨code.toNat=2∨code.toNat=3∨code.toNat=4 by omega)with e|e|e|e
         ·rw [e]at h;exact absurd h aS
         ·rw [e]at h;exact absurd h aS
         ·rw [e]at h;exact absurd h aS
         ·exact e
        ·split at h
         ·simp at h
         ·split at h<;>simp [eO]at h
       ·split at h
        ·split at h<;>simp [eO]at h
        ·split at h
         ·simp at h
         ·split at h
          ·split at h<;>simp [eO]at h
          ·cases h
      have bi:code=4:= ab;have bu:df=0:= ab;rw [bi,bu];rfl
     ·cases h
    ·split at h
     ·simp [eO]at h
     ·split at h
      ·simp [eO]at h
      ·split at h
       ·simp [mL]at h
       ·split at h
        ·split at h
         ·simp at h
         ·cases h
        ·cases h
end Go.Keys
namespace Go.Keys
theorem aew:∀k:Fin 33,∀m:Fin 8,(1≤k.val∧k.val≤14∨21≤k.val)→(kG k.val m.val).isSome=true:= aS
structure Holds(s:bK):Prop where
 jX:Good s
 path:Path s
 seq:Seq s
 aD:s.nx=.cK→ ∃S P,zr S P s
theorem aex{s:bK}(h:Good s):s.al.length≤63:=by
 obtain⟨nx,al,aF,aD⟩:=s;cases nx with
 |ground=>obtain⟨ac,_⟩:=h;simp only at ac;subst ac;simp
 |dj=>obtain⟨ac,_⟩:=h;simp only at ac;subst ac;simp
 |da =>
  obtain⟨_,ai,_,bQ,_⟩:=h;simp only at ai bQ⊢;have aC:=congrArg List.length ai;rw [List.length_drop]at aC;have:=Wn al;omega
 |sequence=>obtain⟨_,_,_,bQ⟩:=h;simp only at bQ⊢; omega
 |single=>obtain⟨_,_,ac⟩:=h;simp only at ac;subst ac;simp
 |cK=>obtain⟨_,ac,_⟩:=h;simp only at ac⊢; omega
end Go.Keys
namespace Go.Proofs.YtddnafghiejcoaaGreatDoor
open Go.cf Go.Keys
set_option maxRecDepth 1000000
theorem aey(k:Nat):nG k<1000:=by unfold nG;split<;>(try split)<;>(try split)<;>omega
theorem aez{k m:Nat}(hm:m≤7):JF k m=kG k m:=by
 unfold JF kG;by_cases h:1≤k∧k≤4
 ·rw [if_pos h,if_pos h,zo (aey k) ab];rfl
 ·rw [if_neg h,if_neg h];cases aT:sr k with
  |some c=>simp only;rw [zo aS ab];rfl
  |none =>
   simp only;cases aR:qP k with
   |none=>rfl
   |some n =>
    have:=(JL aR).2.2;simp only;rw [ad5 ab,zo ab ab]
theorem aeA{h:J}{q i:Nat}{l:Bytes}{e:Bool}{ty:bL}(ak:h.get q=some (af.an (aN l) 1 e ty))(aq:i<l.length):bM (bY.D env) 5 ⟨q,0,0+i,0,1⟩ h=some (.int .u8 (l[i].toNat:Nat)):=by have bZ:(bY.D env 5).map (fun d=>d.kind.isAgg)=some false:= ay;obtain⟨x,ac,ai⟩:=Option.map_eq_some_iff.1 bZ;unfold bM;rw [ac,ak];simp [af.elem?,af.cC,hZ,ai,af.an,aq,aN]
def nI:Bytes:=[65,66,67,68,72,70]
theorem aeB:∀i:Fin 6,5≤hf ((nI[i.val]'(by exact i.isLt)).toNat:Int)∧hf ((nI[i.val]'(by exact i.isLt)).toNat:Int)≤10:= aS
theorem aeC:∀i:Fin 25,hH (i.val:Int)=0∨(9≤hH (i.val:Int)∧hH (i.val:Int)≤14)∨(21≤hH (i.val:Int)∧hH (i.val:Int)≤32):= aS
def mN(k:Int):Prop:= ¬(1≤k∧k≤14)∧¬(21≤k∧k≤32)
abbrev Dc(k:Int)(m q i:Nat):bJ:=[(0,.int .i32 k),(1,.int .u8 (m:Nat)),(5,.int .i64 ((m:Int)+1)),(52,.slice (some ⟨q,0,0,0,1⟩) 6 6),(53,.int .i64 6),(54,.int .i64 (i:Nat))]
theorem aeD{B q m:Nat}{k:Int}(au:mN k):∀(t i:Nat)(H:J),6-i≤t→i≤6→B≤H.U→H.get q=some (af.an (aN nI) 1 true) →
 ∃n gm,hd B 111 (cs 43 0) (Dc k m q i) H (.exit 1) [(0,.int .i32 k),(1,.int .u8 (m:Nat)),(5,.int .i64 ((m:Int)+1)),(52,.slice (some ⟨q,0,0,0,1⟩) 6 6),(53,.int .i64 6),(54,gm)] ⟨H.U+n,H.aH⟩:=by
 intro t
 have fin:∀(H:J),B≤H.U→ ∃n gm,hd B 111 (cs 43 0) (Dc k m q 6) H (.exit 1) [(0,.int .i32 k),(1,.int .u8 (m:Nat)),(5,.int .i64 ((m:Int)+1)),(52,.slice (some ⟨q,0,0,0,1⟩) 6 6),(53,.int .i64 6),(54,gm)] ⟨H.U+n,H.aH⟩:=by intro H cH;obtain⟨e,aU,ac,bc,rfl,rfl,rfl⟩:=QY H B q 6 0 k m (fun e aU ac=>e=.exit 1∧aU=Dc k m q 6∧ac=⟨H.U+1,H.aH⟩) (aY cH ⟨fun h=>absurd h ab,fun _=>⟨rfl,rfl,rfl⟩⟩);exact⟨1,_,dK.last aM bc⟩
 induction t with
 |zero =>
  intro i H bW aq cH _;obtain rfl:i=6:= ab;exact fin H cH
 |succ t ih =>
  intro i H bW aq cH ak;by_cases dv:i<6
  ·have hlen:nI.length=6:=rfl;have aT:=aeB ⟨i,dv⟩;simp only at aT
   have mZ:bM (bY.D env) 5 ⟨q,0,0+Int.toNat (i:Int),0,1⟩ ⟨H.U+4,H.aH⟩=some (.int .u8 ((nI[i]' ab).toNat:Nat)):=by rw [Int.toNat_natCast];exact aeA (h:=⟨H.U+4,H.aH⟩) ak ab
   have bX:(hf ((nI[i]' ab).toNat:Int) != k)=true:=by unfold mN at au;simp only [bne_iff_ne,ne_eq];omega
   obtain⟨e,aU,ac,bc,rfl,rfl,rfl⟩:=QY H B q i (nI[i]' ab).toNat k m (fun e aU ac=>e=.normal∧aU=Dc k m q (i+1)∧ac=⟨H.U+10,H.aH⟩)
    (aY cH ⟨fun _=>aY ab ⟨⟨ab,ab⟩,mZ,aY ab ⟨by rw [bX],aY ab ⟨⟨ab,ab⟩,rfl,by rw [show((i:Int)+1)=((i+1:Nat):Int)by omega],rfl⟩⟩⟩,fun h=>absurd h ab⟩)
   obtain⟨n,gm,dN⟩:=ih (i+1) ⟨H.U+10,H.aH⟩ ab ab (by show B≤H.U+10;omega) ak;exact⟨10+n,gm,by rw [←Nat.add_assoc];exact dK.step bc dN⟩
  ·obtain rfl:i=6:= ab;exact fin H cH
abbrev wa(k:Int)(m i:Nat):bJ:=[(0,.int .i32 k),(1,.int .u8 (m:Nat)),(5,.int .i64 ((m:Int)+1)),(9,.int .i64 (i:Nat))]
theorem aeE{B m:Nat}{k:Int}(au:mN k):∀(t i:Nat)(H:J),25-i≤t→i≤25→B≤H.U →
 ∃n,hd B 111 (cs 43 1) (wa k m i) H (.exit 3) (wa k m 25) ⟨H.U+n,H.aH⟩:=by
 intro t
 have fin:∀(H:J),B≤H.U→ ∃n,hd B 111 (cs 43 1) (wa k m 25) H (.exit 3) (wa k m 25) ⟨H.U+n,H.aH⟩:=by intro H cH;obtain⟨e,aU,ac,bc,rfl,rfl,rfl⟩:=Q0 H B 25 k m (fun e aU ac=>e=.exit 3∧aU=wa k m 25∧ac=⟨H.U+2,H.aH⟩) (aY cH ⟨fun h=>absurd h ab,fun _=>⟨rfl,rfl,rfl⟩⟩);exact⟨2,dK.last aM bc⟩
 induction t with
 |zero =>
  intro i H bW aq cH;obtain rfl:i=25:= ab;exact fin H cH
 |succ t ih =>
  intro i H bW aq cH;by_cases dv:i<25
  ·have aT:=aeC ⟨i,dv⟩;simp only at aT;have ho:((i:Int)+1)=((i+1:Nat):Int):= ab
   obtain⟨e,aU,ac,bc,rfl,rfl,rfl⟩:=Q0 H B i k m (fun e aU ac=>e=.normal∧aU=wa k m (i+1)∧ac=⟨H.U+13,H.aH⟩)
    (aY cH ⟨fun _=>aY ab ⟨fun bf=>⟨by
     have:(hH (i:Int) == k)=false:=by unfold mN at au;rw [beq_eq_false_iff_ne];omega
     rw [this],aY ab ⟨⟨ab,ab⟩,rfl,by rw [ho],rfl⟩⟩,fun bf=>aY ab ⟨⟨ab,ab⟩,rfl,by rw [ho],rfl⟩⟩,fun h=>absurd ab h⟩)
   obtain⟨n,dN⟩:=ih (i+1) ⟨H.U+13,H.aH⟩ ab ab (by show B≤H.U+13;omega);exact⟨13+n,by rw [←Nat.add_assoc];exact dK.step bc dN⟩
  ·obtain rfl:i=25:= ab;exact fin H cH
theorem aeF(H:J){k:Int}{m:Nat}(au:mN k)(hm:m≤7):v8 43 H [.int .i32 k,.int .u8 (m:Nat)]:=by
 have fb:∀{a b:Nat}{p:Prop},a≤b→p→_root_.cond (Nat.ble a b) p False:=fun h k=>by rw [Nat.ble_eq.mpr h];exact k
 have vY:∀F,bN env dF (H.U+11) (bD F) ⟨H.U+15,H.aH⟩ (Op.buildSlice 34 6 {toList:=[(0,Operand.const (Value.int .u8 (65))),(1,Operand.const (Value.int .u8 (66))),(2,Operand.const (Value.int .u8 (67))),(3,Operand.const (Value.int .u8 (68))),(4,Operand.const (Value.int .u8 (72))),(5,Operand.const (Value.int .u8 (70)))]})=some (aa.slice (some ⟨H.U+11,0,0,0,1⟩) 6 6,(⟨H.U+15,H.aH⟩:J).set (H.U+11) (af.an (aN nI) 1 true)):=by intro F;kernel_rfl
 have hT:=JG (H:=H) (y:=H.U+11) (af.an (aN nI) 1 true) 15 ab;have jD:∀x,x<H.U→((⟨H.U+15,H.aH⟩:J).set (H.U+11) (af.an (aN nI) 1 true)).get x=H.get x:=fun x aj=>J.fg _ _ ab
 have lg:((⟨H.U+15,H.aH⟩:J).set (H.U+11) (af.an (aN nI) 1 true)).U=H.U+15:=rfl;generalize (⟨H.U+15,H.aH⟩:J).set (H.U+11) (af.an (aN nI) 1 true)=H1 at vY hT jD lg;obtain⟨n,gm,dN⟩:=aeD (B:=H.U) (m:=m) au 6 0 H1 ab ab ab hT;obtain⟨n2,ot⟩:=aeE (B:=H.U) (m:=m) au 23 2 ⟨H1.U+n+11,H1.aH⟩ ab ab (by show H.U≤H1.U+n+11;omega);have ao:∀(K:Nat) x,x<H.U→(⟨H1.U+n+11+n2+K,H1.aH⟩:J).get x=H.get x:=fun K x aj=>jD x aj
 unfold mN at au;by_cases bf:k<1
 ·obtain⟨v,ag,aE,rfl,rfl⟩:=adt H H1 ⟨H1.U+n,H1.aH⟩ ⟨H1.U+n+11+n2,H1.aH⟩ (H.U+11) m k gm (fun v ag=>v=.slice none 0 0∧ag=⟨H1.U+n+11+n2+1,H1.aH⟩)
   (aY (Nat.le_refl _) (aY ab ⟨ab,ab,aY ab ⟨by simp;omega,aY ab ⟨vY _,C5 rfl hT rfl rfl aS,fw.hQ dN,aY (by show H.U≤H1.U+n;omega) ⟨fun _=>⟨by simp;omega,aY (by show H.U≤H1.U+n+10;omega) ⟨fw.hQ ot,aY (by show H.U≤H1.U+n+11+n2;omega) (fb (by show H.U≤H1.U+n+11+n2+1;omega) ⟨rfl,rfl⟩)⟩⟩,fun _=>aY (by show H.U≤H1.U+n+10;omega) ⟨fw.hQ ot,aY (by show H.U≤H1.U+n+11+n2;omega) (fb (by show H.U≤H1.U+n+11+n2+1;omega) ⟨rfl,rfl⟩)⟩⟩⟩⟩⟩))
  exact⟨_,aE,by show H.U≤H1.U+n+11+n2+1;omega,ao 1⟩
 ·obtain⟨v,ag,aE,rfl,rfl⟩:=adu H H1 ⟨H1.U+n,H1.aH⟩ ⟨H1.U+n+11+n2,H1.aH⟩ (H.U+11) m k gm (fun v ag=>v=.slice none 0 0∧ag=⟨H1.U+n+11+n2+1,H1.aH⟩)
   (aY (Nat.le_refl _) (aY ab ⟨ab,ab,aY ab ⟨by simp;omega,by simp;omega,aY ab ⟨vY _,C5 rfl hT rfl rfl aS,fw.hQ dN,aY (by show H.U≤H1.U+n;omega) ⟨fun _=>⟨fun qU=>⟨by simp;omega,aY (by show H.U≤H1.U+n+10;omega) ⟨fw.hQ ot,aY (by show H.U≤H1.U+n+11+n2;omega) (fb (by show H.U≤H1.U+n+11+n2+1;omega) ⟨rfl,rfl⟩)⟩⟩,fun qU=>aY (by show H.U≤H1.U+n+10;omega) ⟨fw.hQ ot,aY (by show H.U≤H1.U+n+11+n2;omega) (fb (by show H.U≤H1.U+n+11+n2+1;omega) ⟨rfl,rfl⟩)⟩⟩,fun _=>aY (by show H.U≤H1.U+n+10;omega) ⟨fw.hQ ot,aY (by show H.U≤H1.U+n+11+n2;omega) (fb (by show H.U≤H1.U+n+11+n2+1;omega) ⟨rfl,rfl⟩)⟩⟩⟩⟩⟩))
  exact⟨_,aE,by show H.U≤H1.U+n+11+n2+1;omega,ao 1⟩
theorem aeG(H:J){k m:Nat}(au:¬mN k)(hm:m≤7):∃b,kG k m=some b∧pJ 43 H [.int .i32 (k:Nat),.int .u8 (m:Nat)] b:=by
 have bc:zp k m=true:=by
  unfold mN at au;by_cases ac:k≤14
  ·have:=ad6 ⟨k-1,ab⟩ ⟨m,ab⟩;simpa [Nat.sub_add_cancel (show 1≤k by omega)]using this
  ·by_cases ai:k<27
   ·have:=ad7 ⟨k-21,ab⟩ ⟨m,ab⟩;simpa [Nat.sub_add_cancel (show 21≤k by omega)]using this
   ·have:=ad8 ⟨k-27,ab⟩ ⟨m,ab⟩;simpa [Nat.sub_add_cancel (show 27≤k by omega)]using this
 unfold zp at bc;rw [aez hm]at bc
 have aeH:(kG k m).isSome=true:=by unfold mN at au;exact aew ⟨k,ab⟩ ⟨m,ab⟩ (by simp only;omega)
 obtain⟨b,ax⟩:=Option.isSome_iff_exists.1 aeH;rw [ax]at bc
 exact⟨b,ax,Q4 bc (fun a aT=>by
  simp only [List.mem_cons,List.not_mem_nil,or_false]at aT
  rcases aT with rfl|rfl<;>exact cU.int _ _) H⟩
theorem aeI{k m:Nat}(au:mN k):kG k m=none:=by
 unfold mN at au;unfold kG;rw [if_neg ab];have ac:sr k=none:=by unfold sr;rw [if_neg ab,if_neg ab,if_neg ab]
 rw [ac];simp only;rw [if_neg ab];have ai:qP k=none:=by unfold qP;rw [if_neg ab,if_neg ab,if_neg ab,if_neg ab,if_neg ab]
 rw [ai]
end Go.Proofs.YtddnafghiejcoaaGreatDoor
namespace Go.Proofs.YtddnafghiejcoaaGreatDoor
open Go.cf Go.Keys Go.Shelf
set_option maxRecDepth 1000000
def aeJ:Ren where
 f:=fun x=>if x=143 then 74 else if x=144 then 45 else if x=217 then 115 else if x=219 then 95 else if x=224 then 117 else if x=225 then 116 else if x=266 then 133 else if x=267 then 118 else if x=314 then 134 else 0
 t:=fun x=>if x=3 then 3 else if x=4 then 4 else if x=5 then 5 else if x=9 then 9 else if x=46 then 108 else if x=51 then 132 else if x=146 then 176 else 0
 g:=fun x=>if x=1 then 2 else 0
theorem aeK:Lays.n144 Tryz.prog aeJ:=by constructor;all_goals first|kernel_rfl|(intro w;kernel_rfl)
theorem Rq:∀(t:Bytes),(hasEnd t=true→0≤Lib.index t dW)∧(hasEnd t=false→Lib.index t dW= -1)
 |[]=>⟨fun h=>by simp [hasEnd]at h,fun _=>by simp [Lib.index,dW]⟩
 |b ::r=>by
  obtain⟨ac,ai⟩:=Rq r;rw [hasEnd,Lib.index];cases ah:dW.isPrefixOf (b::r)with
  |true=>exact⟨fun _=> aM,fun h=>by simp at h⟩
  |false =>
   simp only [Bool.false_or,Bool.false_eq_true,if_false];refine⟨fun h=> ?_,fun h=> ?_⟩
   ·have:=ac h;rw [if_neg (by rw [beq_iff_eq];omega)];omega
   ·rw [ai h];rfl
theorem aeL(t:Bytes):Lib.contains t dW=hasEnd t:=by
 obtain⟨ac,ai⟩:=Rq t;unfold Lib.contains;cases h:hasEnd t with
 |true=>simpa using ac h
 |false=>rw [ai h];rfl
theorem aeM(t:Bytes)(bW:t.length≤65536)(H:J):bS 45 [.str t,.str dW] H (.bool (hasEnd t)) H:=by
 intro be bo db fm φ w dk ed cH ea;obtain⟨l⟩:=dk;simp only [bz,aL]at ea;obtain⟨a,eQ,rfl,⟨u,rfl,hu⟩,b,t2,rfl,⟨d,rfl,aE⟩,rfl⟩:=ea;refine⟨⟨Tryz.f45,_,ay,rfl⟩,?_⟩;have xk:=fm.keep cH fun _ aj=>aj
 obtain⟨m,hm⟩:=xk.mx
 have k:=Any.strings_Contains aeK u d m w (by
  have:u.size=t.length:=by rw [←hu];rfl
  rw [this];omega) hm
 rw [hu,aE,aeL]at k
 exact k.mono fun e bq ⟨he,hw⟩=>by subst hw;exact⟨_,φ,he,eW.refl _ _,by simp only [aL],ed,cH,Nat.le_refl _⟩
end Go.Proofs.YtddnafghiejcoaaGreatDoor
namespace Go.Keys
theorem aeN{s:bK}(h:Good s)(aR:s.nx≠ .cK):s.aD=[]:=by
 obtain⟨nx,al,aF,aD⟩:=s;cases nx with
 |ground=>exact h.2.2
 |dj=>exact h.2.2
 |da=>exact h.1
 |sequence=>exact h.2.1
 |single=>exact h.2.1
 |cK=>exact absurd rfl aR
end Go.Keys
namespace Go.Proofs.YtddnafghiejcoaaGreatDoor
open Go.cf Go.Keys
set_option maxRecDepth 1000000
def gS(e:bl)(v:aa)(ag:J):Prop :=
 ∃w c,v=.tuple [w,.int .i64 c]∧((∃bs j,enc e=some bs∧c=0∧eP ag j w bs)∨(enc e=none∧c=220∧w=.slice none 0 0))
theorem gS.new{e:bl}{w:aa}{H:J}{j k:Nat}{bs:Bytes}(he:enc e=some bs)(g:eP H j w bs):gS e (.tuple [w,.int .i64 0]) ⟨H.U+k,H.aH⟩:=⟨_,_,rfl,.inl ⟨bs,j,he,rfl,g.keep rfl (by show H.U≤H.U+k;omega)⟩⟩
theorem gS.nil{e:bl}{ag:J}(he:enc e=none):gS e (.tuple [.slice none 0 0,.int .i64 220]) ag:=⟨_,_,rfl,.inr ⟨he,rfl,rfl⟩⟩
abbrev Rr:FuncId:=21
def mO(e:bl):Prop:= ∃v ag,bS Rr [cB e] (J.of []) v ag∧gS e v ag
theorem aeO(H:J):pJ 44 H [.str [],.slice none 0 0] [27,91]:=by
 have fb:∀{a b:Nat}{p:Prop},a≤b→p→_root_.cond (Nat.ble a b) p False:=fun h k=>by rw [Nat.ble_eq.mpr h];exact k
 obtain⟨H1,ax,aw,g1,lg,jD⟩:=Jx H;have g2:=g1.keep (aQ:=⟨H1.U+8,H1.aH⟩) rfl (by show H1.U≤H1.U+8;omega);obtain⟨b,he,ai,a8,bQ,bF⟩:=g2.ex;simp only [aa.slice.injEq,Option.some.injEq,bA.mk.injEq,true_and,and_true]at he
 have aT:hB env.D 34 (.slice (some ⟨H.U+1,0,0,0,1⟩) 2 2) (.str []) (H1.U+6) ⟨H1.U+8,H1.aH⟩=some (.slice (some ⟨H.U+1,0,0,0,1⟩) 2 2,⟨H1.U+8,H1.aH⟩) :=
  (u4 vU _).symm.trans (Vo (b:=b) vU (by rfl) aS aS (fun a aT=>by cases aT;exact⟨ai,rfl,rfl⟩) (Nat.le_refl _) (fun h=>by cases h))
 obtain⟨w,ag,aE,rfl,rfl⟩:=QT H H1 ⟨H1.U+8,H1.aH⟩ (H.U+1) [] (.slice (some ⟨H.U+1,0,0,0,1⟩) 2 2) (fun w ag=>w=.slice (some ⟨H.U+1,0,0,0,1⟩) 2 2∧ag=⟨H1.U+8,H1.aH⟩)
  (aY (Nat.le_refl _) (aY ab ⟨ax _,aw _ rfl,aY ab (aY ab (aY ab ⟨(zj _ _ _ _).trans aT,fb (by show H.U≤H1.U+8;omega) ⟨rfl,rfl⟩⟩))⟩))
 exact⟨_,_,H.U+1,aE,g2,ab,jD⟩
theorem Dd(H:J){t:Bytes}(bW:t.length≤62):pJ 44 H [.str t,.slice none 0 0] (27::91::t):=by
 by_cases h:t=[]
 ·subst h;exact aeO H
 ·exact adm H h ab
theorem aeP{e:bl}(au:e.kind≠3)(hm:7<e.df):enc e=none:=by unfold enc;rw [if_neg au,if_pos hm]
theorem aeQ{e:bl}(au:e.kind≠3)(hm:7<e.df):mO e:=by obtain⟨v,ag,aE,rfl,_⟩:=adx e.kind e.code e.df e.x e.y e.text (fun v ag=>v=.tuple [.slice none 0 0,.int .i64 220]∧True) ⟨by simp [au],by simp;omega,rfl,trivial⟩;exact⟨_,_,aE,gS.nil (aeP au hm)⟩
theorem pK{m:Int}(h:¬7<m):some (aa.bool (decide (m>7)))=some (aa.bool false):=by simp;omega
theorem aeR{c m:Int}(bf:0≤m)(hm:¬7<m):mO ⟨1,c,m,0,0,[]⟩:=by
 by_cases hs:shown c=true
 ·have aw:=(pF hs).2.2.2;have mc:((m.toNat:Nat):Int)=m:=Int.toNat_of_nonneg bf;have he:enc ⟨1,c,m,0,0,[]⟩=some (jL c.toNat m.toNat):=by unfold enc;rw [if_neg aM,if_neg hm,if_pos ⟨rfl,rfl,hs⟩]
  obtain⟨w,H,j,aC,g,_,_⟩:=aea (J.ar 39 [(0,af.an [bB 1 c m 0 0 []] 6 true (some (42,6))),(4,af.an [bB 1 0 0 0 0 []] 6 true (some (42,6)))]) (r:=c.toNat) (m:=m.toNat) (by rw [aw];exact hs) ab;rw [aw,mc]at aC;obtain⟨b,rfl,_⟩:=g.ex;have gA:=F9 c (J.ar 33 [(0,af.an [bB 1 c m 0 0 []] 6 true (some (42,6))),(4,af.an [bB 1 0 0 0 0 []] 6 true (some (42,6)))]);rw [hs]at gA;obtain⟨v,ag,aE,rfl,rfl⟩:=ady H c m ⟨j,b.ad,0,0,1⟩ (jL c.toNat m.toNat).length (fun v ag=>v=.tuple [.slice (some ⟨j,b.ad,0,0,1⟩) (jL c.toNat m.toNat).length (jL c.toNat m.toNat).length,.int .i64 0]∧ag=⟨H.U+5,H.aH⟩) ⟨pK hm,⟨gA⟩,⟨aC⟩,rfl,rfl⟩;exact⟨_,_,aE,gS.new he g⟩
 ·have he:enc ⟨1,c,m,0,0,[]⟩=none:=by unfold enc;rw [if_neg aM,if_neg hm,if_neg (fun q=>hs q.2.2),if_neg (fun q=>absurd q.1 aM),if_neg aM,if_neg aM,if_neg (fun q=>absurd q.1 aM),if_neg (fun q=>absurd q.1 aM)]
  have gA:=F9 c (J.ar 33 [(0,af.an [bB 1 c m 0 0 []] 6 true (some (42,6))),(4,af.an [bB 1 0 0 0 0 []] 6 true (some (42,6)))]);rw [Bool.eq_false_iff.2 hs]at gA;obtain⟨v,ag,aE,rfl,_⟩:=adA c m (fun v ag=>v=.tuple [.slice none 0 0,.int .i64 220]∧True) ⟨pK hm,⟨gA⟩,rfl,trivial⟩;exact⟨_,_,aE,gS.nil he⟩
theorem aeS{c m x y:Int}{t:Bytes}(hm:¬7<m)(ah:¬(x=0∧y=0∧t=[])):mO ⟨1,c,m,x,y,t⟩:=by
 have he:enc ⟨1,c,m,x,y,t⟩=none:=by unfold enc;rw [if_neg aM,if_neg hm,if_neg (fun q=>ah (by have:=q.2.1;simp only [qQ,Bool.and_eq_true,decide_eq_true_eq]at this;exact⟨this.1.1,this.1.2,this.2⟩)),if_neg (fun q=>absurd q.1 aM),if_neg aM,if_neg aM,if_neg (fun q=>absurd q.1 aM),if_neg (fun q=>absurd q.1 aM)]
 obtain⟨v,ag,aE,rfl,_⟩:=adz c m x y t (fun v ag=>v=.tuple [.slice none 0 0,.int .i64 220]∧True) ⟨pK hm,by simpa using ah,rfl,trivial⟩;exact⟨_,_,aE,gS.nil he⟩
theorem Rs{c m:Int}(hm:¬7<m):enc ⟨2,c,m,0,0,[]⟩=if 0≤c then kG c.toNat m.toNat else none:=by unfold enc;rw [if_neg aM,if_neg hm,if_neg (fun q=>absurd q.1 aM),if_pos ⟨rfl,rfl⟩]
theorem aeT{c m:Int}(bf:0≤m)(hm:¬7<m):mO ⟨2,c,m,0,0,[]⟩:=by
 have mc:((m.toNat:Nat):Int)=m:=Int.toNat_of_nonneg bf;by_cases au:mN c
 ·have he:enc ⟨2,c,m,0,0,[]⟩=none:=by
   rw [Rs hm];split
   ·rename_i c0;exact aeI (by rw [Int.toNat_of_nonneg c0];exact au)
   ·rfl
  obtain⟨H,aC,_,_⟩:=aeF (J.ar 48 [(0,af.an [bB 2 c m 0 0 []] 6 true (some (42,6))),(4,af.an [bB 2 0 0 0 0 []] 6 true (some (42,6)))]) (m:=m.toNat) au ab;rw [mc]at aC;obtain⟨v,ag,aE,rfl,_⟩:=adC H c m (fun v ag=>v=.tuple [.slice none 0 0,.int .i64 220]∧True) ⟨pK hm,⟨aC⟩,rfl,trivial⟩;exact⟨_,_,aE,gS.nil he⟩
 ·have c0:0≤c:=by unfold mN at au;omega
  have aw:((c.toNat:Nat):Int)=c:=Int.toNat_of_nonneg c0;obtain⟨bs,ax,w,H,j,aC,g,_,_⟩:=aeG (J.ar 48 [(0,af.an [bB 2 c m 0 0 []] 6 true (some (42,6))),(4,af.an [bB 2 0 0 0 0 []] 6 true (some (42,6)))]) (k:=c.toNat) (m:=m.toNat) (by rw [aw];exact au) ab;rw [aw,mc]at aC;have he:enc ⟨2,c,m,0,0,[]⟩=some bs:=by rw [Rs hm,if_pos c0,ax]
  obtain⟨b,rfl,_⟩:=g.ex;obtain⟨v,ag,aE,rfl,rfl⟩:=adB H c m ⟨j,b.ad,0,0,1⟩ bs.length (fun v ag=>v=.tuple [.slice (some ⟨j,b.ad,0,0,1⟩) bs.length bs.length,.int .i64 0]∧ag=⟨H.U+5,H.aH⟩) ⟨pK hm,⟨aC⟩,rfl,rfl⟩;exact⟨_,_,aE,gS.new he g⟩
theorem aeU{c m x y:Int}{t:Bytes}(hm:¬7<m)(ah:¬(x=0∧y=0∧t=[])):mO ⟨2,c,m,x,y,t⟩:=by
 have he:enc ⟨2,c,m,x,y,t⟩=none:=by unfold enc;rw [if_neg aM,if_neg hm,if_neg (fun q=>absurd q.1 aM),if_neg (fun q=>ah (by have:=q.2;simp only [qQ,Bool.and_eq_true,decide_eq_true_eq]at this;exact⟨this.1.1,this.1.2,this.2⟩)),if_neg aM,if_neg aM,if_neg (fun q=>absurd q.1 aM),if_neg (fun q=>absurd q.1 aM)]
 obtain⟨v,ag,aE,rfl,_⟩:=adD c m x y t (fun v ag=>v=.tuple [.slice none 0 0,.int .i64 220]∧True) ⟨pK hm,by simpa using ah,rfl,trivial⟩;exact⟨_,_,aE,gS.nil he⟩
theorem aeV{c m x y:Int}{t:Bytes}(hm:¬7<m):mO ⟨5,c,m,x,y,t⟩:=by
 by_cases aT:(⟨5,c,m,x,y,t⟩:bl)=⟨5,0,0,0,0,[]⟩
 ·rw [aT];obtain⟨w,H,j,aC,g,_,_⟩:=Dd (J.ar 48 [(0,af.an [bB 5 0 0 0 0 []] 6 true (some (42,6))),(4,af.an [bB 5 0 0 0 0 []] 6 true (some (42,6)))]) (t:=[79]) aS;obtain⟨b,rfl,_⟩:=g.ex;obtain⟨v,ag,aE,rfl,rfl⟩:=adE H ⟨j,b.ad,0,0,1⟩ _ (fun v ag=>v=.tuple [.slice (some ⟨j,b.ad,0,0,1⟩) _ _,.int .i64 0]∧ag=⟨H.U+5,H.aH⟩) ⟨⟨aC⟩,rfl,rfl⟩;exact⟨_,_,aE,gS.new (bs:=27::91:: [79]) (by rfl) g⟩
 ·by_cases ax:(⟨5,c,m,x,y,t⟩:bl)=⟨5,1,0,0,0,[]⟩
  ·rw [ax];obtain⟨w,H,j,aC,g,_,_⟩:=Dd (J.ar 52 [(0,af.an [bB 5 1 0 0 0 []] 6 true (some (42,6))),(4,af.an [bB 5 0 0 0 0 []] 6 true (some (42,6)))]) (t:=[73]) aS;obtain⟨b,rfl,_⟩:=g.ex;obtain⟨v,ag,aE,rfl,rfl⟩:=adF H ⟨j,b.ad,0,0,1⟩ _ (fun v ag=>v=.tuple [.slice (some ⟨j,b.ad,0,0,1⟩) _ _,.int .i64 0]∧ag=⟨H.U+5,H.aH⟩) ⟨⟨aC⟩,rfl,rfl⟩;exact⟨_,_,aE,gS.new (bs:=27::91:: [73]) (by rfl) g⟩
  ·have he:enc ⟨5,c,m,x,y,t⟩=none:=by unfold enc;rw [if_neg aM,if_neg hm,if_neg (fun q=>absurd q.1 aM),if_neg (fun q=>absurd q.1 aM),if_neg aT,if_neg ax,if_neg (fun q=>absurd q.1 aM),if_neg (fun q=>absurd q.1 aM)]
   obtain⟨v,ag,aE,rfl,_⟩:=adG c m x y t (fun v ag=>v=.tuple [.slice none 0 0,.int .i64 220]∧True) ⟨pK hm,by simpa using aT,by simpa using ax,rfl,trivial⟩;exact⟨_,_,aE,gS.nil he⟩
theorem aeW{k c m x y:Int}{t:Bytes}(a8:k≠3)(ac:k≠1)(ai:k≠2)(bF:k≠5)(bQ:k≠4)(dv:k≠6)(hm:¬7<m):mO ⟨k,c,m,x,y,t⟩:=by
 have he:enc ⟨k,c,m,x,y,t⟩=none:=by unfold enc;rw [if_neg a8,if_neg hm,if_neg (fun q=>ac q.1),if_neg (fun q=>ai q.1),if_neg (fun q=>bF (congrArg bl.kind q)),if_neg (fun q=>bF (congrArg bl.kind q)),if_neg (fun q=>bQ (congrArg bl.kind q.1)),if_neg (fun q=>dv (congrArg bl.kind q.1))]
 obtain⟨v,ag,aE,rfl,_⟩:=adR k c m x y t (fun v ag=>v=.tuple [.slice none 0 0,.int .i64 220]∧True) ⟨by simp [a8],pK hm,by simp [ac],by simp [ai],by simp [bF],by simp [bF],by simp [bQ],by simp [dv],rfl,trivial⟩;exact⟨_,_,aE,gS.nil he⟩
abbrev cz(e:aa):af:=af.an [e] 6 true (some (42,6))
theorem zw{h:J}{x:Nat}{k c m y z:Int}{t:Bytes}(e:h.get x=some (cz (bB k c m y z t))):bM (bY.D env) 42 ⟨x,0,0,0,6⟩ h=some (bB k c m y z t):=by have bZ:(bY.D env 42).map (fun d=>(d.kind.isAgg,d.size))=some (true,6):= ay;obtain⟨x,ac,ai⟩:=Option.map_eq_some_iff.1 bZ;simp only [Prod.mk.injEq]at ai;unfold bM;rw [ac,e];simp [af.elem?,af.cC,hZ,ai.1,ai.2,af.an]
theorem JR{h:J}{x:Nat}{k c m y z:Int}{t:Bytes}(e:h.get x=some (cz (bB k c m y z t))):bM (bY.D env) 9 ⟨x,0,0,5,6⟩ h=some (.str t):=by have bZ:(bY.D env 9).map (fun d=>d.kind.isAgg)=some false:= ay;obtain⟨x,ac,ai⟩:=Option.map_eq_some_iff.1 bZ;unfold bM;rw [ac,e];simp [af.elem?,af.cC,hZ,ai,af.an]
abbrev De:af:=af.an [aa.agg [aa.int .i64 0,aa.int .i64 1,aa.int .i64 2,aa.int .i64 0,aa.int .i64 64,aa.int .i64 65,aa.int .i64 35]] 7 true (some (106,7))
theorem aeX:∀c:Fin 7,oM (bY.D env) 106 (aa.agg [aa.int .i64 0,aa.int .i64 1,aa.int .i64 2,aa.int .i64 0,aa.int .i64 64,aa.int .i64 65,aa.int .i64 35]) (aa.int .i32 (c.val:Nat))=some (aa.int .i64 (gp c.val:Nat)):=by
 intro c;rcases c with ⟨c,aw⟩
 rcases (show c=0∨c=1∨c=2∨c=3∨c=4∨c=5∨c=6 by omega)with rfl|rfl|rfl|rfl|rfl|rfl|rfl<;>kernel_rfl
theorem aeY:∀c:Fin 7,∀m:Fin 8,b2 .i64 (gp c.val:Nat) (eZ .i64 (m.val:Nat) 2)=((gp c.val+4*m.val:Nat):Int):=by decide+kernel
theorem Rt{H H1:J}{j ds n:Nat}{bs:Bytes}(g:eP H j (.slice (some ⟨j,ds,0,0,1⟩) n n) bs)(ai:2<bs.length)(aC:bs.length<2^30):∃H1 H2 v j2,(∀F,bN env dF (H.U+0) (bD F) ⟨H.U+6,H.aH⟩ (Op.buildSlice 34 3 {toList:=[(0,Operand.const (Value.int .u8 (27))),(1,Operand.const (Value.int .u8 (91))),(2,Operand.const (Value.int .u8 (60)))]})=some (aa.slice (some ⟨H.U,0,0,0,1⟩) 3 3,H1)) ∧
 (∀F,bD F (.tmp 64)=aa.slice (some ⟨H.U,0,0,0,1⟩) 3 3→e7 env (H.U+1) (bD F) H1 (Op.convert 34 34 (Operand.tmp 64))=some (aa.slice (some ⟨H.U,0,0,0,1⟩) 3 3,H1)) ∧
 hC env Builtin.append {toList:=[34,34]} [aa.slice (some ⟨H.U,0,0,0,1⟩) 3 3,aa.slice (some ⟨j,ds,2,0,1⟩) (n-2) (n-2)] (H.U+4) H1=some (v,H2)∧eP H2 j2 v (27::91::60::bs.drop 2):=by
 have hT:=JG (H:=H) (y:=H.U) (af.an (aN [27,91,60]) 1 true) 6 ab;have lg:((⟨H.U+6,H.aH⟩:J).set H.U (af.an (aN [27,91,60]) 1 true)).U=H.U+6:=rfl;have C3:=g.lt;have g1:eP ((⟨H.U+6,H.aH⟩:J).set H.U (af.an (aN [27,91,60]) 1 true)) j (.slice (some ⟨j,ds,0,0,1⟩) n n) bs:=g.keep (J.fg _ _ ab) ab;have kY:eP ((⟨H.U+6,H.aH⟩:J).set H.U (af.an (aN [27,91,60]) 1 true)) H.U (.slice (some ⟨H.U,0,0,0,1⟩) 3 3) [27,91,60]:=eP.an (bs:=[27,91,60]) hT ab (fun h=>by cases h)
 obtain⟨v,H2,j2,aT,g2,_,_,_⟩:=kY.hk (nid:=H.U+4) (g1.drop (k:=2) ab) (by
  intro h;have:=congrArg List.length h
  rw [List.length_drop,List.length_nil]at this;omega) (by rw [List.length_drop];simp only [List.length_cons,List.length_nil];omega) ab
 exact⟨_,H2,v,j2,(fun F=> ay),fun F aZ=>C5 aZ hT rfl rfl aS,(C2 _ _ _ _).trans aT,g2⟩
theorem Ru{H:J}{q b x y:Nat}{e:Bytes}(he:e≠[])(fO:e.length=1)(ak:H.get q=some (st [b,x,y]))(aB:q<H.U)(ax:b<10000000)(aj:x<10000000)(bV:y<10000000):pJ 44 H [.str e,.slice (some ⟨q,0,0,0,1⟩) 3 3] (eO e [b,x,y]) :=
 Jy (l:=[b,x,y]) ak aB aM (by intro n aR;simp only [List.mem_cons,List.not_mem_nil,or_false]at aR;rcases aR with rfl|rfl|rfl<;>omega) he ab
theorem Rv:Int.NonNeg (2-0):=(show(0:Int)≤2 by decide)
theorem Rw{n i k:Nat}{h ag:J}{b:af}(e:ag=(⟨h.U+k,h.aH⟩:J).set i b)(aq:n≤i):pT n h ag=true:=by subst e;exact EO fun x aj=>by rw [J.fg _ _ ab];rfl
theorem aeZ(H:J){c m x y:Nat}(aw:c≤6)(hm:m≤7)(aj:x<4096)(bV:y<4096):pJ 40 H [bB 3 c m x y []] (lX c m x y):=by
 have aq:=aeX ⟨c,ab⟩;have ao:=aeY ⟨c,ab⟩ ⟨m,ab⟩;simp only at aq ao;have u3:gp c+4*m<1000:=(JM ⟨c,ab⟩ ⟨m,ab⟩).2.2
 have t':∀e:UInt8,(eO [e] [gp c+4*m,x+1,y+1]).length<2^30∧2<(eO [e] [gp c+4*m,x+1,y+1]).length:=by intro e;have:=C4 [gp c+4*m,x+1,y+1] (by intro n aR;simp only [List.mem_cons,List.not_mem_nil,or_false]at aR;rcases aR with rfl|rfl|rfl<;>omega);unfold eO;simp only [List.length_cons,List.length_append,List.length_nil]at this⊢;omega
 have gz:∀a∈ [bB (3:Int) c m x y []],cU a:=fun a aT=>by rw [List.mem_singleton.1 aT];exact cU.of rfl
 by_cases a8:c=3
 ·obtain⟨w,K,j,aC,g,_,aF⟩:=Ru (H:=J.ar 67 [(0,cz (bB 3 c m x y [])),(61,af.an [aa.int .i64 ((gp c+4*m:Nat):Int),aa.int .i64 ((x:Int)+1),aa.int .i64 ((y:Int)+1)] 1 true),(64,De)]) (q:=61) (b:=gp c+4*m) (x:=x+1) (y:=y+1) (e:=[109]) aM rfl (by rfl) (by show(61:Nat)<67;decide) ab ab ab;obtain⟨b,rfl,_⟩:=g.ex;obtain⟨H1,H2,v,j2,hE,mb,aT,g2⟩:=Rt g (t' 109).2 (t' 109).1 (H1:=K)
  obtain⟨br,ag,aE,rfl,rfl⟩:=ad1 K H1 H2 c m x y (gp c) j b.ad (eO [109] [gp c+4*m,x+1,y+1]).length K.U v (fun br ag=>br=v∧ag=H2)
   ⟨rfl,by simp;omega,by simp;omega,rfl,by simp;omega,rfl,by simp;omega,rfl,by simp [a8],Rw (n:=64) (i:=64) (k:=3) (b:=De) ay ab,aq,ab,Rv,trivial,ab,ab,by rw [ao];exact⟨aC⟩,hE _,mb _ rfl,⟨ab,by have:=(t' 109).2;omega,Nat.le_refl _⟩,aT,rfl,rfl⟩
  have e:lX c m x y=27::91::60::(eO [109] [gp c+4*m,x+1,y+1]).drop 2:=by unfold lX eO;rw [if_pos a8];rfl
  rw [e];exact pJ.of aE g2 gz H
 ·obtain⟨w,K,j,aC,g,_,aF⟩:=Ru (H:=J.ar 66 [(0,cz (bB 3 c m x y [])),(60,af.an [aa.int .i64 ((gp c+4*m:Nat):Int),aa.int .i64 ((x:Int)+1),aa.int .i64 ((y:Int)+1)] 1 true),(63,De)]) (q:=60) (b:=gp c+4*m) (x:=x+1) (y:=y+1) (e:=[77]) aM rfl (by rfl) (by show(60:Nat)<66;decide) ab ab ab;obtain⟨b,rfl,_⟩:=g.ex;obtain⟨H1,H2,v,j2,hE,mb,aT,g2⟩:=Rt g (t' 77).2 (t' 77).1 (H1:=K)
  obtain⟨br,ag,aE,rfl,rfl⟩:=ad0 K H1 H2 c m x y (gp c) j b.ad (eO [77] [gp c+4*m,x+1,y+1]).length K.U v (fun br ag=>br=v∧ag=H2)
   ⟨rfl,by simp;omega,by simp;omega,rfl,by simp;omega,rfl,by simp;omega,rfl,by simp;omega,Rw (n:=63) (i:=63) (k:=3) (b:=De) ay ab,aq,ab,Rv,trivial,ab,ab,by rw [ao];exact⟨aC⟩,hE _,mb _ rfl,⟨ab,by have:=(t' 77).2;omega,Nat.le_refl _⟩,aT,rfl,rfl⟩
  have e:lX c m x y=27::91::60::(eO [77] [gp c+4*m,x+1,y+1]).drop 2:=by unfold lX eO;rw [if_neg a8];rfl
  rw [e];exact pJ.of aE g2 gz H
theorem Rx(c m x y:Int)(t:Bytes):enc ⟨3,c,m,x,y,t⟩=if ss ⟨3,c,m,x,y,t⟩=true then some (lX c.toNat m.toNat x.toNat y.toNat)else none:=by unfold enc;rw [if_pos rfl]
theorem ae0{c m x y:Int}{t:Bytes}(h:ss ⟨3,c,m,x,y,t⟩≠true)(H:J):v8 40 H [bB 3 c m x y t]:=by
 have fin:(∃v ag,bS 40 [bB 3 c m x y t] ⟨0,.nil⟩ v ag∧v=.slice none 0 0)→v8 40 H [bB 3 c m x y t]:=by rintro ⟨v,ag,aE,rfl⟩;exact v8.of aE (fun a aT=>by rw [List.mem_singleton.1 aT];exact cU.of rfl) H
 apply fin;by_cases ac:c<0
 ·exact adS c m x y t (fun v _=>v=.slice none 0 0) ⟨by simp [ac],rfl⟩
 by_cases ai:c>6
 ·exact adT c m x y t (fun v _=>v=.slice none 0 0) ⟨by simp;omega,by simp [ai],rfl⟩
 by_cases a8:m>7
 ·exact adU c m x y t (fun v _=>v=.slice none 0 0) ⟨by simp;omega,by simp;omega,by simp [a8],rfl⟩
 by_cases bQ:x<0
 ·exact adV c m x y t (fun v _=>v=.slice none 0 0) ⟨by simp;omega,by simp;omega,by simp;omega,by simp [bQ],rfl⟩
 by_cases bF:x≥4096
 ·exact adW c m x y t (fun v _=>v=.slice none 0 0) ⟨by simp;omega,by simp;omega,by simp;omega,by simp;omega,by simp [bF],rfl⟩
 by_cases dv:y<0
 ·exact adX c m x y t (fun v _=>v=.slice none 0 0) ⟨by simp;omega,by simp;omega,by simp;omega,by simp;omega,by simp;omega,by simp [dv],rfl⟩
 by_cases cE:y≥4096
 ·exact adY c m x y t (fun v _=>v=.slice none 0 0) ⟨by simp;omega,by simp;omega,by simp;omega,by simp;omega,by simp;omega,by simp;omega,by simp [cE],rfl⟩
 have cj:t≠[]:=by intro bW;apply h;simp only [ss,Bool.and_eq_true,decide_eq_true_eq];exact⟨⟨⟨⟨⟨⟨⟨ab,ab⟩,ab⟩,ab⟩,ab⟩,ab⟩,ab⟩,bW⟩
 exact adZ c m x y t (fun v _=>v=.slice none 0 0) ⟨by simp;omega,by simp;omega,by simp;omega,by simp;omega,by simp;omega,by simp;omega,by simp;omega,by simp [cj],rfl⟩
theorem ae1{c m x y:Int}{t:Bytes}(bf:0≤m):mO ⟨3,c,m,x,y,t⟩:=by
 by_cases au:ss ⟨3,c,m,x,y,t⟩=true
 ·have he:=Rx c m x y t;rw [if_pos au]at he;simp only [ss,Bool.and_eq_true,decide_eq_true_eq]at au;obtain⟨⟨⟨⟨⟨⟨⟨c0,kZ⟩,m7⟩,jA⟩,kY⟩,Db⟩,o2⟩,rfl⟩:=au;obtain⟨w,H,j,aC,g,_,_⟩:=aeZ (J.ar 18 [(0,cz (bB 3 c m x y [])),(4,cz (bB 3 0 0 x y []))]) (c:=c.toNat) (m:=m.toNat) (x:=x.toNat) (y:=y.toNat) ab ab ab ab;rw [Int.toNat_of_nonneg c0,Int.toNat_of_nonneg bf,Int.toNat_of_nonneg jA,Int.toNat_of_nonneg Db]at aC;obtain⟨b,rfl,_⟩:=g.ex;obtain⟨v,ag,aE,rfl,rfl⟩:=adv H c m x y [] ⟨j,b.ad,0,0,1⟩ (lX c.toNat m.toNat x.toNat y.toNat).length (fun v ag=>v=.tuple [.slice (some ⟨j,b.ad,0,0,1⟩) (lX c.toNat m.toNat x.toNat y.toNat).length (lX c.toNat m.toNat x.toNat y.toNat).length,.int .i64 0]∧ag=⟨H.U+5,H.aH⟩) ⟨⟨aC⟩,rfl,rfl⟩;exact⟨_,_,aE,gS.new he g⟩
 ·have he:=Rx c m x y t;rw [if_neg au]at he;obtain⟨H,aC,_,_⟩:=ae0 au (J.ar 18 [(0,cz (bB 3 c m x y t)),(4,cz (bB 3 0 0 x y t))]);obtain⟨v,ag,aE,rfl,_⟩:=adw H c m x y t (fun v ag=>v=.tuple [.slice none 0 0,.int .i64 220]∧True) ⟨⟨aC⟩,rfl,trivial⟩;exact⟨_,_,aE,gS.nil he⟩
theorem JS(t:Bytes):enc ⟨4,0,0,0,0,t⟩=if t.length≤65536∧hasEnd t=false then some (mL++(t++dW))else none:=by
 unfold enc;rw [if_neg aM,if_neg aM,if_neg (fun q=>absurd q.1 aM),if_neg (fun q=>absurd q.1 aM),if_neg aM,if_neg aM];by_cases h:t.length≤65536∧hasEnd t=false
 ·rw [if_pos ⟨rfl,h⟩,if_pos h]
 ·rw [if_neg (fun q=>h q.2),if_neg h,if_neg (fun q=>absurd q.1 aM)]
theorem ae2{c m x y:Int}{t:Bytes}(hm:¬7<m)(h:¬(c=0∧m=0∧x=0∧y=0)):mO ⟨4,c,m,x,y,t⟩:=by
 have he:enc ⟨4,c,m,x,y,t⟩=none:=by unfold enc;rw [if_neg aM,if_neg hm,if_neg (fun q=>absurd q.1 aM),if_neg (fun q=>absurd q.1 aM),if_neg aM,if_neg aM,if_neg (fun q=>h (by simpa using q.1)),if_neg (fun q=>absurd q.1 aM)]
 obtain⟨v,ag,aE,rfl,_⟩:=adI c m x y t (fun v ag=>v=.tuple [.slice none 0 0,.int .i64 220]∧True) ⟨pK hm,by simpa using h,rfl,trivial⟩;exact⟨_,_,aE,gS.nil he⟩
theorem ae3(t:Bytes):mO ⟨4,0,0,0,0,t⟩:=by
 by_cases aC:t.length≤65536
 ·have Df:=aeM t aC (J.ar 68 [(0,cz (bB 4 0 0 0 0 t)),(4,cz (bB 4 0 0 0 0 t))]);cases bU:hasEnd t with
  |true =>
   have he:enc ⟨4,0,0,0,0,t⟩=none:=by rw [JS,if_neg (fun q=>by rw [bU]at q;exact absurd q.2 aM)]
   rw [bU]at Df;obtain⟨v,ag,aE,rfl,_⟩:=adK t (fun v ag=>v=.tuple [.slice none 0 0,.int .i64 220]∧True) ⟨aM,by simp;omega,⟨Df⟩,rfl,trivial⟩;exact⟨_,_,aE,gS.nil he⟩
  |false =>
   have he:enc ⟨4,0,0,0,0,t⟩=some (mL++(t++dW)):=by rw [JS,if_pos ⟨aC,bU⟩]
   rw [bU]at Df;obtain⟨w,H,j,fo,g,a1,ao⟩:=Jy (H:=J.ar 75 [(0,cz (bB 4 0 0 0 0 t)),(4,cz (bB 4 0 0 0 0 t)),(68,st [200])]) (q:=68) (c:=1) (l:=[200]) (e:=[126]) rfl (by show(68:Nat)<75;decide) aM aM aM aM;have a1:75≤j:=a1;have C3:=g.lt
   have ae4:eO [126] [200]=mL:=by unfold eO d';rw [tY aS,tY aS,tZ aS];rfl
   rw [ae4]at g;have bf:H.get 0=some (cz (bB 4 0 0 0 0 t)):=ao 0 (by show(0:Nat)<75;decide);obtain⟨b,rfl,_⟩:=g.ex;obtain⟨v2,H1,j2,aT,g2,_,_,_⟩:=g.hk (nid:=73) (x:= .str (t++dW)) (new:=t++dW) (by rfl) (by simp [dW]) (by simp [mL,dW];omega) ab;obtain⟨bP,rfl,_⟩:=g2.ex
   obtain⟨v,ag,aE,rfl,rfl⟩:=adH H H1 t ⟨j,b.ad,0,0,1⟩ ⟨j2,bP.ad,0,0,1⟩ mL.length (mL++(t++dW)).length (fun v ag=>v=.tuple [.slice (some ⟨j2,bP.ad,0,0,1⟩) (mL++(t++dW)).length (mL++(t++dW)).length,.int .i64 0]∧ag=⟨H1.U+5,H1.aH⟩)
    ⟨aM,by simp;omega,⟨Df⟩,⟨fo⟩,EO (fun i aq=>ao i aq),JR bf,by show Nat.le (Nat.succ (t.length+6)) (2^62);show t.length+6+1≤2^62;omega,(zj _ _ _ _).trans aT,.inr (by exact a1),rfl,rfl⟩
   exact⟨_,_,aE,gS.new he g2⟩
 ·have he:enc ⟨4,0,0,0,0,t⟩=none:=by rw [JS,if_neg (fun q=>aC q.1)]
  obtain⟨v,ag,aE,rfl,_⟩:=adJ t (fun v ag=>v=.tuple [.slice none 0 0,.int .i64 220]∧True) ⟨aM,by simp;omega,rfl,trivial⟩;exact⟨_,_,aE,gS.nil he⟩
theorem Ry(t:Bytes):enc ⟨6,0,0,0,0,t⟩=if t.length≤62 then(if(dd zero (27::91::t)).2=[⟨6,0,0,0,0,t⟩]∧held (dd zero (27::91::t)).1=0 then some (27::91::t)else none)else none:=by
 unfold enc;rw [if_neg aM,if_neg aM,if_neg (fun q=>absurd q.1 aM),if_neg (fun q=>absurd q.1 aM),if_neg aM,if_neg aM,if_neg (fun q=>absurd q.1 aM)];by_cases h:t.length≤62
 ·rw [if_pos ⟨rfl,h⟩,if_pos h]
 ·rw [if_neg (fun q=>h q.2),if_neg h]
theorem ae5{c m x y:Int}{t:Bytes}(hm:¬7<m)(h:¬(c=0∧m=0∧x=0∧y=0)):mO ⟨6,c,m,x,y,t⟩:=by
 have he:enc ⟨6,c,m,x,y,t⟩=none:=by unfold enc;rw [if_neg aM,if_neg hm,if_neg (fun q=>absurd q.1 aM),if_neg (fun q=>absurd q.1 aM),if_neg aM,if_neg aM,if_neg (fun q=>absurd q.1 aM),if_neg (fun q=>h (by simpa using q.1))]
 obtain⟨v,ag,aE,rfl,_⟩:=adP c m x y t (fun v ag=>v=.tuple [.slice none 0 0,.int .i64 220]∧True) ⟨pK hm,by simpa using h,rfl,trivial⟩;exact⟨_,_,aE,gS.nil he⟩
theorem fM.an{K fl:J}(aR:K.U≤fl.U)(ao:∀x,x<K.U→fl.get x=K.get x)(c:Nat→Nat)(k:Nat):fM K fl c (fun x=>if x<K.U then c x else k) []:=⟨aR,fun x aj _=>ao x aj,fun x aj _=>if_pos aj⟩
theorem eP.Dg{H:J}{j:Nat}{v:aa}{bs:Bytes}{col:Nat→Nat}{c:Nat}(g:eP H j v bs)(aw:col j=c):∃ad,v=.slice (some ⟨j,ad,0,0,1⟩) bs.length bs.length∧zb H col c (some ⟨j,ad,0,0,1⟩) bs:=by obtain⟨b,rfl,ai,a8,bQ,bF⟩:=g.ex;refine⟨b.ad,rfl,⟨.inr ⟨j,b.ad,0,rfl,⟨b,ai,fun i aq=> ?_⟩,g.lt,aw⟩⟩⟩;simp [af.elem?,af.cC,bQ,aN,aq]
theorem ae6{s:bK}(h:Keys.Good s):s.al.length<2^40∧s.aD.length<2^40:=by
 have au:=aex h;refine⟨ab,?_⟩;by_cases aR:s.nx=.cK
 ·obtain⟨nx,al,aF,aD⟩:=s;simp only at aR;subst aR;obtain⟨_,_,_,bQ⟩:=h;simp only at bQ⊢;omega
 ·rw [aeN h aR];simp
theorem ae7(t:Bytes):mO ⟨6,0,0,0,0,t⟩:=by
 by_cases aC:t.length≤62
 rotate_left
 ·have he:enc ⟨6,0,0,0,0,t⟩=none:=by rw [Ry,if_neg aC]
  obtain⟨v,ag,aE,rfl,_⟩:=adQ t (fun v ag=>v=.tuple [.slice none 0 0,.int .i64 220]∧True) ⟨aM,by simp;omega,rfl,trivial⟩;exact⟨_,_,aE,gS.nil he⟩
 have Dh:some (aa.bool (decide ((t.length:Int)≤62)))=some (aa.bool true):=by simp;omega
 have he:=Ry t;rw [if_pos aC]at he;obtain⟨H1,d,I,dI,a6,ae8,m1⟩:=jp.new (J.ar 82 [(0,cz (bB 6 0 0 0 0 t)),(4,cz (bB 6 0 0 0 0 t))]) (fun _=>0) 1;have lg:82≤H1.U:=m1.U;have f1:=fM.fresh H1 dI 6;obtain⟨ah1,H2,j,fo,g2,a1,ib⟩:=Dd ⟨H1.U+6,H1.aH⟩ aC;have a1:H1.U+6≤j:=a1;have C3:=g2.lt;have m2:=fM.an (K:=⟨H1.U+6,H1.aH⟩) (fl:=H2) (by show H1.U+6≤H2.U;omega) ib (fresh H1 dI) 5;obtain⟨ad,rfl,ae9⟩:=g2.Dg (col:=fun x=>if x<H1.U+6 then fresh H1 dI x else 5) (c:=5) (by show(if j<H1.U+6 then _ else 5)=5;rw [if_neg ab]);have ae':=(ae8.ga f1 aM).ga m2 aM;obtain⟨aX,ia,qO,c3,eY,Rz,lM,m3⟩:=ae'.feed (m:=(27::91::t).length) vS (by simp only [List.length_cons];omega) ae9 aS;have yW:=((m1.trans f1).trans m2).trans m3;have iR:=yW.U;have iR:82≤aX.U:=iR;have iB:aX.get 0=some (cz (bB 6 0 0 0 0 t)):=(yW.get 0 (by show(0:Nat)<82;decide) aS).trans rfl;have e8:bM (bY.D env) 9 ⟨0,0,0,5,6⟩ ⟨H1.U+6,H1.aH⟩=some (.str t):=JR (h:=⟨H1.U+6,H1.aH⟩) ((m1.get 0 (by show(0:Nat)<82;decide) aS).trans rfl);have my:bM (bY.D env) 42 ⟨0,0,0,0,6⟩ ⟨aX.U+15,aX.aH⟩=some (bB 6 0 0 0 0 t):=zw (h:=⟨aX.U+15,aX.aH⟩) iB;have hzero:zero=h8:=rfl;rw [hzero]at he;have fa:=BD (27::91::t) vS;have cu:=ae6 fa;generalize ck:(dd h8 (27::91::t)).2=es at lM he;generalize fq:(dd h8 (27::91::t)).1=sz at Rz he fa cu
 have Ay:∃bb,ia=.slice bb es.length es.length:=by
  rcases lM.ex with ⟨rfl,ai⟩|⟨_,o,_,_,zx,so,f,rfl,_⟩
  ·have:es=[]:=by simpa using ai
   rw [this];exact⟨none,rfl⟩
  ·exact⟨_,by rw [List.length_map]⟩
 by_cases ac:es.length=1
 rotate_left
 ·obtain⟨bb,rfl⟩:=Ay
  have jN:enc ⟨6,0,0,0,0,t⟩=none:=by rw [he,if_neg];rintro ⟨q,_⟩;rw [q]at ac;exact ac rfl
  obtain⟨v,ag,aE,rfl,_⟩:=adL H1 H2 aX aX aX t d (27::91::t).length es.length ⟨j,ad,0,0,1⟩ bb (fun v ag=>v=.tuple [.slice none 0 0,.int .i64 220]∧True)
   ⟨aM,Dh,⟨a6⟩,e8,⟨fo⟩,⟨eY⟩,by simp;omega,rfl,trivial⟩
  exact⟨_,_,aE,gS.nil jN⟩
 obtain⟨x,rfl⟩:∃x,es=[x]:=by
  cases es with
  |nil=>simp at ac
  |cons x r =>
   have:r=[]:=by simpa using ac
   rw [this];exact⟨x,rfl⟩
 obtain⟨o,cD,_⟩:=Je lM;obtain⟨zx,ah2,lf,rfl,afa,JT⟩:=cD.cases;have rx:bM (bY.D env) 42 ⟨o,zx,0,0,6⟩ ⟨aX.U+15,aX.aH⟩=some (cB x):=Jc (i:=0) (h:=⟨aX.U+15,aX.aH⟩) afa aM;by_cases aj:x=⟨6,0,0,0,0,t⟩
 rotate_left
 ·have jN:enc ⟨6,0,0,0,0,t⟩=none:=by rw [he,if_neg];rintro ⟨q,_⟩;exact aj (by simpa using q)
  obtain⟨v,ag,aE,rfl,_⟩:=adM H1 H2 aX aX aX t d (27::91::t).length o zx ⟨j,ad,0,0,1⟩ ⟨0,0,0,0,0⟩ 0 x.kind x.code x.df x.x x.y x.text (fun v ag=>v=.tuple [.slice none 0 0,.int .i64 220]∧True)
   ⟨aM,Dh,⟨a6⟩,e8,⟨fo⟩,⟨eY⟩,rx,JT,my,ab,by
    have:¬(x.kind=6∧x.code=0∧x.df=0∧x.x=0∧x.y=0∧x.text=t):=by rintro ⟨a,b,c,d,e,f⟩;apply aj;obtain⟨k,ft,m,y,z,u⟩:=x;simp only at a b c d e f;subst a b c d e f;rfl
    simpa using this,rfl,trivial⟩
  exact⟨_,_,aE,gS.nil jN⟩
 subst aj;obtain⟨bO,RA,c4,hN,ah3,m4,cc⟩:=(Rz.ga (fM.fresh aX c3 15) aM).held cu.1 cu.2;have cc:aX.U+15<bO.U:=cc;by_cases bf:held sz=0
 rotate_left
 ·have jN:enc ⟨6,0,0,0,0,t⟩=none:=by rw [he,if_neg (fun q=>bf q.2)]
  obtain⟨v,ag,aE,rfl,_⟩:=adN H1 H2 aX bO bO t d (27::91::t).length o zx ⟨j,ad,0,0,1⟩ ⟨0,0,0,0,0⟩ 0 (.undef) (held sz:Nat) (fun v ag=>v=.tuple [.slice none 0 0,.int .i64 220]∧True)
   ⟨aM,Dh,⟨a6⟩,e8,⟨fo⟩,⟨eY⟩,rx,JT,my,ab,aM,⟨hN⟩,by simp;omega,rfl,trivial⟩
  exact⟨_,_,aE,gS.nil jN⟩
 rw [bf]at hN;have jN:enc ⟨6,0,0,0,0,t⟩=some (27::91::t):=by rw [he,if_pos ⟨rfl,bf⟩]
 have afb:=(yW.trans (fM.fresh aX c3 15)).trans m4;have zy:bO.get 0=some (cz (bB 6 0 0 0 0 t)):=(afb.get 0 (by show(0:Nat)<82;decide) aS).trans rfl;obtain⟨ah4,dC,RB,afc,g5,_,_⟩:=Dd ⟨bO.U+4,bO.aH⟩ aC;obtain⟨mP,rfl,_⟩:=g5.ex
 obtain⟨v,ag,aE,rfl,rfl⟩:=adO H1 H2 aX bO dC t d (27::91::t).length o zx ⟨j,ad,0,0,1⟩ ⟨RB,mP.ad,0,0,1⟩ (27::91::t).length (.undef) 0 (fun v ag=>v=.tuple [.slice (some ⟨RB,mP.ad,0,0,1⟩) (27::91::t).length (27::91::t).length,.int .i64 0]∧ag=⟨dC.U+5,dC.aH⟩)
  ⟨aM,Dh,⟨a6⟩,e8,⟨fo⟩,⟨eY⟩,rx,JT,my,ab,aM,⟨hN⟩,JR (h:=⟨bO.U+4,bO.aH⟩) zy,⟨afc⟩,rfl,rfl⟩
 exact⟨_,_,aE,gS.new jN g5⟩
theorem afd{e:bl}(bf:0≤e.df):mO e:=by
 obtain⟨k,c,m,x,y,t⟩:=e;simp only at bf;by_cases a8:k=3
 ·subst a8;exact ae1 bf
 by_cases hm:7<m
 ·exact aeQ a8 hm
 by_cases ac:k=1
 ·subst ac;by_cases ah:x=0∧y=0∧t=[]
  ·obtain⟨rfl,rfl,rfl⟩:=ah;exact aeR bf hm
  ·exact aeS hm ah
 by_cases ai:k=2
 ·subst ai;by_cases ah:x=0∧y=0∧t=[]
  ·obtain⟨rfl,rfl,rfl⟩:=ah;exact aeT bf hm
  ·exact aeU hm ah
 by_cases bF:k=5
 ·subst bF;exact aeV hm
 by_cases bQ:k=4
 ·subst bQ;by_cases ah:c=0∧m=0∧x=0∧y=0
  ·obtain⟨rfl,rfl,rfl,rfl⟩:=ah;exact ae3 t
  ·exact ae2 hm ah
 by_cases dv:k=6
 ·subst dv;by_cases ah:c=0∧m=0∧x=0∧y=0
  ·obtain⟨rfl,rfl,rfl,rfl⟩:=ah;exact ae7 t
  ·exact ae5 hm ah
 exact aeW a8 ac ai bF bQ dv hm
theorem RC(H:J){e:bl}(bf:0≤e.df) :
 ∃w c aQ,bS Rr [cB e] H (.tuple [w,.int .i64 c]) aQ∧H.U≤aQ.U∧(∀x,x<H.U→aQ.get x=H.get x)∧((∃bs j,enc e=some bs∧c=0∧eP aQ j w bs∧H.U≤j)∨(enc e=none∧c=220∧w=.slice none 0 0)):=by
 obtain⟨v,ag,aE,w,c,rfl,aB⟩:=afd bf;obtain⟨aQ,gk,aR,ak,ao⟩:=JH aE (fun a aT=>by rw [List.mem_singleton.1 aT];exact cU.of rfl) H;rcases aB with ⟨bs,j,dh,rfl,g⟩|⟨dh,rfl,rfl⟩
 ·exact⟨_,_,aQ,gk,ab,ao,.inl ⟨bs,H.U+j,dh,rfl,g.place aR ak,ab⟩⟩
 ·exact⟨_,_,aQ,gk,ab,ao,.inr ⟨dh,rfl,rfl⟩⟩
abbrev dQ(k c m x y:Int)(t:Bytes):aa:=aa.agg [.int .i8 k,.int .i32 c,.int .u8 m,.int .i64 x,.int .i64 y,.str t]
theorem afe(H cT H1 H2:J)(p:Nat)(k c m x y:Int)(t:Bytes)(ae:bI)(aW:bd (H.U) (H.U) (bN env dF (H.U+0) (bD [(0,(dQ k c m x y t))]) (J.mk (H.U+2) (H.2)) (Op.box 42 (Operand.tmp 0))=some (aa.ptr (aJ p),cT)∧bd (H.U) (cT.U) (bM env.D 42 ⟨p,0,0,0,6⟩ (J.mk (cT.U+7) (cT.2))=some ((dQ k c m x y t))∧ca 21 [(dQ k c m x y t)] (J.mk (cT.U+7) (cT.2)) (.tuple [.slice none 0 0,.int .i64 220]) H1∧bd (H.U) (H1.U) (bd (H.U) (H1.U+2) (ca 19 [] (J.mk (H1.U+8) (H1.2)) (.bool true) H2∧bC (H.U) (H2.U) (ae (.bool true) H2)))))) :
 b4 10 [bB k c m x y t] H ae :=
 b9 vR (.az (.act 0 (.ptr (aJ p)) fun x=>cT) (.az (.val 1000 (bB k c m x y t)) (.az (.act 1001 (.tuple [.slice none 0 0,.int .i64 220]) fun x=>H1) (.az (.act 3003 (.bool true) fun x=>H2) .nil)))) aW
abbrev qV(dC:J):J:=(J.mk (dC.U+15) (dC.2))
abbrev wb(dC:J):J:=(J.mk (dC.U+23) (dC.2))
abbrev qW(ej:J):J:=(J.mk (ej.U+15) (ej.2))
abbrev lj(j ds n:Nat):aa:=aa.slice (some ⟨j,ds,0,0,1⟩) n n
abbrev gT(o ov:Nat):aa:=aa.slice (some ⟨o,ov,0,0,6⟩) 1 1
abbrev lk(s:Bytes):aa:=aa.tuple [.str s,.int .i64 0]
abbrev aff(ej gy:J)(k c m x y:Int)(t:Bytes):c':=(.az (.act 18006 (.tuple []) fun x=>ej) (.az (.val 19007 (bB k c m x y t)) (.az (.val 19008 (bB k c m x y t)) (.az (.val 19009 (.bool true)) (.az (.act 19012 (.bool true) fun x=>gy) .nil)))))
abbrev qX(j ds n:Nat):aa:=aa.tuple [(lj j ds n),.int .i64 0]
abbrev pL(k c m x y:Int)(t:Bytes):aa:=aa.tuple [(dQ k c m x y t),.int .i64 0]
abbrev RD(gU ej gy:J)(q:Nat)(k c m x y:Int)(t s:Bytes):c':=(.az (.val 17000 (bB k c m x y t)) (.az (.val 17001 (.tuple [.str s,.int .i64 0])) (.az (.val 18001 (.tuple [bB k c m x y t,.int .i64 0])) (.az (.act 18005 (.ptr (aJ q)) fun x=>gU) (aff ej gy k c m x y t)))))
theorem RE(H cT H1 H2 aX bO dC fz gU ej gy:J)(p d j ds n o ov q:Nat)(k c m x y:Int)(t s:Bytes)(ae:bI)(aW:bd (H.U) (H.U) (bN env dF (H.U+0) (bD [(0,(dQ k c m x y t))]) (J.mk (H.U+2) (H.2)) (Op.box 42 (Operand.tmp 0))=some (aa.ptr (aJ p),cT)∧bd (H.U) (cT.U) (bM env.D 42 ⟨p,0,0,0,6⟩ (J.mk (cT.U+7) (cT.2))=some ((dQ k c m x y t))∧ca 21 [(dQ k c m x y t)] (J.mk (cT.U+7) (cT.2)) ((qX j ds n)) H1∧bd (H.U) (H1.U) (bd (H.U) (H1.U+2) (ca 14 [] (J.mk (H1.U+4) (H1.2)) (.ptr (aJ d)) H2∧bd (H.U) (H2.U) (bd (H.U) (H2.U+2) (ca 26 [.ptr (aJ d),(lj j ds n)] (J.mk (H2.U+6) (H2.2)) ((gT o ov)) aX∧bd (H.U) (aX.U) (bM env.D 42 ⟨p,0,0,0,6⟩ (J.mk (aX.U+3) (aX.2))=some ((dQ k c m x y t))∧some (aa.bool (k == 2&&(c == 4&&(m == 0&&(x == 0&&(y == 0&&(t ==[]&&true)))))))=some (aa.bool false)∧bd (H.U) (aX.U+3) (bM env.D 42 ⟨o,ov,0,0,6⟩ (J.mk (aX.U+24) (aX.2))=some ((dQ k c m x y t))∧bM env.D 42 ⟨p,0,0,0,6⟩ (J.mk (aX.U+24) (aX.2))=some ((dQ k c m x y t))∧some (aa.bool !(k == k&&(c == c&&(m == m&&(x == x&&(y == y&&(t == t&&true)))))))=some (aa.bool false)∧ca 16 [.ptr (aJ d)] (J.mk (aX.U+24) (aX.2)) (.int .i64 0) bO∧ca 27 [.ptr (aJ d)] bO (.slice none 0 0) dC∧bd (H.U) (dC.U) (bM env.D 40 ⟨p,0,0,0,6⟩ (J.mk (dC.U+8) (dC.2))=some (.int .i8 k)∧(k=1→bd (H.U) (dC.U+8) (bM env.D 42 ⟨p,0,0,0,6⟩ (qV dC)=some ((dQ k c m x y t))∧ca 23 [(dQ k c m x y t)] (qV dC) ((lk s)) (qV dC)∧bd (H.U) (dC.U+15) (ca 25 [.str s] (wb dC) ((pL k c m x y t)) (wb dC)∧bN env dF (dC.U+20) (bD [(91,.int .i64 0),(90,(dQ k c m x y t)),(87,(pL k c m x y t)),(89,(pL k c m x y t)),(88,.str s),(10,.int .i64 0),(9,.str s),(86,.int .i64 0),(85,.str s),(82,(lk s)),(84,(lk s)),(83,(dQ k c m x y t)),(67,.bool false),(66,.tuple []),(65,.tuple []),(64,.tuple []),(63,.bool false),(62,.bool false),(61,.int .i8 k),(60,.ptr (aJ p)),(59,.bool false),(58,.bool false),(57,.int .i64 0),(56,.slice none 0 0),(55,.ptr (aJ d)),(54,.bool false),(53,.bool false),(52,.bool false),(51,.int .i64 0),(50,.ptr (aJ d)),(49,.bool false),(48,.bool false),(47,.bool false),(46,(dQ k c m x y t)),(45,(dQ k c m x y t)),(44,.ptr (some ⟨o,ov,0,0,6⟩)),(43,(gT o ov)),(42,.bool false),(41,.bool false),(40,.int .i64 1),(39,(gT o ov)),(33,.bool false),(32,fL),(31,(dQ k c m x y t)),(6,(gT o ov)),(30,(gT o ov)),(29,(lj j ds n)),(28,.ptr (aJ d)),(27,.bool false),(26,.ptr (aJ d)),(5,.ptr (aJ d)),(25,.ptr (aJ d)),(19,.bool false),(18,.int .i64 0),(4,.int .i64 0),(3,(lj j ds n)),(17,.int .i64 0),(16,(lj j ds n)),(13,(qX j ds n)),(15,(qX j ds n)),(14,(dQ k c m x y t)),(2,.bool false),(1,.ptr (aJ p)),(0,(dQ k c m x y t))]) (wb dC) (Op.alloc 42)=some (aa.ptr (aJ q),gU)∧bN env dF (dC.U+21) (bD [(11,.ptr (aJ q)),(91,.int .i64 0),(90,(dQ k c m x y t)),(87,(pL k c m x y t)),(89,(pL k c m x y t)),(88,.str s),(10,.int .i64 0),(9,.str s),(86,.int .i64 0),(85,.str s),(82,(lk s)),(84,(lk s)),(83,(dQ k c m x y t)),(67,.bool false),(66,.tuple []),(65,.tuple []),(64,.tuple []),(63,.bool false),(62,.bool false),(61,.int .i8 k),(60,.ptr (aJ p)),(59,.bool false),(58,.bool false),(57,.int .i64 0),(56,.slice none 0 0),(55,.ptr (aJ d)),(54,.bool false),(53,.bool false),(52,.bool false),(51,.int .i64 0),(50,.ptr (aJ d)),(49,.bool false),(48,.bool false),(47,.bool false),(46,(dQ k c m x y t)),(45,(dQ k c m x y t)),(44,.ptr (some ⟨o,ov,0,0,6⟩)),(43,(gT o ov)),(42,.bool false),(41,.bool false),(40,.int .i64 1),(39,(gT o ov)),(33,.bool false),(32,fL),(31,(dQ k c m x y t)),(6,(gT o ov)),(30,(gT o ov)),(29,(lj j ds n)),(28,.ptr (aJ d)),(27,.bool false),(26,.ptr (aJ d)),(5,.ptr (aJ d)),(25,.ptr (aJ d)),(19,.bool false),(18,.int .i64 0),(4,.int .i64 0),(3,(lj j ds n)),(17,.int .i64 0),(16,(lj j ds n)),(13,(qX j ds n)),(15,(qX j ds n)),(14,(dQ k c m x y t)),(2,.bool false),(1,.ptr (aJ p)),(0,(dQ k c m x y t))]) gU (Op.store 42 (Operand.tmp 11) (Operand.tmp 90))=some (aa.tuple [],ej)∧bd (H.U) (ej.U) (bM env.D 42 ⟨q,0,0,0,6⟩ (qW ej)=some ((dQ k c m x y t))∧bM env.D 42 ⟨p,0,0,0,6⟩ (qW ej)=some ((dQ k c m x y t))∧some (aa.bool (k == k&&(c == c&&(m == m&&(x == x&&(y == y&&(t == t&&true)))))))=some (aa.bool true)∧ca 19 [] (qW ej) (.bool true) gy∧bC (H.U) (gy.U) (ae (.bool true) gy)))))∧(¬k=1→bM env.D 40 ⟨p,0,0,0,6⟩ (J.mk (dC.U+8) (dC.2))=some (.int .i8 k)∧(k=2→bd (H.U) (dC.U+8) (bM env.D 42 ⟨p,0,0,0,6⟩ (qV dC)=some ((dQ k c m x y t))∧ca 23 [(dQ k c m x y t)] (qV dC) ((lk s)) (qV dC)∧bd (H.U) (dC.U+15) (ca 25 [.str s] (wb dC) ((pL k c m x y t)) (wb dC)∧bN env dF (dC.U+20) (bD [(91,.int .i64 0),(90,(dQ k c m x y t)),(87,(pL k c m x y t)),(89,(pL k c m x y t)),(88,.str s),(10,.int .i64 0),(9,.str s),(86,.int .i64 0),(85,.str s),(82,(lk s)),(84,(lk s)),(83,(dQ k c m x y t)),(67,.bool false),(66,.bool false),(65,.int .i8 k),(64,.ptr (aJ p)),(63,.bool true),(62,.bool true),(61,.int .i8 k),(60,.ptr (aJ p)),(59,.bool false),(58,.bool false),(57,.int .i64 0),(56,.slice none 0 0),(55,.ptr (aJ d)),(54,.bool false),(53,.bool false),(52,.bool false),(51,.int .i64 0),(50,.ptr (aJ d)),(49,.bool false),(48,.bool false),(47,.bool false),(46,(dQ k c m x y t)),(45,(dQ k c m x y t)),(44,.ptr (some ⟨o,ov,0,0,6⟩)),(43,(gT o ov)),(42,.bool false),(41,.bool false),(40,.int .i64 1),(39,(gT o ov)),(33,.bool false),(32,fL),(31,(dQ k c m x y t)),(6,(gT o ov)),(30,(gT o ov)),(29,(lj j ds n)),(28,.ptr (aJ d)),(27,.bool false),(26,.ptr (aJ d)),(5,.ptr (aJ d)),(25,.ptr (aJ d)),(19,.bool false),(18,.int .i64 0),(4,.int .i64 0),(3,(lj j ds n)),(17,.int .i64 0),(16,(lj j ds n)),(13,(qX j ds n)),(15,(qX j ds n)),(14,(dQ k c m x y t)),(2,.bool false),(1,.ptr (aJ p)),(0,(dQ k c m x y t))]) (wb dC) (Op.alloc 42)=some (aa.ptr (aJ q),gU)∧bN env dF (dC.U+21) (bD [(11,.ptr (aJ q)),(91,.int .i64 0),(90,(dQ k c m x y t)),(87,(pL k c m x y t)),(89,(pL k c m x y t)),(88,.str s),(10,.int .i64 0),(9,.str s),(86,.int .i64 0),(85,.str s),(82,(lk s)),(84,(lk s)),(83,(dQ k c m x y t)),(67,.bool false),(66,.bool false),(65,.int .i8 k),(64,.ptr (aJ p)),(63,.bool true),(62,.bool true),(61,.int .i8 k),(60,.ptr (aJ p)),(59,.bool false),(58,.bool false),(57,.int .i64 0),(56,.slice none 0 0),(55,.ptr (aJ d)),(54,.bool false),(53,.bool false),(52,.bool false),(51,.int .i64 0),(50,.ptr (aJ d)),(49,.bool false),(48,.bool false),(47,.bool false),(46,(dQ k c m x y t)),(45,(dQ k c m x y t)),(44,.ptr (some ⟨o,ov,0,0,6⟩)),(43,(gT o ov)),(42,.bool false),(41,.bool false),(40,.int .i64 1),(39,(gT o ov)),(33,.bool false),(32,fL),(31,(dQ k c m x y t)),(6,(gT o ov)),(30,(gT o ov)),(29,(lj j ds n)),(28,.ptr (aJ d)),(27,.bool false),(26,.ptr (aJ d)),(5,.ptr (aJ d)),(25,.ptr (aJ d)),(19,.bool false),(18,.int .i64 0),(4,.int .i64 0),(3,(lj j ds n)),(17,.int .i64 0),(16,(lj j ds n)),(13,(qX j ds n)),(15,(qX j ds n)),(14,(dQ k c m x y t)),(2,.bool false),(1,.ptr (aJ p)),(0,(dQ k c m x y t))]) gU (Op.store 42 (Operand.tmp 11) (Operand.tmp 90))=some (aa.tuple [],ej)∧bd (H.U) (ej.U) (bM env.D 42 ⟨q,0,0,0,6⟩ (qW ej)=some ((dQ k c m x y t))∧bM env.D 42 ⟨p,0,0,0,6⟩ (qW ej)=some ((dQ k c m x y t))∧some (aa.bool (k == k&&(c == c&&(m == m&&(x == x&&(y == y&&(t == t&&true)))))))=some (aa.bool true)∧ca 19 [] (qW ej) (.bool true) gy∧bC (H.U) (gy.U) (ae (.bool true) gy)))))∧(¬k=2→bd (H.U) (dC.U+8) (bM env.D 42 ⟨p,0,0,0,6⟩ (qV dC)=some ((dQ k c m x y t))∧ca 23 [(dQ k c m x y t)] (qV dC) (.tuple [.str [],.int .i64 220]) (qV dC)∧bd (H.U) (dC.U+15) (ca 19 [] (J.mk (dC.U+25) (dC.2)) (.bool true) fz∧bC (H.U) (fz.U) (ae (.bool true) fz))))))))))))))) :
 b4 10 [bB k c m x y t] H ae :=
 b9 vR (.az (.act 0 (.ptr (aJ p)) fun x=>cT) (.az (.val 1000 (bB k c m x y t)) (.az (.act 1001 (.tuple [(lj j ds n),.int .i64 0]) fun x=>H1) (.az (.act 4000 (.ptr (aJ d)) fun x=>H2) (.az (.act 7002 ((gT o ov)) fun x=>aX) (.az (.val 8000 (bB k c m x y t)) (.az (.val 8002 (.bool false)) (.az (.val 12006 (bB k c m x y t)) (.az (.val 12007 (bB k c m x y t)) (.az (.val 12008 (.bool false)) (.az (.act 12012 (.int .i64 0) fun x=>bO) (.az (.act 12017 (.slice none 0 0) fun x=>dC) (.az (.val 14001 (.int .i8 k)) (.aI 14002 (RD gU ej gy q k c m x y t s) (.az (.val 14005 (.int .i8 k)) (.aI 14006 (RD gU ej gy q k c m x y t s) (.az (.val 15000 (bB k c m x y t)) (.az (.val 15001 (.tuple [.str [],.int .i64 220])) (.az (.act 16007 (.bool true) fun x=>fz) .nil))))))))))))))))))) aW
abbrev qY(j ds:Nat):aa:=aa.slice (some ⟨j,ds,0,0,1⟩) 1 1
abbrev zz:aa:=aa.tuple [fL,.int .i64 0]
abbrev zA(j ds:Nat):aa:=aa.tuple [(qY j ds),.int .i64 0]
theorem afg(H cT H1 H2 aX bO dC fz gU ej gy:J)(p d j ds o ov q:Nat)(s:Bytes)(ae:bI)(aW:bd (H.U) (H.U) (bN env dF (H.U+0) (bD [(0,fL)]) (J.mk (H.U+2) (H.2)) (Op.box 42 (Operand.tmp 0))=some (aa.ptr (aJ p),cT)∧bd (H.U) (cT.U) (bM env.D 42 ⟨p,0,0,0,6⟩ (J.mk (cT.U+7) (cT.2))=some (fL)∧ca 21 [fL] (J.mk (cT.U+7) (cT.2)) ((zA j ds)) H1∧bd (H.U) (H1.U) (bd (H.U) (H1.U+2) (ca 14 [] (J.mk (H1.U+4) (H1.2)) (.ptr (aJ d)) H2∧bd (H.U) (H2.U) (bd (H.U) (H2.U+2) (ca 26 [.ptr (aJ d),(qY j ds)] (J.mk (H2.U+6) (H2.2)) (.slice none 0 0) aX∧bd (H.U) (aX.U) (bM env.D 42 ⟨p,0,0,0,6⟩ (J.mk (aX.U+3) (aX.2))=some (fL)∧some (aa.bool true)=some (aa.bool true)∧bd (H.U) (aX.U+3) (bd (H.U) (aX.U+6) (ca 27 [.ptr (aJ d)] (J.mk (aX.U+9) (aX.2)) ((gT o ov)) bO∧bd (H.U) (bO.U) (bM env.D 42 ⟨o,ov,0,0,6⟩ (J.mk (bO.U+21) (bO.2))=some (fL)∧bM env.D 42 ⟨p,0,0,0,6⟩ (J.mk (bO.U+21) (bO.2))=some (fL)∧some (aa.bool false)=some (aa.bool false)∧ca 16 [.ptr (aJ d)] (J.mk (bO.U+21) (bO.2)) (.int .i64 0) dC∧ca 27 [.ptr (aJ d)] dC (.slice none 0 0) fz∧bd (H.U) (fz.U) (bM env.D 40 ⟨p,0,0,0,6⟩ (J.mk (fz.U+8) (fz.2))=some (.int .i8 2)∧bM env.D 40 ⟨p,0,0,0,6⟩ (J.mk (fz.U+8) (fz.2))=some (.int .i8 2)∧bd (H.U) (fz.U+8) (bM env.D 42 ⟨p,0,0,0,6⟩ (J.mk (fz.U+15) (fz.2))=some (fL)∧ca 23 [fL] (J.mk (fz.U+15) (fz.2)) ((lk s)) (J.mk (fz.U+15) (fz.2))∧bd (H.U) (fz.U+15) (ca 25 [.str s] (J.mk (fz.U+23) (fz.2)) (zz) (J.mk (fz.U+23) (fz.2))∧bN env dF (fz.U+20) (bD [(91,.int .i64 0),(90,fL),(87,zz),(89,zz),(88,.str s),(10,.int .i64 0),(9,.str s),(86,.int .i64 0),(85,.str s),(82,(lk s)),(84,(lk s)),(83,fL),(67,.bool false),(66,.bool false),(65,.int .i8 2),(64,.ptr (aJ p)),(63,.bool true),(62,.bool true),(61,.int .i8 2),(60,.ptr (aJ p)),(59,.bool false),(58,.bool false),(57,.int .i64 0),(56,.slice none 0 0),(55,.ptr (aJ d)),(54,.bool false),(53,.bool false),(52,.bool false),(51,.int .i64 0),(50,.ptr (aJ d)),(49,.bool false),(48,.bool false),(47,.bool false),(46,fL),(45,fL),(44,.ptr (some ⟨o,ov,0,0,6⟩)),(43,(gT o ov)),(42,.bool false),(41,.bool false),(40,.int .i64 1),(39,(gT o ov)),(6,(gT o ov)),(38,(gT o ov)),(37,.ptr (aJ d)),(36,.bool false),(35,.int .i64 0),(34,.slice none 0 0),(33,.bool true),(32,fL),(31,fL),(30,.slice none 0 0),(29,(qY j ds)),(28,.ptr (aJ d)),(27,.bool false),(26,.ptr (aJ d)),(5,.ptr (aJ d)),(25,.ptr (aJ d)),(19,.bool false),(18,.int .i64 0),(4,.int .i64 0),(3,(qY j ds)),(17,.int .i64 0),(16,(qY j ds)),(13,(zA j ds)),(15,(zA j ds)),(14,fL),(2,.bool false),(1,.ptr (aJ p)),(0,fL)]) (J.mk (fz.U+23) (fz.2)) (Op.alloc 42)=some (aa.ptr (aJ q),gU)∧bN env dF (fz.U+21) (bD [(11,.ptr (aJ q)),(91,.int .i64 0),(90,fL),(87,zz),(89,zz),(88,.str s),(10,.int .i64 0),(9,.str s),(86,.int .i64 0),(85,.str s),(82,(lk s)),(84,(lk s)),(83,fL),(67,.bool false),(66,.bool false),(65,.int .i8 2),(64,.ptr (aJ p)),(63,.bool true),(62,.bool true),(61,.int .i8 2),(60,.ptr (aJ p)),(59,.bool false),(58,.bool false),(57,.int .i64 0),(56,.slice none 0 0),(55,.ptr (aJ d)),(54,.bool false),(53,.bool false),(52,.bool false),(51,.int .i64 0),(50,.ptr (aJ d)),(49,.bool false),(48,.bool false),(47,.bool false),(46,fL),(45,fL),(44,.ptr (some ⟨o,ov,0,0,6⟩)),(43,(gT o ov)),(42,.bool false),(41,.bool false),(40,.int .i64 1),(39,(gT o ov)),(6,(gT o ov)),(38,(gT o ov)),(37,.ptr (aJ d)),(36,.bool false),(35,.int .i64 0),(34,.slice none 0 0),(33,.bool true),(32,fL),(31,fL),(30,.slice none 0 0),(29,(qY j ds)),(28,.ptr (aJ d)),(27,.bool false),(26,.ptr (aJ d)),(5,.ptr (aJ d)),(25,.ptr (aJ d)),(19,.bool false),(18,.int .i64 0),(4,.int .i64 0),(3,(qY j ds)),(17,.int .i64 0),(16,(qY j ds)),(13,(zA j ds)),(15,(zA j ds)),(14,fL),(2,.bool false),(1,.ptr (aJ p)),(0,fL)]) gU (Op.store 42 (Operand.tmp 11) (Operand.tmp 90))=some (aa.tuple [],ej)∧bd (H.U) (ej.U) (bM env.D 42 ⟨q,0,0,0,6⟩ (qW ej)=some (fL)∧bM env.D 42 ⟨p,0,0,0,6⟩ (qW ej)=some (fL)∧some (aa.bool true)=some (aa.bool true)∧ca 19 [] (qW ej) (.bool true) gy∧bC (H.U) (gy.U) (ae (.bool true) gy)))))))))))))))) :
 b4 10 [bB 2 4 0 0 0 []] H ae :=
 b9 vR (.az (.act 0 (.ptr (aJ p)) fun x=>cT) (.az (.val 1000 (bB 2 4 0 0 0 [])) (.az (.act 1001 (.tuple [(qY j ds),.int .i64 0]) fun x=>H1) (.az (.act 4000 (.ptr (aJ d)) fun x=>H2) (.az (.act 7002 (.slice none 0 0) fun x=>aX) (.az (.val 8000 (bB 2 4 0 0 0 [])) (.az (.val 8002 (.bool true)) (.az (.act 11001 ((gT o ov)) fun x=>bO) (.az (.val 12006 (bB 2 4 0 0 0 [])) (.az (.val 12007 (bB 2 4 0 0 0 [])) (.az (.val 12008 (.bool false)) (.az (.act 12012 (.int .i64 0) fun x=>dC) (.az (.act 12017 (.slice none 0 0) fun x=>fz) (.az (.val 14001 (.int .i8 2)) (.az (.val 14005 (.int .i8 2)) (.az (.val 17000 (bB 2 4 0 0 0 [])) (.az (.val 17001 (.tuple [.str s,.int .i64 0])) (.az (.val 18001 (.tuple [bB 2 4 0 0 0 [],.int .i64 0])) (.az (.act 18005 (.ptr (aJ q)) fun x=>gU) (.az (.act 18006 (.tuple []) fun x=>ej) (.az (.val 19007 (bB 2 4 0 0 0 [])) (.az (.val 19008 (bB 2 4 0 0 0 [])) (.az (.val 19009 (.bool true)) (.az (.act 19012 (.bool true) fun x=>gy) .nil)))))))))))))))))))))))) aW
abbrev iU:aa:= .agg [.str [99,116,114,108,43],.str [97,108,116,43],.str [115,104,105,102,116,43]]
abbrev kM:aa:=aa.str [115,104,105,102,116,43]
abbrev wc(H:J):J:=(J.mk (H.U+5+6) (J.aH (J.mk (H.U+1+4) (J.aH (J.mk (H.U+1) (J.aH H))))))
abbrev pM:aa:=aa.agg [.str [99,116,114,108,43],.str [97,108,116,43],kM]
theorem RF(H:J)(B p:Nat)(s:Bytes)(m:Int)(ae:cW→bJ→J→Prop)(aW:bd B (H.U) (bd B (H.U+1) (bd B (H.U+5) (bM env.D 5 ⟨p,0,0,2,6⟩ (J.mk (H.U+11) (H.2))=some (.int .u8 m)∧p<H.U+5∧True∧(bp .u8 m (4)=0→bd B (H.U+11) (ae .normal [(1,.ptr (aJ p)),(6,.str s),(26,pM),(27,.int .i64 1)] (J.mk (H.U+11+2) (J.aH (wc H)))))∧(¬bp .u8 m (4)=0→bd B (H.U+11) (Nat.le (Nat.succ (List.length s+List.length [(99:UInt8),(116:UInt8),(114:UInt8),(108:UInt8),(43:UInt8)])) (2^62)∧bd B (H.U+15) (ae .normal [(1,.ptr (aJ p)),(6,.str (s++[(99:UInt8),(116:UInt8),(114:UInt8),(108:UInt8),(43:UInt8)])),(26,pM),(27,.int .i64 1)] (J.mk (H.U+15+2) (J.aH (J.mk (H.U+11+4) (J.aH (wc H)))))))))))) :
 ∃e aU ac,dc B 89 (cs 23 0) [(1,.ptr (aJ p)),(6,.str s),(26,iU),(27,.int .i64 0)] H e aU ac∧ae e aU ac :=
 fP eN mixed cx (hs:= .az (.k4 8001 (.int .u8 m)) (ak 8004 (.aI 8005 .nil (ak 9002 .nil)))) (keep:=[1,6,26,27]) ay aW
theorem RG(H:J)(B p:Nat)(s:Bytes)(m:Int)(ae:cW→bJ→J→Prop)(aW:bd B (H.U) (bd B (H.U+1) (bd B (H.U+5) (bM env.D 5 ⟨p,0,0,2,6⟩ (J.mk (H.U+11) (H.2))=some (.int .u8 m)∧p<H.U+5∧True∧(bp .u8 m (2)=0→bd B (H.U+11) (ae .normal [(1,.ptr (aJ p)),(6,.str s),(26,pM),(27,.int .i64 2)] (J.mk (H.U+11+2) (J.aH (wc H)))))∧(¬bp .u8 m (2)=0→bd B (H.U+11) (Nat.le (Nat.succ (List.length s+List.length [(97:UInt8),(108:UInt8),(116:UInt8),(43:UInt8)])) (2^62)∧bd B (H.U+15) (ae .normal [(1,.ptr (aJ p)),(6,.str (s++[(97:UInt8),(108:UInt8),(116:UInt8),(43:UInt8)])),(26,pM),(27,.int .i64 2)] (J.mk (H.U+15+2) (J.aH (J.mk (H.U+11+4) (J.aH (wc H)))))))))))) :
 ∃e aU ac,dc B 89 (cs 23 0) [(1,.ptr (aJ p)),(6,.str s),(26,iU),(27,.int .i64 1)] H e aU ac∧ae e aU ac :=
 fP eN mixed cx (hs:= .az (.k4 8001 (.int .u8 m)) (ak 8004 (.aI 8005 .nil (ak 9002 .nil)))) (keep:=[1,6,26,27]) ay aW
theorem RH(H:J)(B p:Nat)(s:Bytes)(m:Int)(ae:cW→bJ→J→Prop)(aW:bd B (H.U) (bd B (H.U+1) (bd B (H.U+5) (bM env.D 5 ⟨p,0,0,2,6⟩ (J.mk (H.U+11) (H.2))=some (.int .u8 m)∧p<H.U+5∧True∧(bp .u8 m (1)=0→bd B (H.U+11) (ae .normal [(1,.ptr (aJ p)),(6,.str s),(26,pM),(27,.int .i64 3)] (J.mk (H.U+11+2) (J.aH (wc H)))))∧(¬bp .u8 m (1)=0→bd B (H.U+11) (Nat.le (Nat.succ (List.length s+List.length [(115:UInt8),(104:UInt8),(105:UInt8),(102:UInt8),(116:UInt8),(43:UInt8)])) (2^62)∧bd B (H.U+15) (ae .normal [(1,.ptr (aJ p)),(6,.str (s++[(115:UInt8),(104:UInt8),(105:UInt8),(102:UInt8),(116:UInt8),(43:UInt8)])),(26,pM),(27,.int .i64 3)] (J.mk (H.U+15+2) (J.aH (J.mk (H.U+11+4) (J.aH (wc H)))))))))))) :
 ∃e aU ac,dc B 89 (cs 23 0) [(1,.ptr (aJ p)),(6,.str s),(26,iU),(27,.int .i64 2)] H e aU ac∧ae e aU ac :=
 fP eN mixed cx (hs:= .az (.k4 8001 (.int .u8 m)) (ak 8004 (.aI 8005 .nil (ak 9002 .nil)))) (keep:=[1,6,26,27]) ay aW
theorem afh(H:J)(B p:Nat)(s:Bytes)(ae:cW→bJ→J→Prop)(aW:bd B (H.U) (ae (.exit 0) [(1,.ptr (aJ p)),(6,.str s),(26,pM),(27,.int .i64 3)] (J.mk (H.U+1) (J.aH H)))) :
 ∃e aU ac,dc B 89 (cs 23 0) [(1,.ptr (aJ p)),(6,.str s),(26,iU),(27,.int .i64 3)] H e aU ac∧ae e aU ac :=
 fP eN mixed cx (hs:= .nil) (keep:=[1,6,26,27]) ay aW
theorem afi(p:Nat)(H cT H1:J)(k c m x y:Int)(t:Bytes)(ae:bI)(aW:bd (H.U) (H.U) (bN env dF (H.U+0) (bD [(0,(dQ k c m x y t))]) (J.mk (H.U+3) (H.2)) (Op.box 42 (Operand.tmp 0))=some (aa.ptr (aJ p),cT)∧bd (H.U) (cT.U) (bM env.D 42 ⟨p,0,0,0,6⟩ (J.mk (cT.U+7) (cT.2))=some ((dQ k c m x y t))∧ca 21 [(dQ k c m x y t)] (J.mk (cT.U+7) (cT.2)) (.tuple [.slice none 0 0,.int .i64 220]) H1∧bd (H.U) (H1.U) (bd (H.U) (H1.U+12) (bC (H.U) (H1.U+14) (ae (.tuple [.str [],.int .i64 220]) (J.mk (H1.U+12+2) (J.aH (J.mk (H1.U+12) (J.aH H1)))))))))) :
 b4 23 [bB k c m x y t] H ae :=
 b9 cx (.az (.act 0 (.ptr (aJ p)) fun x=>cT) (.az (.val 1000 (bB k c m x y t)) (.az (.act 1001 (.tuple [.slice none 0 0,.int .i64 220]) fun x=>H1) .nil))) aW
abbrev oF(H1:J):J:=(J.mk (H1.U+12) (H1.2))
abbrev JU:aa:=aa.tuple [.str [],.int .i64 220]
abbrev qZ(a:bA)(n:Nat):aa:=aa.tuple [.slice (some a) n n,.int .i64 0]
abbrev JV(H1:J):J:=(J.mk (H1.U+12+2) (J.aH (J.mk (H1.U+12) (J.aH H1))))
theorem afj(p:Nat)(H cT H1:J)(k c m x y:Int)(t:Bytes)(a:bA)(n:Nat)(ae:bI)(aW:bd (H.U) (H.U) (bN env dF (H.U+0) (bD [(0,(dQ k c m x y t))]) (J.mk (H.U+3) (H.2)) (Op.box 42 (Operand.tmp 0))=some (aa.ptr (aJ p),cT)∧bd (H.U) (cT.U) (bM env.D 42 ⟨p,0,0,0,6⟩ (J.mk (cT.U+7) (cT.2))=some ((dQ k c m x y t))∧ca 21 [(dQ k c m x y t)] (J.mk (cT.U+7) (cT.2)) ((qZ a n)) H1∧bd (H.U) (H1.U) (bM env.D 40 ⟨p,0,0,0,6⟩ (oF H1)=some (.int .i8 k)∧(k=1→bN env dF (H1.U+11) (bD [(24,.bool false),(23,.tuple []),(22,.tuple []),(21,.tuple []),(20,.bool false),(19,.bool false),(18,.int .i8 k),(17,.ptr (aJ p)),(16,.bool false),(15,.bool false),(14,.int .i64 0),(5,.int .i64 0),(4,.slice (some a) n n),(13,.int .i64 0),(12,.slice (some a) n n),(9,(qZ a n)),(11,(qZ a n)),(10,(dQ k c m x y t)),(3,.int .i64 0),(2,.str []),(1,.ptr (aJ p)),(0,(dQ k c m x y t))]) (oF H1) (Op.pick (Operand.tmp 16) (Operand.const (Value.bool true)) (Operand.tmp 24))=some (aa.bool true,(oF H1))∧bd (H.U) (H1.U+12) (bC (H.U) (H1.U+14) (ae (JU) (JV H1))))∧(¬k=1→bM env.D 40 ⟨p,0,0,0,6⟩ (oF H1)=some (.int .i8 k)∧(k=2→bN env dF (H1.U+11) (bD [(24,.bool false),(23,.bool false),(22,.int .i8 k),(21,.ptr (aJ p)),(20,.bool true),(19,.bool true),(18,.int .i8 k),(17,.ptr (aJ p)),(16,.bool false),(15,.bool false),(14,.int .i64 0),(5,.int .i64 0),(4,.slice (some a) n n),(13,.int .i64 0),(12,.slice (some a) n n),(9,(qZ a n)),(11,(qZ a n)),(10,(dQ k c m x y t)),(3,.int .i64 0),(2,.str []),(1,.ptr (aJ p)),(0,(dQ k c m x y t))]) (oF H1) (Op.pick (Operand.tmp 16) (Operand.const (Value.bool true)) (Operand.tmp 24))=some (aa.bool true,(oF H1))∧bd (H.U) (H1.U+12) (bC (H.U) (H1.U+14) (ae (JU) (JV H1))))∧(¬k=2→bN env dF (H1.U+11) (bD [(24,.bool true),(23,.bool true),(22,.int .i8 k),(21,.ptr (aJ p)),(20,.bool true),(19,.bool true),(18,.int .i8 k),(17,.ptr (aJ p)),(16,.bool false),(15,.bool false),(14,.int .i64 0),(5,.int .i64 0),(4,.slice (some a) n n),(13,.int .i64 0),(12,.slice (some a) n n),(9,(qZ a n)),(11,(qZ a n)),(10,(dQ k c m x y t)),(3,.int .i64 0),(2,.str []),(1,.ptr (aJ p)),(0,(dQ k c m x y t))]) (oF H1) (Op.pick (Operand.tmp 16) (Operand.const (Value.bool true)) (Operand.tmp 24))=some (aa.bool true,(oF H1))∧bd (H.U) (H1.U+12) (bC (H.U) (H1.U+14) (ae (JU) (JV H1))))))))) :
 b4 23 [bB k c m x y t] H ae :=
 b9 cx (.az (.act 0 (.ptr (aJ p)) fun x=>cT) (.az (.val 1000 (bB k c m x y t)) (.az (.act 1001 (.tuple [.slice (some a) n n,.int .i64 0]) fun x=>H1) (.az (.val 2004 (.int .i8 k)) (.aI 2005 (.az (.val 2011 (.bool true)) .nil) (.az (.val 2008 (.int .i8 k)) (.aI 2009 (.az (.val 2011 (.bool true)) .nil) (.az (.val 2011 (.bool true)) .nil)))))))) aW
abbrev JW(c m:Int):aa:=aa.agg [.int .i8 2,.int .i32 c,.int .u8 m,.int .i64 0,.int .i64 0,.str []]
theorem afk(p:Nat)(H cT H1 H2 aX bO:J)(c m:Int)(a:bA)(n w:Nat)(s u f:Bytes)(ae:bI)(aW:bd (H.U) (H.U) (bN env dF (H.U+0) (bD [(0,(JW c m))]) (J.mk (H.U+3) (H.2)) (Op.box 42 (Operand.tmp 0))=some (aa.ptr (aJ p),cT)∧bd (H.U) (cT.U) (bM env.D 42 ⟨p,0,0,0,6⟩ (J.mk (cT.U+7) (cT.2))=some ((JW c m))∧ca 21 [(JW c m)] (J.mk (cT.U+7) (cT.2)) ((qZ a n)) H1∧bd (H.U) (H1.U) (bM env.D 40 ⟨p,0,0,0,6⟩ (oF H1)=some (.int .i8 2)∧bM env.D 40 ⟨p,0,0,0,6⟩ (oF H1)=some (.int .i8 2)∧bd (H.U) (H1.U+12) (bd (H.U) (H1.U+13) (dc (H.U) 89 (Code.loop (cs 23 0)) [(1,.ptr (aJ p)),(6,.str []),(26,pM),(27,.int .i64 0)] (J.mk (H1.U+13+2) (J.aH (J.mk (H1.U+12+1) (J.aH (J.mk (H1.U+12) (J.aH H1)))))) (.exit 0) [(1,.ptr (aJ p)),(6,.str s),(26,iU),(27,.int .i64 3)] H2∧bd (H.U) (H2.U) (bM env.D 40 ⟨p,0,0,0,6⟩ (J.mk (H2.U+9) (H2.2))=some (.int .i8 2)∧bM env.D 21 ⟨p,0,0,1,6⟩ (J.mk (H2.U+9) (H2.2))=some (.int .i32 c)∧(21≤c→bd (H.U) (H2.U+9) (Nat.le (Nat.succ (List.length s+List.length (Array.toList (ByteArray.data {data:= #[102]})))) (2^62)∧bM env.D 21 ⟨p,0,0,1,6⟩ (J.mk (H2.U+20) (H2.2))=some (.int .i32 c)∧(-9223372036854775808≤c∧c≤9223372036854775807)∧(-9223372036854775808≤c-21∧c-21≤9223372036854775807)∧(-9223372036854775808≤c-21+1∧c-21+1≤9223372036854775807)∧ca 49 [.int .i64 (c-21+1)] (J.mk (H2.U+20) (H2.2)) (.str f) bO∧Nat.le (Nat.succ (List.length (s++[(102:UInt8)])+List.length f)) (2^62)∧bC (H.U) (bO.U) (ae (.tuple [.str (s++[(102:UInt8)]++f),.int .i64 0]) bO)))∧(¬21≤c→bd (H.U) (H2.U+9) (bM env.D 40 ⟨p,0,0,0,6⟩ (J.mk (H2.U+13) (H2.2))=some (.int .i8 2)∧bd (H.U) (H2.U+13) (ca 50 [.str [101,110,116,101,114,32,116,97,98,32,98,97,99,107,115,112,97,99,101,32,101,115,99,97,112,101,32,117,112,32,100,111,119,110,32,114,105,103,104,116,32,108,101,102,116,32,104,111,109,101,32,101,110,100,32,105,110,115,101,114,116,32,100,101,108,101,116,101,32,112,97,103,101,117,112,32,112,97,103,101,100,111,119,110]] (J.mk (H2.U+23) (H2.2)) (.slice (cm w) 14 14) aX∧pT (H2.U+23) (J.mk (H2.U+23) (H2.2)) aX=true∧bM env.D 21 ⟨p,0,0,1,6⟩ aX=some (.int .i32 c)∧p<H2.U+13∧(-2147483648≤c-1∧c-1≤2147483647)∧(0≤c-1∧c-1<14)∧bM env.D 9 ⟨w,0,0+Int.toNat (c-1),0,1⟩ aX=some (aa.str u)∧Nat.le (Nat.succ (List.length s+List.length u)) (2^62)∧bC (H.U) (aX.U) (ae (.tuple [.str (s++u),.int .i64 0]) aX))))))))))) :
 b4 23 [bB 2 c m 0 0 []] H ae :=
 b9 cx (.az (.act 0 (.ptr (aJ p)) fun x=>cT) (.az (.val 1000 (bB 2 c m 0 0 [])) (.az (.act 1001 (.tuple [.slice (some a) n n,.int .i64 0]) fun x=>H1) (.az (.val 2004 (.int .i8 2)) (.az (.val 2008 (.int .i8 2)) (.az (.keep [1,6,26,27]) (.az (.loop [(1,.ptr (aJ p)),(6,.str s),(26,iU),(27,.int .i64 3)] H2 (.exit 0)) (.az (.val 11001 (.int .i8 2)) (.az (.val 11005 (.int .i32 c)) (.aI 11006 (ak 12001 (.az (.val 12003 (.int .i32 c)) (ak 12004 (ak 12005 (ak 12006 (.az (.act 12007 (.str f) fun x=>bO) (ak 12008 .nil))))))) (.az (.val 13001 (.int .i8 2)) (.az (.act 14001 (.slice (cm w) 14 14) fun x=>aX) (.az (.k4 14003 (.int .i32 c)) (ak 14004 (ak 14005 (.az (.val 14006 (.str u)) (ak 14007 .nil))))))))))))))))) aW
abbrev RI(H2:J):J:=(J.mk (H2.U+13+4) (J.aH (J.mk (H2.U+9+4) (J.aH (J.mk (H2.U+9) (J.aH H2))))))
theorem afl(p:Nat)(H cT H1 H2 aX bO:J)(c m:Int)(a:bA)(n y:Nat)(s u:Bytes)(ae:bI)(aW:bd (H.U) (H.U) (bN env dF (H.U+0) (bD [(0,(vZ c m))]) (J.mk (H.U+3) (H.2)) (Op.box 42 (Operand.tmp 0))=some (aa.ptr (aJ p),cT)∧bd (H.U) (cT.U) (bM env.D 42 ⟨p,0,0,0,6⟩ (J.mk (cT.U+7) (cT.2))=some ((vZ c m))∧ca 21 [(vZ c m)] (J.mk (cT.U+7) (cT.2)) ((qZ a n)) H1∧bd (H.U) (H1.U) (bM env.D 40 ⟨p,0,0,0,6⟩ (oF H1)=some (.int .i8 1)∧bd (H.U) (H1.U+12) (bd (H.U) (H1.U+13) (dc (H.U) 89 (Code.loop (cs 23 0)) [(1,.ptr (aJ p)),(6,.str []),(26,pM),(27,.int .i64 0)] (J.mk (H1.U+13+2) (J.aH (J.mk (H1.U+12+1) (J.aH (J.mk (H1.U+12) (J.aH H1)))))) (.exit 0) [(1,.ptr (aJ p)),(6,.str s),(26,iU),(27,.int .i64 3)] H2∧bd (H.U) (H2.U) (bM env.D 40 ⟨p,0,0,0,6⟩ (J.mk (H2.U+9) (H2.2))=some (.int .i8 1)∧bd (H.U) (H2.U+9) (bM env.D 40 ⟨p,0,0,0,6⟩ (J.mk (H2.U+13) (H2.2))=some (.int .i8 1)∧bd (H.U) (H2.U+13) (bM env.D 21 ⟨p,0,0,1,6⟩ (J.mk (H2.U+17) (H2.2))=some (.int .i32 c)∧(c=32→bd (H.U) (H2.U+17) (Nat.le (Nat.succ (List.length s+List.length (Array.toList (ByteArray.data {data:= #[115,112,97,99,101]})))) (2^62)∧bC (H.U) (H2.U+21) (ae (.tuple [.str (s++[(115:UInt8),(112:UInt8),(97:UInt8),(99:UInt8),(101:UInt8)]),.int .i64 0]) (J.mk (H2.U+17+4) (J.aH (RI H2))))))∧(¬c=32→bd (H.U) (H2.U+17) (bM env.D 21 ⟨p,0,0,1,6⟩ (J.mk (H2.U+21) (H2.2))=some (.int .i32 c)∧(c=43→bd (H.U) (H2.U+21) (Nat.le (Nat.succ (List.length s+List.length (Array.toList (ByteArray.data {data:= #[112,108,117,115]})))) (2^62)∧bC (H.U) (H2.U+25) (ae (.tuple [.str (s++[(112:UInt8),(108:UInt8),(117:UInt8),(115:UInt8)]),.int .i64 0]) (J.mk (H2.U+21+4) (J.aH (J.mk (H2.U+17+4) (J.aH (RI H2))))))))∧(¬c=43→bd (H.U) (H2.U+21) (bM env.D 21 ⟨p,0,0,1,6⟩ (J.mk (H2.U+29) (H2.2))=some (.int .i32 c)∧bN env dF (H2.U+24) (bD [(85,.int .i32 c),(84,.ptr (some ⟨p,0,0,1,6⟩)),(83,.str s),(77,.bool false),(80,.bool false),(79,.int .i32 c),(78,.ptr (some ⟨p,0,0,1,6⟩)),(71,.bool false),(74,.bool false),(73,.int .i32 c),(72,.ptr (some ⟨p,0,0,1,6⟩)),(59,.bool false),(62,.bool false),(61,.int .i8 1),(60,.ptr (aJ p)),(41,.bool false),(49,.bool false),(48,.tuple []),(47,.tuple []),(46,.tuple []),(45,.bool false),(44,.bool false),(43,.int .i8 1),(42,.ptr (aJ p)),(1,.ptr (aJ p)),(6,.str s),(26,pM),(27,.int .i64 3)]) (J.mk (H2.U+29) (H2.2)) (Op.buildSlice 84 1 {toList:=[(0,Operand.tmp 85)]})=some (aa.slice (cm y) 1 1,aX)∧ca 51 [.slice (cm y) 1 1] aX (.str u) bO∧Nat.le (Nat.succ (List.length s+List.length u)) (2^62)∧bC (H.U) (bO.U) (ae (.tuple [.str (s++u),.int .i64 0]) bO)))))))))))))) :
 b4 23 [bB 1 c m 0 0 []] H ae :=
 b9 cx (.az (.act 0 (.ptr (aJ p)) fun x=>cT) (.az (.val 1000 (bB 1 c m 0 0 [])) (.az (.act 1001 (.tuple [.slice (some a) n n,.int .i64 0]) fun x=>H1) (.az (.val 2004 (.int .i8 1)) (.az (.keep [1,6,26,27]) (.az (.loop [(1,.ptr (aJ p)),(6,.str s),(26,iU),(27,.int .i64 3)] H2 (.exit 0)) (.az (.val 11001 (.int .i8 1)) (.az (.val 13001 (.int .i8 1)) (.az (.val 15001 (.int .i32 c)) (.aI 15002 (ak 16001 .nil) (.az (.val 17001 (.int .i32 c)) (.aI 17002 (ak 18001 .nil) (.az (.val 19002 (.int .i32 c)) (.az (.act 19003 (.slice (cm y) 1 1) fun x=>aX) (.az (.act 19004 (.str u) fun x=>bO) (ak 19005 .nil)))))))))))))))) aW
end Go.Proofs.YtddnafghiejcoaaGreatDoor
namespace Go.Keys
open Go.Lib
def e5:Bytes:=[99,116,114,108,43]
def eU:Bytes:=[97,108,116,43]
def fe:Bytes:=[115,104,105,102,116,43]
def q0:Bytes:=[115,112,97,99,101]
def sv:Bytes:=[112,108,117,115]
def jM:List Bytes:=[[101,110,116,101,114],[116,97,98],[98,97,99,107,115,112,97,99,101],[101,115,99,97,112,101],[117,112],[100,111,119,110],[114,105,103,104,116],[108,101,102,116],[104,111,109,101],[101,110,100],[105,110,115,101,114,116],[100,101,108,101,116,101],[112,97,103,101,117,112],[112,97,103,101,100,111,119,110]]
def ii(m:Nat):Bytes:=(if m/4%2=1 then e5 else [])++((if m/2%2=1 then eU else [])++(if m%2=1 then fe else []))
def sw(k:Nat):Bytes:=if 21≤k then 102::decDigits (k-20)else jM.getD (k-1) []
def l0(c:Nat):Bytes:=if c=32 then q0 else if c=43 then sv else put c
def iV(e:bl):Option Bytes:=if(enc e).isSome=true∧(e.kind=1∨e.kind=2)then some (ii e.df.toNat++if e.kind=2 then sw e.code.toNat else l0 e.code.toNat)else none
theorem RJ{e:bl}(h:qQ e=true):e.x=0∧e.y=0∧e.text=[]:=by unfold qQ at h;simp only [Bool.and_eq_true,decide_eq_true_eq]at h;exact⟨h.1.1,h.1.2,h.2⟩
theorem afm{k m:Nat}{b:Bytes}(h:kG k m=some b):(1≤k∧k≤14)∨(21≤k∧k≤32):=by
 unfold kG at h;split at h
 ·omega
 ·split at h
  ·rename_i c aw;unfold sr at aw;split at aw
   ·omega
   ·split at aw
    ·omega
    ·split at aw
     ·omega
     ·cases aw
  ·split at h
   ·omega
   ·split at h
    ·rename_i n aR;unfold qP at aR
     repeat' split at aR
     all_goals first|omega|cases aR
    ·cases h
theorem JX{e:bl}{b:Bytes}(bf:0≤e.df)(h:enc e=some b)(au:e.kind=2):∃k m:Nat,e=⟨2,k,m,0,0,[]⟩∧m≤7∧((1≤k∧k≤14)∨(21≤k∧k≤32)):=by
 obtain⟨kind,code,df,x,y,text⟩:=e;simp only at au bf;subst au;unfold enc at h;rw [if_neg (by show ¬(2:Int)=3;decide)]at h;split at h
 ·cases h
 ·rename_i hm;simp only at hm;rw [if_neg (by intro q;exact absurd q.1 (by show ¬(2:Int)=1;decide))]at h;split at h
  ·rename_i ah;obtain⟨ep,hb,k5⟩:=RJ ah.2;simp only at ep hb k5;subst ep hb k5;split at h
   ·rename_i aw;simp only at aw h;refine⟨code.toNat,df.toNat,?_,ab,afm h⟩;rw [Int.toNat_of_nonneg aw,Int.toNat_of_nonneg bf]
   ·cases h
  ·rename_i ah;rw [if_neg (by intro q;cases q),if_neg (by intro q;cases q),if_neg (by intro q;cases q.1),if_neg (by intro q;cases q.1)]at h;cases h
theorem JY{e:bl}{b:Bytes}(bf:0≤e.df)(h:enc e=some b)(au:e.kind=1):∃c m:Nat,e=⟨1,c,m,0,0,[]⟩∧m≤7∧shown (c:Int)=true:=by
 obtain⟨kind,code,df,x,y,text⟩:=e;simp only at au bf;subst au;unfold enc at h;rw [if_neg (by show ¬(1:Int)=3;decide)]at h;split at h
 ·cases h
 ·rename_i hm;simp only at hm;split at h
  ·rename_i ah;obtain⟨ep,hb,k5⟩:=RJ ah.2.1;simp only at ep hb k5;subst ep hb k5;have hs:shown code=true:=ah.2.2;obtain⟨_,_,_,q⟩:=pF hs;refine⟨code.toNat,df.toNat,?_,ab,by rw [q];exact hs⟩;rw [q,Int.toNat_of_nonneg bf]
  ·rw [if_neg (by intro q;exact absurd q.1 (by show ¬(1:Int)=2;decide)),if_neg (by intro q;cases q),if_neg (by intro q;cases q),if_neg (by intro q;cases q.1),if_neg (by intro q;cases q.1)]at h;cases h
theorem RL{e:bl}(h:(enc e).isSome=true):∃b,enc e=some b:=Option.isSome_iff_exists.1 h
theorem afn{e:bl}(h:enc e=none):iV e=none:=by unfold iV;rw [h];rfl
theorem afo{e:bl}(ac:e.kind≠1)(ai:e.kind≠2):iV e=none:=by unfold iV;rw [if_neg (by rintro ⟨_,h|h⟩<;>contradiction)]
theorem Di{k m:Nat}{b:Bytes}(h:enc ⟨2,k,m,0,0,[]⟩=some b):iV ⟨2,k,m,0,0,[]⟩=some (ii m++sw k):=by unfold iV;rw [if_pos ⟨by rw [h];rfl,.inr rfl⟩];rfl
theorem zB{c m:Nat}{b:Bytes}(h:enc ⟨1,c,m,0,0,[]⟩=some b):iV ⟨1,c,m,0,0,[]⟩=some (ii m++l0 c):=by unfold iV;rw [if_pos ⟨by rw [h];rfl,.inl rfl⟩];rfl
end Go.Keys
namespace Go.Keys
open Go.Lib
def fA(p s:Bytes):Bytes:=if p.isPrefixOf s then s.drop p.length else s
def iW(s:Bytes):Bytes:=fA e5 s
def nJ(s:Bytes):Bytes:=fA eU (iW s)
def c7(s:Bytes):Bytes:=fA fe (nJ s)
def ff(s:Bytes):Nat:=(if e5.isPrefixOf s then 4 else 0)+((if eU.isPrefixOf (iW s)then 2 else 0)+(if fe.isPrefixOf (nJ s)then 1 else 0))
def l1(t:Bytes):Nat:=match jM.findIdx? (· == t)with|some i=>i+1|none=>0
def pN(t:Bytes):Bytes:=fA [102] t
def pO(t:Bytes):Int:=match atoiAll (pN t)with|.ok n=>if 1≤n∧n≤12 then 20+n else 0|_=>0
def uc(t:Bytes):Int:=if t=q0∨t=sv∨(first t).2.1=t.length then 1 else 2
def ud(t:Bytes):Int:=if t=q0 then 32 else if t=sv then 43 else if(first t).2.1=t.length then((first t).1:Int)else if l1 t=0 then pO t else l1 t
def iX(s:Bytes):bl:=⟨uc (c7 s),ud (c7 s),ff s,0,0,[]⟩
def named(s:Bytes):Option bl:=if iV (iX s)=some s then some (iX s)else none
def zC(k:Nat):Bytes:=if 21≤k then 102::(if k<30 then [u8 (28+k)]else [49,u8 (18+k)])else jM.getD (k-1) []
theorem JZ{k:Nat}(h:k≤32):sw k=zC k:=by
 unfold sw zC;split
 ·congr 1
  by_cases ac:k<30
  ·rw [if_pos ac,decDigits,dif_pos ab];unfold u8;congr 2;omega
  ·rw [if_neg ac,decDigits,dif_neg ab,decDigits,dif_pos ab];have bi:(k-20)/10=1:= ab;have bu:(k-20)%10=k-30:= ab;rw [bi,bu];unfold u8;show [UInt8.ofNat (48+1)]++[UInt8.ofNat (48+(k-30))]=_;rw [show 48+(k-30)=18+k by omega];rfl
 ·rfl
theorem afp:∀k:Fin 33,∀m:Fin 8,(1≤k.val∧k.val≤14∨21≤k.val)→iX (ii m.val++zC k.val)=⟨2,(k.val:Nat),(m.val:Nat),0,0,[]⟩:=by decide+kernel
theorem afq{c:Nat}(hs:Scalar c){p:Bytes}(ah:p=e5∨p=eU∨p=fe):p.isPrefixOf (put c)=false:=by
 rcases Nat.lt_or_ge c 128 with h|h
 ·rw [pj h];rcases ah with rfl|rfl|rfl<;>simp [e5,eU,fe,List.isPrefixOf]
 ·have ax:∀n,192≤n→n<256→u8 n≠99∧u8 n≠97∧u8 n≠115:=by intro n ac ai;have:=kJ ai;refine⟨?_,?_,?_⟩<;>(intro q;rw [q]at this;simp at this;omega)
  have fin:∀n (r:Bytes),192≤n→n<256→p.isPrefixOf (u8 n::r)=false:=by intro n r ac ai;obtain⟨dh,du,fE⟩:=ax n ac ai;rcases ah with rfl|rfl|rfl<;>simp [e5,eU,fe,List.isPrefixOf,Ne.symm dh,Ne.symm du,Ne.symm fE]
  rcases Nat.lt_or_ge c 2048 with ai|ai
  ·rw [rT h ai];exact fin _ _ ab ab
  ·rcases Nat.lt_or_ge c 65536 with a8|a8
   ·rw [qp hs ai a8];exact fin _ _ ab ab
   ·rw [rU hs a8];exact fin _ _ ab (by unfold Scalar at hs;omega)
theorem afr{m:Nat}(hm:m≤7){t:Bytes}(h:∀p,p=e5∨p=eU∨p=fe→p.isPrefixOf t=false):ff (ii m++t)=m∧c7 (ii m++t)=t:=by
 have ac:=h _ (.inl rfl);have ai:=h _ (.inr (.inl rfl));have a8:=h _ (.inr (.inr rfl));have dI:fA e5 t=t:=by unfold fA;rw [ac];rfl
 have c2:fA eU t=t:=by unfold fA;rw [ai];rfl
 have c3:fA fe t=t:=by unfold fA;rw [a8];rfl
 have p7:∀x,fA e5 (e5++x)=x:=fun x=>rfl
 have Dj:∀x,fA eU (eU++x)=x:=fun x=>rfl
 have bm:∀x,fA fe (fe++x)=x:=fun x=>rfl
 have aK:∀x,fA e5 (eU++x)=eU++x:=fun x=>rfl
 have aP:∀x,fA e5 (fe++x)=fe++x:=fun x=>rfl
 have bt:∀x,fA eU (fe++x)=fe++x:=fun x=>rfl
 have ep:∀x,e5.isPrefixOf (e5++x)=true:=fun x=>rfl
 have hb:∀x,eU.isPrefixOf (eU++x)=true:=fun x=>rfl
 have k5:∀x,fe.isPrefixOf (fe++x)=true:=fun x=>rfl
 have dh:∀x,e5.isPrefixOf (eU++x)=false:=fun x=>rfl
 have du:∀x,e5.isPrefixOf (fe++x)=false:=fun x=>rfl
 have fE:∀x,eU.isPrefixOf (fe++x)=false:=fun x=>rfl
 have aw:m=0∨m=1∨m=2∨m=3∨m=4∨m=5∨m=6∨m=7:= ab;rcases aw with rfl|rfl|rfl|rfl|rfl|rfl|rfl|rfl
 ·show ff t=0∧c7 t=t;simp [ff,c7,nJ,iW,dI,c2,c3,ac,ai,a8]
 ·show ff (fe++t)=1∧c7 (fe++t)=t;simp [ff,c7,nJ,iW,aP,bt,bm,k5,du,fE]
 ·show ff (eU++t)=2∧c7 (eU++t)=t;simp [ff,c7,nJ,iW,aK,Dj,c3,hb,dh,a8]
 ·show ff (eU++(fe++t))=3∧c7 (eU++(fe++t))=t;simp [ff,c7,nJ,iW,aK,Dj,bm,hb,k5,dh]
 ·show ff (e5++t)=4∧c7 (e5++t)=t;simp [ff,c7,nJ,iW,p7,c2,c3,ep,ai,a8]
 ·show ff (e5++(fe++t))=5∧c7 (e5++(fe++t))=t;simp [ff,c7,nJ,iW,p7,bt,bm,ep,k5,fE]
 ·show ff (e5++(eU++t))=6∧c7 (e5++(eU++t))=t;simp [ff,c7,nJ,iW,p7,Dj,c3,ep,hb,a8]
 ·show ff (e5++(eU++(fe++t)))=7∧c7 (e5++(eU++(fe++t)))=t;simp [ff,c7,nJ,iW,p7,Dj,bm,ep,hb,k5]
theorem afs{c:Nat}(hs:Scalar c):first (put c)=(c,(put c).length,false):=(chars hs).whole
theorem aft{c m:Nat}(hs:Scalar c)(hm:m≤7):iX (ii m++l0 c)=⟨1,c,m,0,0,[]⟩:=by
 have s8:∀p,p=e5∨p=eU∨p=fe→p.isPrefixOf (l0 c)=false:=by
  intro p ah;unfold l0;split
  ·rcases ah with rfl|rfl|rfl<;>rfl
  ·split
   ·rcases ah with rfl|rfl|rfl<;>rfl
   ·exact afq hs ah
 obtain⟨ac,ai⟩:=afr hm s8;unfold iX;rw [ac,ai]
 have key:uc (l0 c)=1∧ud (l0 c)=c:=by
  by_cases a:c=32
  ·subst a;exact⟨rfl,rfl⟩
  ·by_cases b:c=43
   ·subst b;exact⟨rfl,rfl⟩
   ·have e:l0 c=put c:=by unfold l0;rw [if_neg a,if_neg b]
    have aZ:=afs hs;have a6:put c≠q0:=by intro q;rw [q]at aZ;cases aZ
    have n2:put c≠sv:=by intro q;rw [q]at aZ;cases aZ
    rw [e];unfold uc ud;rw [if_pos (.inr (.inr (by rw [aZ]))),if_neg a6,if_neg n2,if_pos (by rw [aZ]),aZ];exact⟨rfl,rfl⟩
 rw [key.1,key.2]
theorem afu{e:bl}{s:Bytes}(bf:0≤e.df)(h:iV e=some s):named s=some e:=by
 have g:iX s=e:=by
  have ag:=h;unfold iV at ag;split at ag
  ·rename_i aw;obtain⟨b,ax⟩:=RL aw.1;rcases aw.2 with au|au
   ·obtain⟨c,m,rfl,hm,gA⟩:=JY bf ax au;rw [zB ax]at h;simp only [Option.some.injEq]at h;subst h;have hs:=(pF gA).1;exact aft (by simpa using hs) hm
   ·obtain⟨k,m,rfl,hm,aR⟩:=JX bf ax au;rw [Di ax]at h;simp only [Option.some.injEq]at h;subst h;rw [JZ ab];exact afp ⟨k,ab⟩ ⟨m,ab⟩ (by show 1≤k∧k≤14∨21≤k;omega)
  ·cases ag
 unfold named;rw [g,if_pos h]
end Go.Keys
