/-
  Parts of the proof of KeysNamed.
-/
import Derived.Shelf.Strings.Search3
import Derived.Lib.AtoiAll
import Derived.Lib.AtoiErrMem
import Derived.Shelf.Strconv.AtoiAll
import Derived.Test.YtddnafghiejcoaaGreatDoorKKeysNamedC
set_option linter.unusedVariables false
set_option linter.unusedSimpArgs false
namespace Go.Proofs.YtddnafghiejcoaaGreatDoor
open Go.bh Go.Keys
set_option maxRecDepth 1000000
theorem x7(H H1 H2 bd:I)(B q iK y n c i:Nat)(x:Int)(es:Bytes)(bv v1 v2:R)(ad:ch→a'→I→Prop)(aP:aV B (H.U) (((i:Int)<(n:Int)→aV B (H.U+1) ((0≤(i:Int)∧(i:Int)<(n:Int))∧bp env.D 3 ⟨q,iK,0+Int.toNat (i:Int),0,1⟩ (I.mk (H.U+6) (H.2))=some (.int .i64 x)∧aV B (H.U+6) ((0<(i:Int)→aV B (H.U+8) (bb env cz (H.U+9) (aY [(19,bv),(18,.bool true),(17,.int .i64 (i:Int)),(7,.int .i64 x),(6,.int .i64 (i:Int)),(16,.int .i64 x),(15,.ptr (some ⟨q,iK,0+Int.toNat (i:Int),0,1⟩)),(14,.int .i64 (i:Int)),(13,.bool true),(0,.str es),(5,bv),(10,.slice (some ⟨q,iK,0,0,1⟩) n c),(11,.int .i64 (n:Int)),(12,.int .i64 (i:Int))]) (I.mk (H.U+12) (H.2)) (Op.buildSlice 34 1 {toList:=[(0,Operand.const (Value.int .u8 (59)))]})=some (R.slice (bS y) 1 1,H1)∧e5 env Builtin.append {toList:=[34,34]} [bv,.slice (bS y) 1 1] (H.U+10) H1=some (v1,H2)∧aV B (H2.U) (bu 73 [v1,.int .i64 x,.int .i64 10] (I.mk (H2.U+4) (H2.2)) v2 bd∧aV B (bd.U) ((-9223372036854775808≤(i:Int)+1∧(i:Int)+1≤9223372036854775807)∧ad .normal [(0,.str es),(5,v2),(10,.slice (some ⟨q,iK,0,0,1⟩) n c),(11,.int .i64 (n:Int)),(12,.int .i64 ((i:Int)+1))] (I.mk (bd.U+2) (I.aB bd))))))∧(¬0<(i:Int)→aV B (H.U+8) (bu 73 [bv,.int .i64 x,.int .i64 10] (I.mk (H.U+12) (H.2)) v2 bd∧aV B (bd.U) ((-9223372036854775808≤(i:Int)+1∧(i:Int)+1≤9223372036854775807)∧ad .normal [(0,.str es),(5,v2),(10,.slice (some ⟨q,iK,0,0,1⟩) n c),(11,.int .i64 (n:Int)),(12,.int .i64 ((i:Int)+1))] (I.mk (bd.U+2) (I.aB bd))))))))∧(¬(i:Int)<(n:Int)→ad (.exit 0) [(0,.str es),(5,bv),(10,.slice (some ⟨q,iK,0,0,1⟩) n c),(11,.int .i64 (n:Int)),(12,.int .i64 (i:Int))] (I.mk (H.U+1) (I.aB H))))) :
 ∃e aA aa,bK B 29 (bw 44 0) [(0,.str es),(5,bv),(10,.slice (some ⟨q,iK,0,0,1⟩) n c),(11,.int .i64 n),(12,.int .i64 i)] H e aA aa∧ad e aA aa :=
 eB dB mixed cl (hs:= .aO 3000 (ah 4001 (.ao (.val 4002 (.int .i64 x)) (.aO 5001 (.ao (.act 6001 (.slice (bS y) 1 1) fun x=>H1) (.ao (.act 6002 v1 fun x=>H2) (.ao (.act 7002 v2 fun x=>bd) (ah 8000 .nil)))) (.ao (.act 7002 v2 fun x=>bd) (ah 8000 .nil))))) .nil) (keep:=[0,5,10,11,12]) aG aP
abbrev jJ(y:Nat):R:=R.slice (bS y) 2 2
theorem I'(H H1 H2 bd:I)(y q iK n c:Nat)(es:Bytes)(bv v1 hn:R)(ad:bT)(aP:aV (H.U) (H.U) (aV (H.U) (H.U+1) (bb env cz (H.U+1) (aY [(4,.slice none 0 0),(0,.str es),(1,.slice (some ⟨q,iK,0,0,1⟩) n c)]) (I.mk (H.U+4) (H.2)) (Op.buildSlice 34 2 {toList:=[(0,Operand.const (Value.int .u8 (27))),(1,Operand.const (Value.int .u8 (91)))]})=some ((jJ y),H1)∧dN env (H.U+2) (aY [(8,(jJ y)),(4,.slice none 0 0),(0,.str es),(1,.slice (some ⟨q,iK,0,0,1⟩) n c)]) H1 (Op.convert 34 34 (Operand.tmp 8))=some ((jJ y),H1)∧aV (H.U) (H1.U) (bK (H.U) 29 (Code.loop (bw 44 0)) [(0,.str es),(5,(jJ y)),(10,.slice (some ⟨q,iK,0,0,1⟩) n c),(11,.int .i64 (n:Int)),(12,.int .i64 0)] (I.mk (H1.U+3) (I.aB H1)) (.exit 0) [(0,.str es),(5,bv),(10,.slice (some ⟨q,iK,0,0,1⟩) n c),(11,.int .i64 (n:Int)),(12,hn)] H2∧aV (H.U) (H2.U) (e5 env Builtin.append {toList:=[34,9]} [bv,.str es] (H2.U+2) (I.mk (H2.U+4) (H2.2))=some (v1,bd)∧fg (H.U) (bd.U) (ad v1 bd)))))) :
 bW 44 [.str es,.slice (some ⟨q,iK,0,0,1⟩) n c] H ad :=
 bZ cl (.ao (.act 1000 ((jJ y)) fun x=>H1) (.ao (.l3 1001 ((jJ y)) fun h=>h) (.ao (.keep [0,5,10,11,12]) (.ao (.loop [(0,.str es),(5,bv),(10,.slice (some ⟨q,iK,0,0,1⟩) n c),(11,.int .i64 (n:Int)),(12,hn)] H2 (.exit 0)) (.ao (.act 9002 v1 fun x=>bd) .nil))))) aP
theorem x8:∀(l:List Nat)(n:Nat),fF (l++[n])=if l=[]then Lib.decDigits n else fF l++59::Lib.decDigits n
 |[],n=>rfl
 |[m],n=>rfl
 |m::k::r,n=>by have ih:=x8 (k::r) n;rw [if_neg a1]at ih⊢;show Lib.decDigits m++59::fF ((k::r)++[n])=_;rw [ih,fF];simp
theorem x9:∀(l:List Nat),(∀n∈l,n<10000000)→(fF l).length≤8*l.length
 |[],_=>by simp [fF]
 |[n],h=>by have:=ns (n:=n) (k:=6) (by have:=h n a1 ;simpa using this);simp only [fF,List.length_cons,List.length_nil];omega
 |n::m::r,h=>by
  have aa:=ns (n:=n) (k:=6) (by have:=h n a1 ;simpa using this);have ae:=x9 (m::r) fun x ac=>h x (by simp [ac])
  simp only [fF,List.length_append,List.length_cons]at ae⊢; omega
abbrev p5(l:List Nat):ai:=ai.aq (l.map fun n=>R.int .i64 (n:Nat)) 1 true
theorem Ja{h:I}{q i:Nat}{l:List Nat}(e:h.get q=some (p5 l))(ag:i<l.length):bp (bq.D env) 3 ⟨q,0,0+i,0,1⟩ h=some (.int .i64 (l[i]:Nat)):=by have bt:(bq.D env 3).map (fun d=>d.kind.isAgg)=some false:= aG;obtain⟨x,aa,ae⟩:=Option.map_eq_some_iff.1 bt;unfold bp;rw [aa,e];simp [ai.elem?,ai.bL,gK,ae,ai.aq,ag]
theorem x'{F:a'}{nid k n c:Nat}{H:I}{a:di}{b:ai}(aM:aY F (.tmp k)=.slice (some a) n c)(ah:H.get a.id=some b)(aR:b.ro=false)(aD:a.fld=0)(al:0<c):dN env nid (aY F) H (Op.convert 34 34 (Operand.tmp k))=some (.slice (some a) n c,H):=by have aa:(bq.D env 34).map (fun d=>d.kind)=some (.slice 5):= aG;have aS:(bq.D env 5).map (fun d=>d.kind)=some (.int .u8):= aG;obtain⟨lS,d1,a7⟩:=Option.map_eq_some_iff.1 aa;obtain⟨s4,d3,cC⟩:=Option.map_eq_some_iff.1 aS;simp only [dN,aM,nW,d1,a7,d3,cC,ah];simp [aR,aD,al]
abbrev kk(e:Bytes)(bv:R)(q n c i:Nat):a':=[(0,.str e),(5,bv),(10,.slice (some ⟨q,0,0,0,1⟩) n c),(11,.int .i64 (n:Nat)),(12,.int .i64 (i:Nat))]
theorem Jb{B q c:Nat}{l:List Nat}{e:Bytes}(ay:l.length<2^20)(aI:∀n∈l,n<10000000)(av:q<B):∀(t i:Nat)(H:I)(bv:R)(j:Nat),l.length-i≤t→i≤l.length→B≤H.U→B≤j→dI H j bv (27::91::fF (l.take i))→H.get q=some (p5 l) →
 ∃aH k8 eG,eP B 29 (bw 44 0) (kk e bv q l.length c i) H (.exit 0) (kk e k8 q l.length c l.length) aH∧dI aH eG k8 (27::91::fF l)∧B≤eG∧H.U≤aH.U∧∀x,x<B→aH.get x=H.get x:=by
 intro t
 have fin:∀(H:I)(bv:R)(j:Nat),B≤H.U→B≤j→dI H j bv (27::91::fF (l.take l.length)) →
  ∃aH k8 eG,eP B 29 (bw 44 0) (kk e bv q l.length c l.length) H (.exit 0) (kk e k8 q l.length c l.length) aH∧dI aH eG k8 (27::91::fF l)∧B≤eG∧H.U≤aH.U∧∀x,x<B→aH.get x=H.get x:=by
  intro H bv j b' aW g;rw [List.take_length]at g;obtain⟨bk,aA,aa,aR,rfl,rfl,rfl⟩:=x7 H H H H B q 0 0 l.length c l.length 0 e bv bv bv (fun bk aA aa=>bk=.exit 0∧aA=kk e bv q l.length c l.length∧aa=⟨H.U+1,H.aB⟩) (aQ b' ⟨fun h=> J,fun _=>⟨rfl,rfl,rfl⟩⟩);exact⟨_,bv,j,b8.last a1 aR,g.keep rfl (by show H.U≤H.U+1;omega),aW,by show H.U≤H.U+1;omega,fun _ _=>rfl⟩
 induction t with
 |zero =>
  intro i H bv j bz ag b' aW g _;obtain rfl:i=l.length:= J;exact fin H bv j b' aW g
 |succ t ih =>
  intro i H bv j bz ag b' aW g ah;by_cases al:i<l.length
  ·have ac : l[i] < 10000000 := aI _ (List.getElem_mem al)
   have lW:∀k,bp (bq.D env) 3 ⟨q,0,0+Int.toNat (i:Int),0,1⟩ ⟨H.U+k,H.aB⟩=some (.int .i64 (l[i]:Nat)):=fun k=>by rw [Int.toNat_natCast];exact Ja (h:=⟨H.U+k,H.aB⟩) ah al
   have BY:l.take (i+1)=l.take i++[l[i]]:=by rw [List.take_add_one,List.getElem?_eq_getElem al];rfl
   have Av:(fF (l.take i)).length≤8*l.length:=by
    have:=x9 (l.take i) fun n h=>aI n (List.mem_of_mem_take h)
    rw [List.length_take]at this;omega
   have step:∀(bd:I)(v2:R)(kl:Nat),dI bd kl v2 (27::91::fF (l.take (i+1)))→B≤kl→H.U≤bd.U→(∀x,x<B→bd.get x=H.get x)→bK B 29 (bw 44 0) (kk e bv q l.length c i) H .normal (kk e v2 q l.length c (i+1)) ⟨bd.U+2,bd.aB⟩ →
    ∃aH k8 eG,eP B 29 (bw 44 0) (kk e bv q l.length c i) H (.exit 0) (kk e k8 q l.length c l.length) aH∧dI aH eG k8 (27::91::fF l)∧B≤eG∧H.U≤aH.U∧∀x,x<B→aH.get x=H.get x:=by
    intro bd v2 kl g2 p6 gT gU aR;obtain⟨aH,k8,eG,ca,fH,uh,hc,fB⟩:=ih (i+1) ⟨bd.U+2,bd.aB⟩ v2 kl J J (by show B≤bd.U+2;omega) p6 (g2.keep rfl (by show bd.U≤bd.U+2;omega)) ((gU q av).trans ah);have hc:bd.U+2≤aH.U:=hc;exact⟨aH,k8,eG,b8.step aR ca,fH,uh,J,fun x ac=>(fB x ac).trans (gU x ac)⟩
   have eY:((i:Int)+1)=((i+1:Nat):Int):= J;by_cases a6:0<i
   ·
     have bJ:l.take i≠[]:=by intro h;have:=congrArg List.length h;rw [List.length_take,List.length_nil]at this;omega
     have p7:∀F,bb env cz (H.U+9) (aY F) ⟨H.U+12,H.aB⟩ (Op.buildSlice 34 1 {toList:=[(0,Operand.const (Value.int .u8 (59)))]})=some (R.slice (some ⟨H.U+9,0,0,0,1⟩) 1 1,(⟨H.U+12,H.aB⟩:I).set (H.U+9) (ai.aq (b5 [59]) 1 true)):=by intro F;kernel_rfl
     have ho:((⟨H.U+12,H.aB⟩:I).set (H.U+9) (ai.aq (b5 [59]) 1 true)).get (H.U+9)=some (ai.aq (b5 [59]) 1 true):=I.eU _ _ _;have km:∀x,x<H.U→((⟨H.U+12,H.aB⟩:I).set (H.U+9) (ai.aq (b5 [59]) 1 true)).get x=H.get x:=fun x ac=>I.dZ _ _ J
     have oP:((⟨H.U+12,H.aB⟩:I).set (H.U+9) (ai.aq (b5 [59]) 1 true)).U=H.U+12:=rfl;generalize (⟨H.U+12,H.aB⟩:I).set (H.U+9) (ai.aq (b5 [59]) 1 true)=H1 at p7 ho km oP;have g1:=g.keep (km j g.lt) J;have lS:dI H1 (H.U+9) (.slice (some ⟨H.U+9,0,0,0,1⟩) 1 1) [59]:=dI.aq ho J (fun h=>by cases h);obtain⟨v1,H2,Jc,aD,g2,Jd,p4,kj⟩:=g1.fc (nid:=H.U+10) lS.bc a1 (by simp only [List.length_cons,List.length_nil];omega) J;obtain⟨v2,bd,kl,az,g3,p6,gT,gU⟩:=BX (n:=l[i]) (g2.keep (aH:=⟨H2.U+4,H2.aB⟩) rfl (by show H2.U≤H2.U+4;omega)) (by simp only [List.length_append,List.length_cons,List.length_nil];omega) ac;have gT:H2.U+4≤bd.U:=gT;have Np:B≤Jc:=by rcases Jd with h|h<;>omega
     obtain⟨bk,aA,aa,aR,rfl,rfl,rfl⟩:=x7 H H1 H2 bd B q 0 (H.U+9) l.length c i (l[i]:Nat) e bv v1 v2 (fun bk aA aa=>bk=.normal∧aA=kk e v2 q l.length c (i+1)∧aa=⟨bd.U+2,bd.aB⟩)
      (aQ b' ⟨fun _=>aQ J ⟨⟨J,J⟩,lW 6,aQ J ⟨fun _=>aQ J ⟨p7 _,(x3 _ _ _ _).trans aD,aQ J ⟨⟨az⟩,aQ J ⟨⟨J,J⟩,rfl,by rw [eY],rfl⟩⟩⟩,fun h=>absurd J h⟩⟩,fun h=>absurd J h⟩)
     refine step bd v2 kl ?_ (by rcases p6 with h|h; · omega
                                 ·have h:H2.U+4≤kl:=h
                                  omega) J (fun x ac=> ?_) aR
     ·have bV:(27::91::fF (l.take (i+1)):Bytes)=27::91::fF (l.take i)++[59]++Lib.decDigits l[i]:=by rw [BY,x8,if_neg bJ];simp
      rw [bV];exact g3
     ·rw [gU x (by show x<H2.U+4;omega) J];show H2.get x=_;rw [kj x J J];exact km x J
   ·obtain rfl:i=0:= J;obtain⟨v2,bd,kl,az,g3,p6,gT,gU⟩:=BX (n:=l[0]) (g.keep (aH:=⟨H.U+12,H.aB⟩) rfl (by show H.U≤H.U+12;omega)) (by simp only [List.length_cons];omega) ac;have gT:H.U+12≤bd.U:=gT
    obtain⟨bk,aA,aa,aR,rfl,rfl,rfl⟩:=x7 H H H bd B q 0 0 l.length c 0 (l[0]:Nat) e bv bv v2 (fun bk aA aa=>bk=.normal∧aA=kk e v2 q l.length c 1∧aa=⟨bd.U+2,bd.aB⟩)
     (aQ b' ⟨fun _=>aQ J ⟨⟨J,J⟩,lW 6,aQ J ⟨fun h=>absurd h J,fun _=>aQ J ⟨⟨az⟩,aQ J ⟨⟨J,J⟩,rfl,rfl,rfl⟩⟩⟩⟩,fun h=>absurd J h⟩)
    refine step bd v2 kl ?_ (by rcases p6 with h|h; · omega
                                ·have h:H.U+12≤kl:=h
                                 omega) J (fun x ac=> ?_) aR
    ·have bV:(27::91::fF (l.take (0+1)):Bytes)=27::91::fF (l.take 0)++Lib.decDigits l[0]:=by rw [BY,x8,if_pos a1];rfl
     rw [bV];exact g3
    ·exact gU x (by show x<H.U+12;omega) J
  ·obtain rfl:i=l.length:= J;exact fin H bv j b' aW g
def Je(H:I)(args:List R)(bs:Bytes):Prop :=
 ∃v aH j,bE 44 args H v aH∧dI aH j v bs∧H.U≤j∧∀x,x<H.U→aH.get x=H.get x
theorem Jf(H:I):∃H1,(∀F,bb env cz (H.U+1) (aY F) ⟨H.U+4,H.aB⟩ (Op.buildSlice 34 2 {toList:=[(0,Operand.const (Value.int .u8 (27))),(1,Operand.const (Value.int .u8 (91)))]})=some (R.slice (some ⟨H.U+1,0,0,0,1⟩) 2 2,H1))∧(∀F,aY F (.tmp 8)=R.slice (some ⟨H.U+1,0,0,0,1⟩) 2 2→dN env (H.U+2) (aY F) H1 (Op.convert 34 34 (Operand.tmp 8))=some (R.slice (some ⟨H.U+1,0,0,0,1⟩) 2 2,H1)) ∧
 dI H1 (H.U+1) (.slice (some ⟨H.U+1,0,0,0,1⟩) 2 2) [27,91]∧H1.U=H.U+4∧∀x,x<H.U→H1.get x=H.get x:=by
 have ho:((⟨H.U+4,H.aB⟩:I).set (H.U+1) (ai.aq (b5 [27,91]) 1 true)).get (H.U+1)=some (ai.aq (b5 [27,91]) 1 true):=I.eU _ _ _;exact⟨(⟨H.U+4,H.aB⟩:I).set (H.U+1) (ai.aq (b5 [27,91]) 1 true),(fun F=> aG),fun F aM=>x' aM ho rfl rfl cg,dI.aq (bs:=[27,91]) ho (by show H.U+1<H.U+4;omega) (fun h=>by cases h),rfl,fun x ac=>I.dZ _ _ J⟩
theorem Jg{H:I}{q c:Nat}{l:List Nat}{e:Bytes}(ah:H.get q=some (p5 l))(av:q<H.U)(kR:l.length<2^20)(aI:∀n∈l,n<10000000)(he:e≠[])(ay:e.length<2^30):Je H [.str e,.slice (some ⟨q,0,0,0,1⟩) l.length c] (hl e l):=by
 have e3:∀{a b:Nat}{p:Prop},a≤b→p→_root_.cond (Nat.ble a b) p False:=fun h k=>by rw [Nat.ble_eq.mpr h];exact k
 obtain⟨H1,an,al,g1,oP,km⟩:=Jf H;obtain⟨H2,bv,kl,ca,g2,p6,p4,kj⟩:=Jb (B:=H.U) (c:=c) (e:=e) kR aI av l.length 0 ⟨H1.U+3,H1.aB⟩ _ (H.U+1) J J (by show H.U≤H1.U+3;omega) J (g1.keep rfl (by show H1.U≤H1.U+3;omega)) ((km q av).trans ah);have p4:H1.U+3≤H2.U:=p4;have Av:=x9 l aI;obtain⟨v,bd,j,aD,g3,aW,gT,gU⟩:=(g2.keep (aH:=⟨H2.U+4,H2.aB⟩) rfl (by show H2.U≤H2.U+4;omega)).fc (nid:=H2.U+2) (x:= .str e) (by rfl) he (by simp only [List.length_cons];omega) (by show H2.U+2<H2.U+4;omega);have gT:bd.U=H2.U+4:=gT
 obtain⟨w,af,az,rfl,rfl⟩:=I' H H1 H2 bd (H.U+1) q 0 l.length c e bv v (.int .i64 (l.length:Nat)) (fun w af=>w=v∧af=bd)
  (aQ (Nat.le_refl _) (aQ J ⟨an _,al _ rfl,aQ J ⟨cQ.ei ca,aQ J ⟨(BS _ _ _ _).trans aD,e3 J ⟨rfl,rfl⟩⟩⟩⟩))
 refine⟨_,_,j,az,?_,by rcases aW with h|h<;>omega,fun x ac=> ?_⟩
 ·have bV:hl e l=27::91::fF l++e:=rfl;rw [bV];exact g3
 ·rw [gU x J J];show H2.get x=_;rw [kj x ac];exact km x ac
abbrev hQ(x:Nat):ai:=ai.aq [R.int .i32 (x:Nat)] 1 true
abbrev ya:cv:=(ah 19002 (ah 19003 (ah 20001 (ah 21001 (ah 21005 .nil)))))
theorem Jh(x:Nat)(ad:bT)(aP:some (R.bool (decide ((x:Int)≥55296)))=some (R.bool false)∧some (R.bool (decide ((x:Int)>1114111)))=some (R.bool false)∧((x:Int)<128→(0≤(x:Int)∧(x:Int)≤255)∧ad (.str [UInt8.ofNat x]) (I.ak 43 [(0,(ai.aq ([.int .i32 (x:Int)]) 1 true)),(34,ai.aq [.int .u8 (x:Int)] 1 true),(35,ai.aq [.int .u8 (x:Int)] 1 false (some (5,0)))]))∧(¬(x:Int)<128→(2048≤(x:Int)→some (R.bool (decide ((x:Int)≥65536)))=some (R.bool false)∧True∧(0≤bB .i32 (x:Int) (63)∧bB .i32 (x:Int) (63)≤255)∧True∧Int.NonNeg (6-0)∧True∧(0≤bB .i32 (bI .i32 (x:Int) (6)) (63)∧bB .i32 (bI .i32 (x:Int) (6)) (63)≤255)∧True∧Int.NonNeg (6-0)∧(0≤bI .i32 (bI .i32 (x:Int) (6)) (6)∧bI .i32 (bI .i32 (x:Int) (6)) (6)≤255)∧True∧ad (.str [UInt8.ofNat (Int.toNat (bR .u8 (bI .i32 (bI .i32 (x:Int) 6) 6) 224)),UInt8.ofNat (Int.toNat (bR .u8 128 (bB .i32 (bI .i32 (x:Int) 6) 63))),UInt8.ofNat (Int.toNat (bR .u8 128 (bB .i32 (x:Int) 63)))]) (I.ak 80 [(0,(ai.aq ([.int .i32 (x:Int)]) 1 true)),(37,(ai.aq ([.agg [.int .u8 (bR .u8 (bI .i32 (bI .i32 (x:Int) (6)) (6)) (224)),.int .u8 (bR .u8 (128) (bB .i32 (bI .i32 (x:Int) (6)) (63))),.int .u8 (bR .u8 (128) (bB .i32 (x:Int) (63))),.int .u8 0]]) 4 true (some (95,4)))),(72,ai.aq [.int .u8 (bR .u8 (bI .i32 (bI .i32 (x:Int) (6)) (6)) (224)),.int .u8 (bR .u8 (128) (bB .i32 (bI .i32 (x:Int) (6)) (63))),.int .u8 (bR .u8 (128) (bB .i32 (x:Int) (63)))] 1 false (some (5,0)))]))∧(¬2048≤(x:Int)→some (R.bool (decide ((x:Int)≥65536)))=some (R.bool false)∧True∧(0≤bB .i32 (x:Int) (63)∧bB .i32 (x:Int) (63)≤255)∧True∧Int.NonNeg (6-0)∧(0≤bI .i32 (x:Int) (6)∧bI .i32 (x:Int) (6)≤255)∧True∧ad (.str [UInt8.ofNat (Int.toNat (bR .u8 (bI .i32 (x:Int) 6) 192)),UInt8.ofNat (Int.toNat (bR .u8 128 (bB .i32 (x:Int) 63)))]) (I.ak 72 [(0,(ai.aq ([.int .i32 (x:Int)]) 1 true)),(36,(ai.aq ([.agg [.int .u8 (bR .u8 (bI .i32 (x:Int) (6)) (192)),.int .u8 (bR .u8 (128) (bB .i32 (x:Int) (63))),.int .u8 0,.int .u8 0]]) 4 true (some (95,4)))),(64,ai.aq [.int .u8 (bR .u8 (bI .i32 (x:Int) (6)) (192)),.int .u8 (bR .u8 (128) (bB .i32 (x:Int) (63)))] 1 false (some (5,0)))])))) :
 bW 51 [.slice (bS 0) 1 1] (I.rows 1 [(0,hQ x)]) ad :=
 bZ cP (.ao (.rounds 300) (he 5002 (.ao (.val 1004 (.bool false)) (.ao (.val 1012 (.bool false)) (.aO 3001 (ah 4002 .nil) (.aO 6001 (.ao (.val 8001 (.bool false)) (ah 17001 (ah 17002 (ah 17003 (ah 18001 (ah 19001 ya)))))) (.ao (.val 8001 (.bool false)) (ah 19001 ya)))))))) aP
abbrev BZ:cv:=(ah 17001 (ah 17002 (ah 17003 (ah 18001 (ah 19001 ya)))))
theorem Ji(x:Nat)(ad:bT)(aP:some (R.bool (decide ((x:Int)≥55296)))=some (R.bool true)∧some (R.bool (decide ((x:Int)≤57343)))=some (R.bool false)∧some (R.bool (decide ((x:Int)>1114111)))=some (R.bool false)∧some (R.bool (decide ((x:Int)<128)))=some (R.bool false)∧some (R.bool (decide ((x:Int)≥2048)))=some (R.bool true)∧(65536≤(x:Int)→True∧(0≤bB .i32 (x:Int) (63)∧bB .i32 (x:Int) (63)≤255)∧True∧Int.NonNeg (6-0)∧True∧(0≤bB .i32 (bI .i32 (x:Int) (6)) (63)∧bB .i32 (bI .i32 (x:Int) (6)) (63)≤255)∧True∧Int.NonNeg (6-0)∧True∧(0≤bB .i32 (bI .i32 (bI .i32 (x:Int) (6)) (6)) (63)∧bB .i32 (bI .i32 (bI .i32 (x:Int) (6)) (6)) (63)≤255)∧True∧Int.NonNeg (6-0)∧(0≤bI .i32 (bI .i32 (bI .i32 (x:Int) (6)) (6)) (6)∧bI .i32 (bI .i32 (bI .i32 (x:Int) (6)) (6)) (6)≤255)∧True∧ad (.str [UInt8.ofNat (Int.toNat (bR .u8 (bI .i32 (bI .i32 (bI .i32 (x:Int) 6) 6) 6) 240)),UInt8.ofNat (Int.toNat (bR .u8 128 (bB .i32 (bI .i32 (bI .i32 (x:Int) 6) 6) 63))),UInt8.ofNat (Int.toNat (bR .u8 128 (bB .i32 (bI .i32 (x:Int) 6) 63))),UInt8.ofNat (Int.toNat (bR .u8 128 (bB .i32 (x:Int) 63)))]) (I.ak 88 [(0,(ai.aq ([.int .i32 (x:Int)]) 1 true)),(38,(ai.aq ([.agg [.int .u8 (bR .u8 (bI .i32 (bI .i32 (bI .i32 (x:Int) (6)) (6)) (6)) (240)),.int .u8 (bR .u8 (128) (bB .i32 (bI .i32 (bI .i32 (x:Int) (6)) (6)) (63))),.int .u8 (bR .u8 (128) (bB .i32 (bI .i32 (x:Int) (6)) (63))),.int .u8 (bR .u8 (128) (bB .i32 (x:Int) (63)))]]) 4 true (some (95,4)))),(80,ai.aq [.int .u8 (bR .u8 (bI .i32 (bI .i32 (bI .i32 (x:Int) (6)) (6)) (6)) (240)),.int .u8 (bR .u8 (128) (bB .i32 (bI .i32 (bI .i32 (x:Int) (6)) (6)) (63))),.int .u8 (bR .u8 (128) (bB .i32 (bI .i32 (x:Int) (6)) (63))),.int .u8 (bR .u8 (128) (bB .i32 (x:Int) (63)))] 1 false (some (5,0)))]))∧(¬65536≤(x:Int)→True∧(0≤bB .i32 (x:Int) (63)∧bB .i32 (x:Int) (63)≤255)∧True∧Int.NonNeg (6-0)∧True∧(0≤bB .i32 (bI .i32 (x:Int) (6)) (63)∧bB .i32 (bI .i32 (x:Int) (6)) (63)≤255)∧True∧Int.NonNeg (6-0)∧(0≤bI .i32 (bI .i32 (x:Int) (6)) (6)∧bI .i32 (bI .i32 (x:Int) (6)) (6)≤255)∧True∧ad (.str [UInt8.ofNat (Int.toNat (bR .u8 (bI .i32 (bI .i32 (x:Int) 6) 6) 224)),UInt8.ofNat (Int.toNat (bR .u8 128 (bB .i32 (bI .i32 (x:Int) 6) 63))),UInt8.ofNat (Int.toNat (bR .u8 128 (bB .i32 (x:Int) 63)))]) (I.ak 80 [(0,(ai.aq ([.int .i32 (x:Int)]) 1 true)),(37,(ai.aq ([.agg [.int .u8 (bR .u8 (bI .i32 (bI .i32 (x:Int) (6)) (6)) (224)),.int .u8 (bR .u8 (128) (bB .i32 (bI .i32 (x:Int) (6)) (63))),.int .u8 (bR .u8 (128) (bB .i32 (x:Int) (63))),.int .u8 0]]) 4 true (some (95,4)))),(72,ai.aq [.int .u8 (bR .u8 (bI .i32 (bI .i32 (x:Int) (6)) (6)) (224)),.int .u8 (bR .u8 (128) (bB .i32 (bI .i32 (x:Int) (6)) (63))),.int .u8 (bR .u8 (128) (bB .i32 (x:Int) (63)))] 1 false (some (5,0)))]))) :
 bW 51 [.slice (bS 0) 1 1] (I.rows 1 [(0,hQ x)]) ad :=
 bZ cP (.ao (.rounds 300) (he 5002 (.ao (.val 1004 (.bool true)) (.ao (.val 1007 (.bool false)) (.ao (.val 1012 (.bool false)) (.ao (.val 3001 (.bool false)) (.ao (.val 6001 (.bool true)) (.aO 8001 (ah 15001 (ah 15002 (ah 15003 (ah 16001 BZ)))) BZ)))))))) aP
theorem Jj(H H1 H2:I)(r q x k:Nat)(s:Bytes)(ad:bT)(aP:aV (H.U) (H.U) (aV (H.U) (H.U+1) (bb env cz (H.U+2) (aY [(7,.int .i32 (r:Int)),(4,.slice none 0 0),(0,.int .i32 (r:Int)),(1,.int .u8 0)]) (I.mk (H.U+6) (H.2)) (Op.buildSlice 84 1 {toList:=[(0,Operand.tmp 7)]})=some (R.slice (bS q) 1 1,H1)∧bu 51 [.slice (bS q) 1 1] H1 (.str s) H1∧dN env (H.U+4) (aY [(9,.str s),(8,.slice (bS q) 1 1),(7,.int .i32 (r:Int)),(4,.slice none 0 0),(0,.int .i32 (r:Int)),(1,.int .u8 0)]) H1 (Op.convert 9 34 (Operand.tmp 9))=some (R.slice (bS x) k k,H2)∧aV (H.U) (H2.U) (aV (H.U) (H2.U+3) (fg (H.U) (H2.U+5) (ad (.slice (bS x) k k) (I.mk (H2.U+3+2) (I.aB (I.mk (H2.U+3) (I.aB H2)))))))))) :
 bW 42 [.int .i32 r,.int .u8 0] H ad :=
 bZ cP (.ao (.act 1001 (.slice (bS q) 1 1) fun x=>H1) (.ao (.val 1002 (.str s)) (.ao (.l3 1003 (.slice (bS x) k k) fun x=>H2) .nil))) aP
abbrev ia(q:Nat):R:=R.slice (bS q) 1 1
theorem Jk(H H1 H2 bd cd:I)(r q x y k:Nat)(s:Bytes)(v:R)(ad:bT)(aP:aV (H.U) (H.U) (aV (H.U) (H.U+1) (bb env cz (H.U+2) (aY [(7,.int .i32 (r:Int)),(4,.slice none 0 0),(0,.int .i32 (r:Int)),(1,.int .u8 2)]) (I.mk (H.U+6) (H.2)) (Op.buildSlice 84 1 {toList:=[(0,Operand.tmp 7)]})=some ((ia q),H1)∧bu 51 [(ia q)] H1 (.str s) H1∧dN env (H.U+4) (aY [(9,.str s),(8,(ia q)),(7,.int .i32 (r:Int)),(4,.slice none 0 0),(0,.int .i32 (r:Int)),(1,.int .u8 2)]) H1 (Op.convert 9 34 (Operand.tmp 9))=some (R.slice (bS x) k k,H2)∧aV (H.U) (H2.U) (aV (H.U) (H2.U+3) (some (R.bool ((r:Int) != 91))=some (R.bool true)∧some (R.bool ((r:Int) != 79))=some (R.bool true)∧aV (H.U) (H2.U+14) (bb env cz (H2.U+14) (aY [(15,.bool true),(25,.bool true),(24,.bool true),(23,.int .i32 (r:Int)),(22,.bool true),(21,.bool true),(20,.bool true),(19,.int .i32 (r:Int)),(18,.bool true),(17,.bool true),(16,.int .u8 2),(11,.bool false),(13,.bool false),(12,.int .u8 2),(5,.slice (bS x) k k),(10,.slice (bS x) k k),(9,.str s),(8,(ia q)),(7,.int .i32 (r:Int)),(4,.slice none 0 0),(0,.int .i32 (r:Int)),(1,.int .u8 2)]) (I.mk (H2.U+18) (H2.2)) (Op.buildSlice 34 1 {toList:=[(0,Operand.const (Value.int .u8 (27)))]})=some (R.slice (bS y) 1 1,bd)∧e5 env Builtin.append {toList:=[34,34]} [.slice (bS y) 1 1,.slice (bS x) k k] (H2.U+16) bd=some (v,cd)∧fg (H.U) (cd.U) (ad v cd))))))) :
 bW 42 [.int .i32 r,.int .u8 2] H ad :=
 bZ cP (.ao (.act 1001 ((ia q)) fun x=>H1) (.ao (.val 1002 (.str s)) (.ao (.l3 1003 (.slice (bS x) k k) fun x=>H2) (.ao (.val 4004 (.bool true)) (.ao (.val 4008 (.bool true)) (.ao (.act 5000 (.slice (bS y) 1 1) fun x=>bd) (.ao (.act 5002 v fun x=>cd) .nil))))))) aP
theorem Jl(H H1 H2 bd cd:I)(r m q x y k:Nat)(s:Bytes)(v:R)(ad:bT)(aP:aV (H.U) (H.U) (aV (H.U) (H.U+1) (bb env cz (H.U+2) (aY [(7,.int .i32 (r:Int)),(4,.slice none 0 0),(0,.int .i32 (r:Int)),(1,.int .u8 (m:Int))]) (I.mk (H.U+6) (H.2)) (Op.buildSlice 84 1 {toList:=[(0,Operand.tmp 7)]})=some ((ia q),H1)∧bu 51 [(ia q)] H1 (.str s) H1∧dN env (H.U+4) (aY [(9,.str s),(8,(ia q)),(7,.int .i32 (r:Int)),(4,.slice none 0 0),(0,.int .i32 (r:Int)),(1,.int .u8 (m:Int))]) H1 (Op.convert 9 34 (Operand.tmp 9))=some (R.slice (bS x) k k,H2)∧aV (H.U) (H2.U) (some (R.bool ((m:Int) == 0))=some (R.bool false)∧aV (H.U) (H2.U+3) (some (R.bool ((m:Int) == 2))=some (R.bool false)∧aV (H.U) (H2.U+14) (True∧some (R.bool (nc .u8 (m:Int) 2 == 4))=some (R.bool false)∧aV (H.U) (H2.U+18) ((-9223372036854775808≤(r:Int)∧(r:Int)≤9223372036854775807)∧(-9223372036854775808≤(m:Int)∧(m:Int)≤9223372036854775807)∧(-9223372036854775808≤(m:Int)+1∧(m:Int)+1≤9223372036854775807)∧bb env cz (H2.U+23) (aY [(81,.int .i64 ((m:Int)+1)),(80,.int .i64 (m:Int)),(79,.int .u8 (m:Int)),(78,.int .i64 (r:Int)),(77,.int .i32 (r:Int)),(29,.bool false),(32,.bool false),(31,.int .u8 (nc .u8 (m:Int) (2))),(30,.int .u8 (m:Int)),(15,.bool false),(25,.bool false),(24,.tuple []),(23,.tuple []),(22,.bool false),(21,.bool false),(20,.tuple []),(19,.tuple []),(18,.bool false),(17,.bool false),(16,.int .u8 (m:Int)),(11,.bool false),(13,.bool false),(12,.int .u8 (m:Int)),(5,.slice (bS x) k k),(10,.slice (bS x) k k),(9,.str s),(8,(ia q)),(7,.int .i32 (r:Int)),(4,.slice none 0 0),(0,.int .i32 (r:Int)),(1,.int .u8 (m:Int))]) (I.mk (H2.U+26) (H2.2)) (Op.buildSlice 102 2 {toList:=[(0,Operand.tmp 78),(1,Operand.tmp 81)]})=some ((jJ y),bd)∧bu 44 [.str [117],(jJ y)] bd v cd∧fg (H.U) (cd.U) (ad v cd)))))))) :
 bW 42 [.int .i32 r,.int .u8 m] H ad :=
 bZ cP (.ao (.act 1001 ((ia q)) fun x=>H1) (.ao (.val 1002 (.str s)) (.ao (.l3 1003 (.slice (bS x) k k) fun x=>H2) (.ao (.val 2001 (.bool false)) (.ao (.val 4001 (.bool false)) (ah 6001 (.ao (.val 6002 (.bool false)) (ah 17001 (ah 17003 (ah 17004 (.ao (.act 17005 ((jJ y)) fun x=>bd) (.ao (.act 17006 v fun x=>cd) .nil)))))))))))) aP
theorem Jm(H H1 H2 bd cd:I)(r m q x y k:Nat)(s:Bytes)(v:R)(ad:bT)(aP:aV (H.U) (H.U) (aV (H.U) (H.U+1) (bb env cz (H.U+2) (aY [(7,.int .i32 (r:Int)),(4,.slice none 0 0),(0,.int .i32 (r:Int)),(1,.int .u8 (m:Int))]) (I.mk (H.U+6) (H.2)) (Op.buildSlice 84 1 {toList:=[(0,Operand.tmp 7)]})=some ((ia q),H1)∧bu 51 [(ia q)] H1 (.str s) H1∧dN env (H.U+4) (aY [(9,.str s),(8,(ia q)),(7,.int .i32 (r:Int)),(4,.slice none 0 0),(0,.int .i32 (r:Int)),(1,.int .u8 (m:Int))]) H1 (Op.convert 9 34 (Operand.tmp 9))=some (R.slice (bS x) k k,H2)∧aV (H.U) (H2.U) (some (R.bool ((m:Int) == 0))=some (R.bool false)∧aV (H.U) (H2.U+3) (some (R.bool ((m:Int) == 2))=some (R.bool false)∧aV (H.U) (H2.U+14) (True∧some (R.bool (nc .u8 (m:Int) 2 == 4))=some (R.bool true)∧aV (H.U) (H2.U+18) (aV (H.U) (H2.U+19) (some (R.bool ((r:Int) == 32))=some (R.bool false)∧aV (H.U) (H2.U+22) (some (R.bool (decide ((r:Int)≥97)))=some (R.bool true)∧some (R.bool (decide ((r:Int)≤122)))=some (R.bool false)∧aV (H.U) (H2.U+37) (some (R.bool (decide ((r:Int)≥92)))=some (R.bool true)∧some (R.bool (decide ((r:Int)≤95)))=some (R.bool false)∧aV (H.U) (H2.U+44) ((-9223372036854775808≤(r:Int)∧(r:Int)≤9223372036854775807)∧(-9223372036854775808≤(m:Int)∧(m:Int)≤9223372036854775807)∧(-9223372036854775808≤(m:Int)+1∧(m:Int)+1≤9223372036854775807)∧bb env cz (H2.U+49) (aY [(37,.int .i64 ((m:Int)+1)),(36,.int .i64 (m:Int)),(35,.int .u8 (m:Int)),(34,.int .i64 (r:Int)),(33,.int .i32 (r:Int)),(61,.bool false),(67,.bool false),(66,.bool false),(65,.int .i32 (r:Int)),(64,.bool true),(63,.bool true),(62,.int .i32 (r:Int)),(43,.bool false),(57,.bool false),(56,.tuple []),(55,.tuple []),(54,.bool false),(53,.bool false),(52,.tuple []),(51,.tuple []),(50,.bool false),(49,.bool false),(48,.bool false),(47,.int .i32 (r:Int)),(46,.bool true),(45,.bool true),(44,.int .i32 (r:Int)),(40,.bool false),(42,.bool false),(41,.int .i32 (r:Int)),(6,.int .u8 0),(29,.bool true),(32,.bool true),(31,.int .u8 (nc .u8 (m:Int) (2))),(30,.int .u8 (m:Int)),(15,.bool false),(25,.bool false),(24,.tuple []),(23,.tuple []),(22,.bool false),(21,.bool false),(20,.tuple []),(19,.tuple []),(18,.bool false),(17,.bool false),(16,.int .u8 (m:Int)),(11,.bool false),(13,.bool false),(12,.int .u8 (m:Int)),(5,.slice (bS x) k k),(10,.slice (bS x) k k),(9,.str s),(8,(ia q)),(7,.int .i32 (r:Int)),(4,.slice none 0 0),(0,.int .i32 (r:Int)),(1,.int .u8 (m:Int))]) (I.mk (H2.U+52) (H2.2)) (Op.buildSlice 102 2 {toList:=[(0,Operand.tmp 34),(1,Operand.tmp 37)]})=some ((jJ y),bd)∧bu 44 [.str [117],(jJ y)] bd v cd∧fg (H.U) (cd.U) (ad v cd)))))))))))) :
 bW 42 [.int .i32 r,.int .u8 m] H ad :=
 bZ cP (.ao (.act 1001 ((ia q)) fun x=>H1) (.ao (.val 1002 (.str s)) (.ao (.l3 1003 (.slice (bS x) k k) fun x=>H2) (.ao (.val 2001 (.bool false)) (.ao (.val 4001 (.bool false)) (ah 6001 (.ao (.val 6002 (.bool true)) (.ao (.val 9001 (.bool false)) (.ao (.val 10001 (.bool true)) (.ao (.val 10004 (.bool false)) (.ao (.val 12001 (.bool true)) (.ao (.val 12004 (.bool false)) (ah 8001 (ah 8003 (ah 8004 (.ao (.act 8005 ((jJ y)) fun x=>bd) (.ao (.act 8006 v fun x=>cd) .nil))))))))))))))))) aP
theorem B0(H:I)(B q i z:Nat)(k:Int)(m:Nat)(ad:ch→a'→I→Prop)(aP:aV B (H.U) (((i:Int)<6→aV B (H.U+1) ((0≤(i:Int)∧(i:Int)<6)∧bp env.D 5 ⟨q,0,0+Int.toNat (i:Int),0,1⟩ (I.mk (H.U+4) (H.2))=some (.int .u8 (z:Int))∧aV B (H.U+4) (some (R.bool (nn (z:Int) != k))=some (R.bool true)∧aV B (H.U+8) ((-9223372036854775808≤(i:Int)+1∧(i:Int)+1≤9223372036854775807)∧ad .normal [(0,.int .i32 k),(1,.int .u8 (m:Int)),(5,.int .i64 ((m:Int)+1)),(52,.slice (bS q) 6 6),(53,.int .i64 6),(54,.int .i64 ((i:Int)+1))] (I.mk (H.U+8+2) (I.aB (I.mk (H.U+4+4) (I.aB (I.mk (H.U+1+3) (I.aB (I.mk (H.U+1) (I.aB H))))))))))))∧(¬(i:Int)<6→ad (.exit 1) [(0,.int .i32 k),(1,.int .u8 (m:Int)),(5,.int .i64 ((m:Int)+1)),(52,.slice (bS q) 6 6),(53,.int .i64 6),(54,.int .i64 (i:Int))] (I.mk (H.U+1) (I.aB H))))) :
 ∃e aA aa,bK B 111 (bw 43 0) [(0,.int .i32 k),(1,.int .u8 m),(5,.int .i64 (m+1)),(52,.slice (bS q) 6 6),(53,.int .i64 6),(54,.int .i64 i)] H e aA aa∧ad e aA aa :=
 eB dB mixed cP (hs:= .aO 12000 (ah 13000 (.ao (.val 13001 (.int .u8 (z:Int))) (.ao (.val 14003 (.bool true)) (ah 18000 .nil)))) .nil) (keep:=[0,1,5,52,53,54]) aG aP
abbrev B1(H:I):I:=(I.mk (H.U+10+3) (I.aB (I.mk (H.U+2+8) (I.aB (I.mk (H.U+2) (I.aB H))))))
theorem B2(H:I)(B i:Nat)(k:Int)(m:Nat)(ad:ch→a'→I→Prop)(aP:aV B (H.U) (((i:Int)≤24→aV B (H.U+2) ((0<k→some (R.bool (kd (i:Int) == k))=some (R.bool false)∧aV B (H.U+10) ((-9223372036854775808≤(i:Int)+1∧(i:Int)+1≤9223372036854775807)∧ad .normal [(0,.int .i32 k),(1,.int .u8 (m:Int)),(5,.int .i64 ((m:Int)+1)),(9,.int .i64 ((i:Int)+1))] (B1 H)))∧(¬0<k→aV B (H.U+10) ((-9223372036854775808≤(i:Int)+1∧(i:Int)+1≤9223372036854775807)∧ad .normal [(0,.int .i32 k),(1,.int .u8 (m:Int)),(5,.int .i64 ((m:Int)+1)),(9,.int .i64 ((i:Int)+1))] (B1 H)))))∧(¬(i:Int)≤24→ad (.exit 3) [(0,.int .i32 k),(1,.int .u8 (m:Int)),(5,.int .i64 ((m:Int)+1)),(9,.int .i64 (i:Int))] (I.mk (H.U+2) (I.aB H))))) :
 ∃e aA aa,bK B 111 (bw 43 1) [(0,.int .i32 k),(1,.int .u8 m),(5,.int .i64 (m+1)),(9,.int .i64 i)] H e aA aa∧ad e aA aa :=
 eB dB mixed cP (hs:= .aO 22001 (.aO 24001 (.ao (.val 24006 (.bool false)) (ah 23001 .nil)) (ah 23001 .nil)) .nil) (keep:=[0,1,5,9]) aG aP
abbrev hR(q:Nat):R:=R.slice (bS q) 6 6
abbrev rY(bd:I)(m:Nat)(k:Int):cv:=(.ao (.loop [(0,.int .i32 k),(1,.int .u8 (m:Int)),(5,.int .i64 ((m:Int)+1)),(9,.int .i64 25)] bd (.exit 3)) .nil)
theorem Jn(H H1 H2 bd:I)(q m:Nat)(k:Int)(hn:R)(ad:bT)(aP:aV (H.U) (H.U) (aV (H.U) (H.U+1) ((-9223372036854775808≤(m:Int)∧(m:Int)≤9223372036854775807)∧(-9223372036854775808≤(m:Int)+1∧(m:Int)+1≤9223372036854775807)∧aV (H.U) (H.U+5) (some (R.bool (decide (k≥1)))=some (R.bool false)∧aV (H.U) (H.U+11) (bb env cz (H.U+11) (aY [(18,.bool false),(17,.tuple []),(16,.tuple []),(15,.bool false),(14,.bool false),(13,.int .i32 k),(5,.int .i64 ((m:Int)+1)),(12,.int .i64 ((m:Int)+1)),(11,.int .i64 (m:Int)),(10,.int .u8 (m:Int)),(4,.slice none 0 0),(0,.int .i32 k),(1,.int .u8 (m:Int))]) (I.mk (H.U+15) (H.2)) (Op.buildSlice 34 6 {toList:=[(0,Operand.const (Value.int .u8 (65))),(1,Operand.const (Value.int .u8 (66))),(2,Operand.const (Value.int .u8 (67))),(3,Operand.const (Value.int .u8 (68))),(4,Operand.const (Value.int .u8 (72))),(5,Operand.const (Value.int .u8 (70)))]})=some ((hR q),H1)∧dN env (H.U+12) (aY [(51,(hR q)),(18,.bool false),(17,.tuple []),(16,.tuple []),(15,.bool false),(14,.bool false),(13,.int .i32 k),(5,.int .i64 ((m:Int)+1)),(12,.int .i64 ((m:Int)+1)),(11,.int .i64 (m:Int)),(10,.int .u8 (m:Int)),(4,.slice none 0 0),(0,.int .i32 k),(1,.int .u8 (m:Int))]) H1 (Op.convert 34 34 (Operand.tmp 51))=some ((hR q),H1)∧bK (H.U) 111 (Code.loop (bw 43 0)) [(0,.int .i32 k),(1,.int .u8 (m:Int)),(5,.int .i64 ((m:Int)+1)),(52,(hR q)),(53,.int .i64 6),(54,.int .i64 0)] H1 (.exit 1) [(0,.int .i32 k),(1,.int .u8 (m:Int)),(5,.int .i64 ((m:Int)+1)),(52,(hR q)),(53,.int .i64 6),(54,hn)] H2∧aV (H.U) (H2.U) (((m:Int)=0→some (R.bool (decide (k≥21)))=some (R.bool false)∧aV (H.U) (H2.U+10) (bK (H.U) 111 (Code.loop (bw 43 1)) [(0,.int .i32 k),(1,.int .u8 (m:Int)),(5,.int .i64 ((m:Int)+1)),(9,.int .i64 2)] (I.mk (H2.U+10+1) (I.aB (I.mk (H2.U+10) (I.aB H2)))) (.exit 3) [(0,.int .i32 k),(1,.int .u8 (m:Int)),(5,.int .i64 ((m:Int)+1)),(9,.int .i64 25)] bd∧aV (H.U) (bd.U) (fg (H.U) (bd.U+1) (ad (.slice none 0 0) (I.mk (bd.U+1) (I.aB bd))))))∧(¬(m:Int)=0→aV (H.U) (H2.U+10) (bK (H.U) 111 (Code.loop (bw 43 1)) [(0,.int .i32 k),(1,.int .u8 (m:Int)),(5,.int .i64 ((m:Int)+1)),(9,.int .i64 2)] (I.mk (H2.U+10+1) (I.aB (I.mk (H2.U+10) (I.aB H2)))) (.exit 3) [(0,.int .i32 k),(1,.int .u8 (m:Int)),(5,.int .i64 ((m:Int)+1)),(9,.int .i64 25)] bd∧aV (H.U) (bd.U) (fg (H.U) (bd.U+1) (ad (.slice none 0 0) (I.mk (bd.U+1) (I.aB bd)))))))))))) :
 bW 43 [.int .i32 k,.int .u8 m] H ad :=
 bZ cP (ah 1001 (ah 1002 (.ao (.val 2001 (.bool false)) (.ao (.act 11000 ((hR q)) fun x=>H1) (.ao (.l3 11001 ((hR q)) fun h=>h) (.ao (.keep [0,1,5,52,53,54]) (.ao (.loop [(0,.int .i32 k),(1,.int .u8 (m:Int)),(5,.int .i64 ((m:Int)+1)),(52,(hR q)),(53,.int .i64 6),(54,hn)] H2 (.exit 1)) (.aO 19001 (.ao (.val 19004 (.bool false)) (.ao (.keep [0,1,5,9]) (rY bd m k))) (.ao (.keep [0,1,5,9]) (rY bd m k)))))))))) aP
abbrev yb(H2:I):I:=(I.mk (H2.U+10+1) (I.aB (I.mk (H2.U+10) (I.aB H2))))
theorem Jo(H H1 H2 bd:I)(q m:Nat)(k:Int)(hn:R)(ad:bT)(aP:aV (H.U) (H.U) (aV (H.U) (H.U+1) ((-9223372036854775808≤(m:Int)∧(m:Int)≤9223372036854775807)∧(-9223372036854775808≤(m:Int)+1∧(m:Int)+1≤9223372036854775807)∧aV (H.U) (H.U+5) (some (R.bool (decide (k≥1)))=some (R.bool true)∧some (R.bool (decide (k≤4)))=some (R.bool false)∧aV (H.U) (H.U+11) (bb env cz (H.U+11) (aY [(18,.bool false),(17,.bool false),(16,.int .i32 k),(15,.bool true),(14,.bool true),(13,.int .i32 k),(5,.int .i64 ((m:Int)+1)),(12,.int .i64 ((m:Int)+1)),(11,.int .i64 (m:Int)),(10,.int .u8 (m:Int)),(4,.slice none 0 0),(0,.int .i32 k),(1,.int .u8 (m:Int))]) (I.mk (H.U+15) (H.2)) (Op.buildSlice 34 6 {toList:=[(0,Operand.const (Value.int .u8 (65))),(1,Operand.const (Value.int .u8 (66))),(2,Operand.const (Value.int .u8 (67))),(3,Operand.const (Value.int .u8 (68))),(4,Operand.const (Value.int .u8 (72))),(5,Operand.const (Value.int .u8 (70)))]})=some ((hR q),H1)∧dN env (H.U+12) (aY [(51,(hR q)),(18,.bool false),(17,.bool false),(16,.int .i32 k),(15,.bool true),(14,.bool true),(13,.int .i32 k),(5,.int .i64 ((m:Int)+1)),(12,.int .i64 ((m:Int)+1)),(11,.int .i64 (m:Int)),(10,.int .u8 (m:Int)),(4,.slice none 0 0),(0,.int .i32 k),(1,.int .u8 (m:Int))]) H1 (Op.convert 34 34 (Operand.tmp 51))=some ((hR q),H1)∧bK (H.U) 111 (Code.loop (bw 43 0)) [(0,.int .i32 k),(1,.int .u8 (m:Int)),(5,.int .i64 ((m:Int)+1)),(52,(hR q)),(53,.int .i64 6),(54,.int .i64 0)] H1 (.exit 1) [(0,.int .i32 k),(1,.int .u8 (m:Int)),(5,.int .i64 ((m:Int)+1)),(52,(hR q)),(53,.int .i64 6),(54,hn)] H2∧aV (H.U) (H2.U) (((m:Int)=0→(21≤k→some (R.bool (decide (k<25)))=some (R.bool false)∧aV (H.U) (H2.U+10) (bK (H.U) 111 (Code.loop (bw 43 1)) [(0,.int .i32 k),(1,.int .u8 (m:Int)),(5,.int .i64 ((m:Int)+1)),(9,.int .i64 2)] (yb H2) (.exit 3) [(0,.int .i32 k),(1,.int .u8 (m:Int)),(5,.int .i64 ((m:Int)+1)),(9,.int .i64 25)] bd∧aV (H.U) (bd.U) (fg (H.U) (bd.U+1) (ad (.slice none 0 0) (I.mk (bd.U+1) (I.aB bd))))))∧(¬21≤k→aV (H.U) (H2.U+10) (bK (H.U) 111 (Code.loop (bw 43 1)) [(0,.int .i32 k),(1,.int .u8 (m:Int)),(5,.int .i64 ((m:Int)+1)),(9,.int .i64 2)] (yb H2) (.exit 3) [(0,.int .i32 k),(1,.int .u8 (m:Int)),(5,.int .i64 ((m:Int)+1)),(9,.int .i64 25)] bd∧aV (H.U) (bd.U) (fg (H.U) (bd.U+1) (ad (.slice none 0 0) (I.mk (bd.U+1) (I.aB bd)))))))∧(¬(m:Int)=0→aV (H.U) (H2.U+10) (bK (H.U) 111 (Code.loop (bw 43 1)) [(0,.int .i32 k),(1,.int .u8 (m:Int)),(5,.int .i64 ((m:Int)+1)),(9,.int .i64 2)] (yb H2) (.exit 3) [(0,.int .i32 k),(1,.int .u8 (m:Int)),(5,.int .i64 ((m:Int)+1)),(9,.int .i64 25)] bd∧aV (H.U) (bd.U) (fg (H.U) (bd.U+1) (ad (.slice none 0 0) (I.mk (bd.U+1) (I.aB bd)))))))))))) :
 bW 43 [.int .i32 k,.int .u8 m] H ad :=
 bZ cP (ah 1001 (ah 1002 (.ao (.val 2001 (.bool true)) (.ao (.val 2004 (.bool false)) (.ao (.act 11000 ((hR q)) fun x=>H1) (.ao (.l3 11001 ((hR q)) fun h=>h) (.ao (.keep [0,1,5,52,53,54]) (.ao (.loop [(0,.int .i32 k),(1,.int .u8 (m:Int)),(5,.int .i64 ((m:Int)+1)),(52,(hR q)),(53,.int .i64 6),(54,hn)] H2 (.exit 1)) (.aO 19001 (.aO 19004 (.ao (.val 19008 (.bool false)) (.ao (.keep [0,1,5,9]) (rY bd m k))) (.ao (.keep [0,1,5,9]) (rY bd m k))) (.ao (.keep [0,1,5,9]) (rY bd m k))))))))))) aP
abbrev aU(k c m x y:Int)(t:Bytes):R:= .agg [.int .i8 k,.int .i32 c,.int .u8 m,.int .i64 x,.int .i64 y,.str t]
theorem Jp(k c m x y:Int)(t:Bytes)(ad:bT)(aP:some (R.bool (k == 3))=some (R.bool false)∧some (R.bool (decide (m>7)))=some (R.bool true)∧ad (.tuple [.slice none 0 0,.int .i64 220]) (I.ak 23 [(0,ai.aq [.agg [.int .i8 k,.int .i32 c,.int .u8 m,.int .i64 x,.int .i64 y,.str t]] 6 true (some (42,6))),(4,(ai.aq ([.agg [.int .i8 k,.int .i32 0,.int .u8 0,.int .i64 x,.int .i64 y,.str t]]) 6 true (some (42,6))))])) :
 bW 21 [aU k c m x y t] (⟨0,.nil⟩) ad :=
 bZ cP (.ao (.val 4002 (.bool false)) (.ao (.val 6002 (.bool true)) .nil)) aP
abbrev eC(c m:Int):R:=R.agg [.int .i8 1,.int .i32 c,.int .u8 m,.int .i64 0,.int .i64 0,.str []]
abbrev yc:R:=R.agg [.int .i8 1,.int .i32 0,.int .u8 0,.int .i64 0,.int .i64 0,.str []]
abbrev ui(c m:Int):I:=(I.ak 33 [(0,ai.aq [(eC c m)] 6 true (some (42,6))),(4,(ai.aq ([yc]) 6 true (some (42,6))))])
theorem Jq(H:I)(c m:Int)(a:di)(n:Nat)(ad:bT)(aP:some (R.bool (decide (m>7)))=some (R.bool false)∧bu 41 [.int .i32 c] (ui c m) (.bool true) (ui c m)∧bu 42 [.int .i32 c,.int .u8 m] (I.ak 39 [(0,ai.aq [(eC c m)] 6 true (some (42,6))),(4,(ai.aq ([yc]) 6 true (some (42,6))))]) (.slice (some a) n n) H∧ad (.tuple [.slice (some a) n n,.int .i64 0]) (I.mk (H.U+2+3) (I.aB (I.mk (H.U+2) (I.aB H))))) :
 bW 21 [aU 1 c m 0 0 []] (⟨0,.nil⟩) ad :=
 bZ cP (.ao (.val 6002 (.bool false)) (.ao (.val 7011 (.bool true)) (.ao (.act 8004 (.slice (some a) n n) fun x=>H) .nil))) aP
theorem Jr(c m x y:Int)(t:Bytes)(ad:bT)(aP:some (R.bool (decide (m>7)))=some (R.bool false)∧some (R.bool (1 == 1&&(0 == 0&&(0 == 0&&(x == 0&&(y == 0&&(t ==[]&&true)))))))=some (R.bool false)∧ad (.tuple [.slice none 0 0,.int .i64 220]) (I.ak 84 [(0,ai.aq [.agg [.int .i8 1,.int .i32 c,.int .u8 m,.int .i64 x,.int .i64 y,.str t]] 6 true (some (42,6))),(4,(ai.aq ([.agg [.int .i8 1,.int .i32 0,.int .u8 0,.int .i64 x,.int .i64 y,.str t]]) 6 true (some (42,6))))])) :
 bW 21 [aU 1 c m x y t] (⟨0,.nil⟩) ad :=
 bZ cP (.ao (.val 6002 (.bool false)) (.ao (.val 7006 (.bool false)) .nil)) aP
theorem Js(c m:Int)(ad:bT)(aP:some (R.bool (decide (m>7)))=some (R.bool false)∧bu 41 [.int .i32 c] (ui c m) (.bool false) (ui c m)∧ad (.tuple [.slice none 0 0,.int .i64 220]) (I.ak 84 [(0,ai.aq [(eC c m)] 6 true (some (42,6))),(4,(ai.aq ([yc]) 6 true (some (42,6))))])) :
 bW 21 [aU 1 c m 0 0 []] (⟨0,.nil⟩) ad :=
 bZ cP (.ao (.val 6002 (.bool false)) (.ao (.val 7011 (.bool false)) .nil)) aP
theorem Jt(H:I)(c m:Int)(a:di)(n:Nat)(ad:bT)(aP:some (R.bool (decide (m>7)))=some (R.bool false)∧bu 43 [.int .i32 c,.int .u8 m] (I.ak 48 [(0,ai.aq [.agg [.int .i8 2,.int .i32 c,.int .u8 m,.int .i64 0,.int .i64 0,.str []]] 6 true (some (42,6))),(4,(ai.aq ([.agg [.int .i8 2,.int .i32 0,.int .u8 0,.int .i64 0,.int .i64 0,.str []]]) 6 true (some (42,6))))]) (.slice (some a) n n) H∧ad (.tuple [.slice (some a) n n,.int .i64 0]) (I.mk (H.U+2+3) (I.aB (I.mk (H.U+2) (I.aB H))))) :
 bW 21 [aU 2 c m 0 0 []] (⟨0,.nil⟩) ad :=
 bZ cP (.ao (.val 6002 (.bool false)) (.ao (.act 10004 (.slice (some a) n n) fun x=>H) .nil)) aP
theorem Ju(H:I)(c m:Int)(ad:bT)(aP:some (R.bool (decide (m>7)))=some (R.bool false)∧bu 43 [.int .i32 c,.int .u8 m] (I.ak 48 [(0,ai.aq [.agg [.int .i8 2,.int .i32 c,.int .u8 m,.int .i64 0,.int .i64 0,.str []]] 6 true (some (42,6))),(4,(ai.aq ([.agg [.int .i8 2,.int .i32 0,.int .u8 0,.int .i64 0,.int .i64 0,.str []]]) 6 true (some (42,6))))]) (.slice none 0 0) H∧ad (.tuple [.slice none 0 0,.int .i64 220]) (I.mk (H.U+2+2) (I.aB (I.mk (H.U+2) (I.aB H))))) :
 bW 21 [aU 2 c m 0 0 []] (⟨0,.nil⟩) ad :=
 bZ cP (.ao (.val 6002 (.bool false)) (.ao (.act 10004 (.slice none 0 0) fun x=>H) .nil)) aP
theorem Jv(c m x y:Int)(t:Bytes)(ad:bT)(aP:some (R.bool (decide (m>7)))=some (R.bool false)∧some (R.bool (2 == 2&&(0 == 0&&(0 == 0&&(x == 0&&(y == 0&&(t ==[]&&true)))))))=some (R.bool false)∧ad (.tuple [.slice none 0 0,.int .i64 220]) (I.ak 84 [(0,ai.aq [.agg [.int .i8 2,.int .i32 c,.int .u8 m,.int .i64 x,.int .i64 y,.str t]] 6 true (some (42,6))),(4,(ai.aq ([.agg [.int .i8 2,.int .i32 0,.int .u8 0,.int .i64 x,.int .i64 y,.str t]]) 6 true (some (42,6))))])) :
 bW 21 [aU 2 c m x y t] (⟨0,.nil⟩) ad :=
 bZ cP (.ao (.val 6002 (.bool false)) (.ao (.val 9006 (.bool false)) .nil)) aP
theorem rZ{x:Nat}{l:List R}{s:Bytes}(h:l=b5 (put x))(hs:s=strOf l):s=put x:=by rw [hs,h,Bp]
def yd(x:Nat)(v:R)(af:I):Prop:=v=.str (put x)∧af.get 0=some (hQ x)
theorem Jw{x:Nat}(hs:Keys.Scalar x):∃v af,bE 51 [.slice (some ⟨0,0,0,0,1⟩) 1 1] (I.of [hQ x]) v af∧yd x v af:=by
 have e:I.of [hQ x]=I.rows 1 [(0,hQ x)]:= aG;rw [e];unfold Keys.Scalar at hs;by_cases h:x<55296
 ·refine Jh x (yd x) ?_;have ac:x<2^31:= J;refine⟨by simp;omega,by simp;omega,?_⟩
  repeat' (first|exact True.intro|apply And.intro|intro _)
  all_goals first
   |omega
   |(simp only [Option.some.injEq,R.bool.injEq,decide_eq_false_iff_not];omega)
   |exact jI
   |exact(tZ ac).1|exact(tZ ac).2|exact(t' ac).1|exact(t' ac).2
   |exact(BM J).1|exact(BM J).2|exact(ua J).1|exact(ua J).2
   |exact congrArg R.str (rZ (oO J) rfl)
   |exact congrArg R.str (rZ (rO J J) rfl)
   |exact congrArg R.str (rZ (pX J J J) rfl)
   |rfl
 ·refine Ji x (yd x) ?_;have ac:x<2^31:= J;refine⟨by simp;omega,by simp;omega,by simp;omega,by simp;omega,by simp;omega,?_⟩
  repeat' (first|exact True.intro|apply And.intro|intro _)
  all_goals first
   |omega
   |exact jI
   |exact(tZ ac).1|exact(tZ ac).2|exact(t' ac).1|exact(t' ac).2|exact(BL ac).1|exact(BL ac).2
   |exact(ua J).1|exact(ua J).2|exact(BN J).1|exact(BN J).2
   |exact congrArg R.str (rZ (pX J J J) rfl)
   |exact congrArg R.str (rZ (rP J J) rfl)
   |rfl
theorem B3{x q:Nat}{H:I}(hs:Keys.Scalar x)(ah:H.get q=some (hQ x))(av:q<H.U):bE 51 [.slice (some ⟨q,0,0,0,1⟩) 1 1] H (.str (put x)) H:=by
 obtain⟨v,af,az,rfl,a6⟩:=Jw hs
 have an:iD (hQ x):=by intro e he;simp only [hQ,ai.aq,List.mem_singleton]at he;subst he;exact cO.int _ _
 have:=bn.pure (l:=[hQ x]) az (fun b eX=>by rw [List.mem_singleton.1 eX];exact an) (by show [af.get 0]=_;rw [a6];rfl) (cO.str _) (by exact⟨by show 0<1;decide,trivial⟩) (H:=H) [q] a1 (by intro j aW;rw [List.mem_singleton.1 aW];exact av) (by simp [ah]);simpa [R.be,di.be,er]using this
noncomputable def okB(r:Option (R×I))(bs:Bytes):Bool :=
 match r with
 |some (.slice (some a) n c,h) =>
  decide (n=bs.length)&&decide (c=bs.length)&&decide (a.fld=0)&&decide (a.es=1)&&decide (a.idx=0)&&Nat.blt a.id h.U &&
   (match h.get a.id with|some b=>decide (a.bf=b.bf)&&!b.ro&&nV b.bc&&decide (bytesOf b.bc=some bs)&&(b.exact || decide (b.ty=none) || decide (b.ty=some (5,0)))|none=>false)
 |_=>false
theorem B4:∀{l:List R}{bs:Bytes},nV l=true→bytesOf l=some bs→l=b5 bs
 |[],bs,_,h=>by simp only [bytesOf,Option.some.injEq]at h;subst h;rfl
 |a ::r,bs,ag,h=>by
  unfold nV at ag;split at ag
  ·rename_i he;cases he
  ·rename_i n dE he;simp only [List.cons.injEq]at he;obtain⟨rfl,rfl⟩:=he;simp only [Bool.and_eq_true,decide_eq_true_eq]at ag;simp only [bytesOf,Option.map_eq_some_iff]at h;obtain⟨l,aa,rfl⟩:=h;rw [B4 ag.2 aa];show _=R.int .u8 ((UInt8.ofNat n.toNat).toNat:Int)::b5 l;rw [UInt8.toNat_ofNat',show((n.toNat%2^8:Nat):Int)=n by omega]
  ·cases ag
theorem B5{f:FuncId}{args:List R}{k:Nat}{bs:Bytes}(h:okB (h6 Tryz.prog env k f args ⟨0,.nil⟩) bs=true)(aD:∀a∈args,cO a)(H:I) :
 ∃v aH j,bE f args H v aH∧dI aH j v bs∧H.U≤j∧∀x,x<H.U→aH.get x=H.get x:=by
 unfold okB at h;split at h
 ·rename_i a n c aa aR;simp only [Bool.and_eq_true,decide_eq_true_eq,Bool.or_eq_true,Bool.not_eq_true']at h;obtain⟨⟨⟨⟨⟨⟨rfl,rfl⟩,bY⟩,bU⟩,ez⟩,a6⟩,bj⟩:=h;have a6:=Nat.blt_eq.mp a6;split at bj
  ·rename_i b an;simp only [Bool.and_eq_true,decide_eq_true_eq,Bool.or_eq_true,Bool.not_eq_true']at bj;obtain⟨⟨⟨⟨a7,ba⟩,cC⟩,eK⟩,fJ⟩:=bj;have eh:=B4 cC eK
   have og:iD b:=by intro e he;rw [eh]at he;exact BO bs e he
   rw [oD]at aR;have az:bE f args (I.of []) _ aa:=bn.mZ dB mixed aR;obtain⟨aH,gq,mc,fo,j8⟩:=az.place a1 (fun b an=>by cases an) (rl.2 fun a h=>(aD a h).ha _) (H:=H) [] List.nodup_nil (fun j aW=>by cases aW) rfl (fun i b h=>by simp at h);have r:∀i,er [] H.U i=H.U+i:=fun i=>by rw [nk a1];simp
   have g:=fo a.id b an;rw [og.be,r]at g
   have fk:args.map (R.be (er [] H.U))=args:=by
    conv=>rhs;rw [←List.map_id args]
    exact List.map_congr_left fun e he=>(aD e he).1 _
   rw [fk]at gq;obtain⟨Jx,Nq,Nr,Ns,Nt⟩:=a;simp only at bY bU ez a7 g a6;subst bY bU ez a7;refine⟨_,aH,H.U+Jx,gq,⟨⟨b,?_,g,ba,eh,fun he=> ?_⟩,?_⟩,J,fun x ac=>j8 x ac a1⟩
   ·simp only [R.be,di.be,r]
   ·rcases fJ with (h|h)|h
    ·rw [he]at h;cases h
    ·exact .inl h
    ·exact .inr h
   ·rw [mc];simp only [List.length_nil,Nat.sub_zero];omega
  ·cases bj
 ·cases h
def Jy(r:Option (R×I)):Bool:=match r with|some (.slice none n c,_)=>decide (n=0)&&decide (c=0)|_=>false
def r0(n:Nat):Bytes:=if n<10 then [u8 (48+n)]else if n<100 then [u8 (48+n/10),u8 (48+n%10)]else [u8 (48+n/100),u8 (48+n/10%10),u8 (48+n%10)]
theorem ye{n:Nat}(h:n<1000):r0 n=Lib.decDigits n:=by
 unfold r0;split
 ·exact(p1 ‹_›).symm
 ·split
  ·rw [rW J,p1 J];rfl
  ·rw [rW J,rW J,p1 J,Nat.div_div_eq_div_mul];rfl
def yf(e:UInt8)(a:Nat):Bytes:=27::91::(r0 a++[e])
def p8(e:UInt8)(a b:Nat):Bytes:=27::91::(r0 a++59::r0 b++[e])
theorem Jz{e:UInt8}{a:Nat}(h:a<1000):yf e a=hl [e] [a]:=by unfold yf;rw [ye h];rfl
theorem r1{e:UInt8}{a b:Nat}(h:a<1000)(ae:b<1000):p8 e a b=hl [e] [a,b]:=by unfold p8;rw [ye h,ye ae];rfl
def yg(r m:Nat):Bytes :=
 match (if m=2 then none else rT r)with
 |some c=>if m=4 then [c]else [27,c]
 |none=>p8 117 r (m+1)
noncomputable def oQ(r m:Nat):Bool:=okB (h6 Tryz.prog env 400 42 [.int .i32 (r:Nat),.int .u8 (m:Nat)] ⟨0,.nil⟩) (yg r m)
def yh(k m:Nat):Option Bytes :=
 if 1≤k∧k≤4 then
  if m=0 then some [u8 (nr k)]
  else if m=2∧k≠4 then some [27,u8 (nr k)]
  else if m=1∧k=2 then some [27,91,90]
  else some (p8 117 (nr k) (m+1))
 else match pZ k with
 |some c=>if m=0 then some [27,91,c]else some (p8 c 1 (m+1))
 |none =>
  if m=0∧21≤k∧k≤24 then some [27,79,u8 (80+(k-21))]
  else match ma k with
  |some n=>if m=0 then some (yf 126 n)else some (p8 126 n (m+1))
  |none=>none
noncomputable def r2(k m:Nat):Bool :=
 match yh k m with
 |some bs=>okB (h6 Tryz.prog env 400 43 [.int .i32 (k:Nat),.int .u8 (m:Nat)] ⟨0,.nil⟩) bs
 |none=>Jy (h6 Tryz.prog env 400 43 [.int .i32 (k:Nat),.int .u8 (m:Nat)] ⟨0,.nil⟩)
theorem JA:∀k:Fin 14,∀m:Fin 8,r2 (k.val+1) m.val=true:=by decide+kernel
theorem JB:∀k:Fin 6,∀m:Fin 8,r2 (k.val+21) m.val=true:=by decide+kernel
theorem JC:∀k:Fin 6,∀m:Fin 8,r2 (k.val+27) m.val=true:=by decide+kernel
theorem B6:∀r:Fin 48,oQ (r.val+32) 4=true∧oQ (r.val+32) 6=true:=by decide+kernel
theorem B7:∀r:Fin 47,oQ (r.val+80) 4=true∧oQ (r.val+80) 6=true:=by decide+kernel
theorem B8:oQ 91 2=true∧oQ 79 2=true:=by decide+kernel
def B9(f:FuncId)(H:I)(args:List R)(bs:Bytes):Prop :=
 ∃v aH j,bE f args H v aH∧dI aH j v bs∧H.U≤j∧∀x,x<H.U→aH.get x=H.get x
theorem B'{H:I}{y:Nat}(b:ai)(k:Nat)(bi:y<H.U+k):((⟨H.U+k,H.aB⟩:I).set y b).get y=some b:=I.eU _ _ _
theorem JD(H:I)(r:Nat)(hs:Keys.Scalar r):∃H1 H2,(∀F,aY F (.tmp 7)=.int .i32 (r:Nat)→bb env cz (H.U+2) (aY F) ⟨H.U+6,H.aB⟩ (Op.buildSlice 84 1 {toList:=[(0,Operand.tmp 7)]})=some (R.slice (some ⟨H.U+2,0,0,0,1⟩) 1 1,H1)) ∧
 bE 51 [.slice (some ⟨H.U+2,0,0,0,1⟩) 1 1] H1 (.str (put r)) H1 ∧
 (∀F,aY F (.tmp 9)=.str (put r)→dN env (H.U+4) (aY F) H1 (Op.convert 9 34 (Operand.tmp 9))=some (.slice (some ⟨H.U+4,0,0,0,1⟩) (put r).length (put r).length,H2)) ∧
 dI H2 (H.U+4) (.slice (some ⟨H.U+4,0,0,0,1⟩) (put r).length (put r).length) (put r)∧H2.U=H.U+6∧∀x,x<H.U→H2.get x=H.get x:=by
 have ho:((⟨H.U+6,H.aB⟩:I).set (H.U+2) (hQ r)).get (H.U+2)=some (hQ r):=I.eU _ _ _;have x6:(((⟨H.U+6,H.aB⟩:I).set (H.U+2) (hQ r)).set (H.U+4) (ai.aq (b5 (put r)) 1 false)).get (H.U+4)=some (ai.aq (b5 (put r)) 1 false):=I.eU _ _ _;refine⟨(⟨H.U+6,H.aB⟩:I).set (H.U+2) (hQ r),((⟨H.U+6,H.aB⟩:I).set (H.U+2) (hQ r)).set (H.U+4) (ai.aq (b5 (put r)) 1 false),fun F df=> ?_,B3 hs ho (by show H.U+2<H.U+6;omega),fun F df=> ?_,dI.aq (bs:=put r) x6 (by show H.U+4<H.U+6;omega) (fun _=> .inl rfl),rfl,fun x ac=> ?_⟩
 ·have an:∀(K:I)(y:Nat)(z:Int),ij (bq.D env) 84 1 [(0,.int .i32 z)] y K=some (.slice (some ⟨y,0,0,0,1⟩) 1 1,K.set y (ai.aq [.int .i32 z] 1 true)):=by intro K y z;kernel_rfl
  show ij (bq.D env) 84 1 [(0,aY F (.tmp 7))] _ _=_;rw [df];exact an _ _ _
 ·have aa:(bq.D env 9).map (fun d=>d.kind)=some .string:= aG;have ae:(bq.D env 34).map (fun d=>d.kind)=some (.slice 5):= aG;have aS:(bq.D env 5).map (fun d=>d.kind)=some (.int .u8):= aG;obtain⟨lS,d1,a7⟩:=Option.map_eq_some_iff.1 aa;obtain⟨sQ,d2,ba⟩:=Option.map_eq_some_iff.1 ae;obtain⟨s4,d3,cC⟩:=Option.map_eq_some_iff.1 aS;simp only [dN,df,nW,d1,a7,d2,ba,d3,cC];rfl
 ·rw [I.dZ _ _ J,I.dZ _ _ J];rfl
theorem Ca{F:a'}{nid a b:Nat}{H:I}{x y:Nat}(aD:aY F (.tmp a)=.int .i64 (x:Nat))(an:aY F (.tmp b)=.int .i64 (y:Nat)):bb env cz nid (aY F) H (Op.buildSlice 102 2 {toList:=[(0,Operand.tmp a),(1,Operand.tmp b)]})=some (.slice (some ⟨nid,0,0,0,1⟩) 2 2,H.set nid (p5 [x,y])):=by
 have eX:∀(K:I)(y:Nat)(z w:Int),ij (bq.D env) 102 2 [(0,.int .i64 z),(1,.int .i64 w)] y K=some (.slice (some ⟨y,0,0,0,1⟩) 2 2,K.set y (ai.aq [.int .i64 z,.int .i64 w] 1 true)):=by intro K y z w;kernel_rfl
 show ij (bq.D env) 102 2 [(0,aY F (.tmp a)),(1,aY F (.tmp b))] _ _=_;rw [aD,an];exact eX _ _ _ _
theorem Cb{H2:I}{r m k:Nat}(aR:r<10000000)(hm:m≤7):∃v cd j,bE 44 [.str [117],.slice (some ⟨k,0,0,0,1⟩) 2 2] ((⟨k+3,H2.aB⟩:I).set k (p5 [r,m+1])) v cd∧dI cd j v (hl [117] [r,m+1])∧k+3≤j∧∀x,x<k→cd.get x=H2.get x:=by obtain⟨v,cd,j,az,g,aW,aj⟩:=Jg (H:=(⟨k+3,H2.aB⟩:I).set k (p5 [r,m+1])) (q:=k) (c:=2) (l:=[r,m+1]) (e:=[117]) (I.eU _ _ _) (by show k<k+3;omega) a1 (by intro n aI;simp only [List.mem_cons,List.not_mem_nil,or_false]at aI;rcases aI with rfl|rfl<;>omega) a1 a1;refine⟨v,cd,j,az,g,aW,fun x ac=> ?_⟩;rw [aj x (by show x<k+3;omega),I.dZ _ _ J];rfl
theorem JE{r m:Nat}(hm:m≤7)(aR:r<1000)(h:m=4∨m=6∨(m=2∧(r=91∨r=79))):yg r m=iI r m:=by
 unfold yg iI;rw [if_neg (show ¬m=0 by omega)];by_cases ae:m=2
 ·rw [if_pos ae,if_neg J,if_neg J];exact r1 aR J
 ·rw [if_neg ae,if_neg J,if_pos (show m=4∨m=6 by omega)];cases rT r with
  |none=>exact r1 aR J
  |some c=>rfl
theorem JF(H:I){r m:Nat}(aR:shown r=true)(hm:m≤7):B9 42 H [.int .i32 (r:Nat),.int .u8 (m:Nat)] (iI r m):=by
 have e3:∀{a b:Nat}{p:Prop},a≤b→p→_root_.cond (Nat.ble a b) p False:=fun h k=>by rw [Nat.ble_eq.mpr h];exact k
 obtain⟨hs,kn,JG,_⟩:=nt aR;rw [show(r:Int).toNat=r by omega]at hs kn JG;have cI:=hs;unfold Keys.Scalar at cI;have Nu:=Im r;by_cases al:r<127∧(m=4∨m=6∨(m=2∧(r=91∨r=79)))
 ·
   have k:oQ r m=true:=by
    rcases al.2 with rfl|rfl|⟨rfl,rfl|rfl⟩
    ·rcases Nat.lt_or_ge r 80 with h|h
     ·have:=(B6 ⟨r-32,J⟩).1;simpa [Nat.sub_add_cancel kn]using this
     ·have:=(B7 ⟨r-80,J⟩).1;simpa [Nat.sub_add_cancel h]using this
    ·rcases Nat.lt_or_ge r 80 with h|h
     ·have:=(B6 ⟨r-32,J⟩).2;simpa [Nat.sub_add_cancel kn]using this
     ·have:=(B7 ⟨r-80,J⟩).2;simpa [Nat.sub_add_cancel h]using this
    ·exact B8.1
    ·exact B8.2
   have:=B5 k (fun a aD=>by
    simp only [List.mem_cons,List.not_mem_nil,or_false]at aD
    rcases aD with rfl|rfl<;>exact cO.int _ _) H
   rw [JE hm J al.2]at this;exact this
 obtain⟨H1,H2,an,bz,uj,g2,p4,kj⟩:=JD H r hs;by_cases a6:m=0
 ·subst a6
  obtain⟨v,af,az,rfl,rfl⟩:=Jj H H1 H2 r (H.U+2) (H.U+4) (put r).length (put r) (fun v af=>v=.slice (some ⟨H.U+4,0,0,0,1⟩) (put r).length (put r).length∧af=⟨H2.U+5,H2.aB⟩)
   (aQ (Nat.le_refl _) (aQ J ⟨an _ rfl,⟨bz⟩,uj _ rfl,aQ J (aQ J (e3 J ⟨rfl,rfl⟩))⟩))
  exact⟨_,_,_,az,g2.keep rfl (by show H2.U≤H2.U+5;omega),J,kj⟩
 ·by_cases ae:m=2∧r≠91∧r≠79
  ·obtain⟨rfl,JH,JI⟩:=ae;have mN:∀F,bb env cz (H2.U+14) (aY F) ⟨H2.U+18,H2.aB⟩ (Op.buildSlice 34 1 {toList:=[(0,Operand.const (Value.int .u8 (27)))]})=some (R.slice (some ⟨H2.U+14,0,0,0,1⟩) 1 1,(⟨H2.U+18,H2.aB⟩:I).set (H2.U+14) (ai.aq (b5 [27]) 1 true)):=by intro F;kernel_rfl
   have me:=B' (H:=H2) (y:=H2.U+14) (ai.aq (b5 [27]) 1 true) 18 J;have gU:∀x,x<H2.U→((⟨H2.U+18,H2.aB⟩:I).set (H2.U+14) (ai.aq (b5 [27]) 1 true)).get x=H2.get x:=fun x ac=>I.dZ _ _ J
   have gT:((⟨H2.U+18,H2.aB⟩:I).set (H2.U+14) (ai.aq (b5 [27]) 1 true)).U=H2.U+18:=rfl;generalize (⟨H2.U+18,H2.aB⟩:I).set (H2.U+14) (ai.aq (b5 [27]) 1 true)=bd at mN me gU gT;have g3:=g2.keep (gU _ g2.lt) J;obtain⟨v,cd,j,aD,g4,aW,Nv,r3⟩:=(dI.aq (bs:=[27]) me J (fun h=>by cases h)).fc (nid:=H2.U+16) g3.bc (IP r) (by simp only [List.length_cons,List.length_nil];omega) J
   obtain⟨w,af,az,rfl,rfl⟩:=Jk H H1 H2 bd cd r (H.U+2) (H.U+4) (H2.U+14) (put r).length (put r) v (fun w af=>w=v∧af=cd)
    (aQ (Nat.le_refl _) (aQ J ⟨an _ rfl,⟨bz⟩,uj _ rfl,aQ J (aQ J ⟨by simp;omega,by simp;omega,aQ J ⟨mN _,(x3 _ _ _ _).trans aD,e3 J ⟨rfl,rfl⟩⟩⟩)⟩))
   refine⟨_,_,j,az,?_,by rcases aW with h|h<;>omega,fun x ac=> ?_⟩
   ·have:iI r 2=[27]++put r:=by unfold iI;rw [if_neg cg,if_pos ⟨rfl,JH,JI⟩];rfl
    rw [this];exact g4
   ·rw [r3 x J J,gU x J];exact kj x ac
  ·by_cases oR:m=4∨m=6
   ·have Nw:127<r:= J;obtain⟨v,cd,j,d',g4,aW,r3⟩:=Cb (H2:=H2) (r:=r) (m:=m) (k:=H2.U+49) J hm;have oK:nc .u8 (m:Int) 2=4:=by rcases oR with rfl|rfl<;>decide+kernel
    obtain⟨w,af,az,rfl,rfl⟩:=Jm H H1 H2 _ cd r m (H.U+2) (H.U+4) (H2.U+49) (put r).length (put r) v (fun w af=>w=v∧af=cd)
     (aQ (Nat.le_refl _) (aQ J ⟨an _ rfl,⟨bz⟩,uj _ rfl,aQ J ⟨by simp;omega,aQ J ⟨by simp;omega,aQ J ⟨trivial,by rw [oK];rfl,aQ J (aQ J ⟨by simp;omega,aQ J ⟨by simp;omega,by simp;omega,aQ J ⟨by simp;omega,by simp;omega,aQ J ⟨J,J,J,Ca (x:=r) (y:=m+1) rfl (by rfl),⟨d'⟩,e3 (by have:=g4.lt;omega) ⟨rfl,rfl⟩⟩⟩⟩⟩)⟩⟩⟩⟩))
    refine⟨_,_,j,az,?_,J,fun x ac=> ?_⟩
    ·have:iI r m=hl [117] [r,m+1]:=by
      unfold iI;rw [if_neg a6,if_neg J,if_pos oR];have:rT r=none:=by unfold rT;rw [if_neg J,if_neg J,if_neg J]
      rw [this]
     rw [this];exact g4
    ·rw [r3 x J];exact kj x ac
   ·have sx:m≠2:= J;obtain⟨v,cd,j,d',g4,aW,r3⟩:=Cb (H2:=H2) (r:=r) (m:=m) (k:=H2.U+23) J hm
    have oK:nc .u8 (m:Int) 2≠4:=by have:m=1∨m=3∨m=5∨m=7:= J;rcases this with rfl|rfl|rfl|rfl<;>decide+kernel
    obtain⟨w,af,az,rfl,rfl⟩:=Jl H H1 H2 _ cd r m (H.U+2) (H.U+4) (H2.U+23) (put r).length (put r) v (fun w af=>w=v∧af=cd)
     (aQ (Nat.le_refl _) (aQ J ⟨an _ rfl,⟨bz⟩,uj _ rfl,aQ J ⟨by simp;omega,aQ J ⟨by simp;omega,aQ J ⟨trivial,by simp [oK],aQ J ⟨J,J,J,Ca (x:=r) (y:=m+1) rfl (by rfl),⟨d'⟩,e3 (by have:=g4.lt;omega) ⟨rfl,rfl⟩⟩⟩⟩⟩⟩))
    refine⟨_,_,j,az,?_,J,fun x ac=> ?_⟩
    ·have:iI r m=hl [117] [r,m+1]:=by unfold iI;rw [if_neg a6,if_neg J,if_neg oR]
     rw [this];exact g4
    ·rw [r3 x J];exact kj x ac
def JJ(f:FuncId)(H:I)(args:List R):Prop :=
 ∃aH,bE f args H (.slice none 0 0) aH∧H.U≤aH.U∧∀x,x<H.U→aH.get x=H.get x
theorem JK{f:FuncId}{args:List R}{v:R}{af:I}(az:bE f args (I.of []) v af)(aD:∀a∈args,cO a)(H:I) :
 ∃aH,bE f args H (v.be (fun i=>H.U+i)) aH∧aH.U=H.U+af.U∧(∀i b,af.get i=some b→aH.get (H.U+i)=some (b.be (fun i=>H.U+i)))∧∀x,x<H.U→aH.get x=H.get x:=by
 obtain⟨aH,gq,mc,fo,j8⟩:=az.place a1 (fun b an=>by cases an) (rl.2 fun a h=>(aD a h).ha _) (H:=H) [] List.nodup_nil (fun j aW=>by cases aW) rfl (fun i b h=>by simp at h);have r:(er [] H.U)=fun i=>H.U+i:=by funext i;rw [nk a1];simp
 have fk:args.map (R.be (er [] H.U))=args:=by
  conv=>rhs;rw [←List.map_id args]
  exact List.map_congr_left fun e he=>(aD e he).1 _
 rw [fk,r]at gq;rw [r]at fo;refine⟨aH,gq,by rw [mc];simp,?_,fun x ac=>j8 x ac a1⟩;intro i b an;have:=fo i b an;exact this
theorem dI.place{af aH:I}{j n:Nat}{v:R}{bs:Bytes}(g:dI af j v bs)(aI:aH.U=n+af.U)(ah:∀i b,af.get i=some b→aH.get (n+i)=some (b.be (fun i=>n+i))):dI aH (n+j) (v.be (fun i=>n+i)) bs:=by
 obtain⟨b,rfl,ae,aS,bj,cb⟩:=g.ex
 have og:iD b:=by intro e he;rw [bj]at he;exact BO bs e he
 have ay:=g.lt;have k:=ah j b ae;rw [og.be]at k;exact⟨⟨b,rfl,k,aS,bj,cb⟩,J⟩
end Go.Proofs.YtddnafghiejcoaaGreatDoor
namespace Go.Keys
open Go.Lib
theorem JL{k n:Nat}(h:ma k=some n):tV n=k∧0<k∧n≤24:=by
 have go:∀k:Fin 33,∀n:Fin 25,ma k.val=some n.val→tV n.val=k.val∧0<k.val:= cg
 have ap:k<33∧n<25:=by
  unfold ma at h
  repeat' split at h
  all_goals first|(cases h;done)|(simp only [Option.some.injEq]at h;omega)
 have:=go ⟨k,ap.1⟩ ⟨n,ap.2⟩ h;exact⟨this.1,this.2,J⟩
end Go.Keys
namespace Go.Keys
end Go.Keys
namespace Go.Keys
end Go.Keys
namespace Go.Keys
theorem JM:∀k:Fin 33,∀m:Fin 8,(1≤k.val∧k.val≤14∨21≤k.val)→(iJ k.val m.val).isSome=true:= cg
end Go.Keys
namespace Go.Proofs.YtddnafghiejcoaaGreatDoor
open Go.bh Go.Keys
set_option maxRecDepth 1000000
theorem JN(k:Nat):nr k<1000:=by unfold nr;split<;>(try split)<;>(try split)<;>omega
theorem JO{k m:Nat}(hm:m≤7):yh k m=iJ k m:=by
 unfold yh iJ;by_cases h:1≤k∧k≤4
 ·rw [if_pos h,if_pos h,r1 (JN k) J];rfl
 ·rw [if_neg h,if_neg h];cases aD:pZ k with
  |some c=>simp only;rw [r1 cg J];rfl
  |none =>
   simp only;cases aI:ma k with
   |none=>rfl
   |some n =>
    have:=(JL aI).2.2;simp only;rw [Jz J,r1 J J]
theorem JP{h:I}{q i:Nat}{l:Bytes}{e:Bool}{ty:l8}(ah:h.get q=some (ai.aq (b5 l) 1 e ty))(ag:i<l.length):bp (bq.D env) 5 ⟨q,0,0+i,0,1⟩ h=some (.int .u8 (l[i].toNat:Nat)):=by have bt:(bq.D env 5).map (fun d=>d.kind.isAgg)=some false:= aG;obtain⟨x,aa,ae⟩:=Option.map_eq_some_iff.1 bt;unfold bp;rw [aa,ah];simp [ai.elem?,ai.bL,gK,ae,ai.aq,ag,b5]
def jK:Bytes:=[65,66,67,68,72,70]
theorem JQ:∀i:Fin 6,5≤nn ((jK[i.val]'(by exact i.isLt)).toNat:Int)∧nn ((jK[i.val]'(by exact i.isLt)).toNat:Int)≤10:= cg
theorem JR:∀i:Fin 25,kd (i.val:Int)=0∨(9≤kd (i.val:Int)∧kd (i.val:Int)≤14)∨(21≤kd (i.val:Int)∧kd (i.val:Int)≤32):= cg
def jk(k:Int):Prop:= ¬(1≤k∧k≤14)∧¬(21≤k∧k≤32)
abbrev uk(k:Int)(m q i:Nat):a':=[(0,.int .i32 k),(1,.int .u8 (m:Nat)),(5,.int .i64 ((m:Int)+1)),(52,.slice (some ⟨q,0,0,0,1⟩) 6 6),(53,.int .i64 6),(54,.int .i64 (i:Nat))]
theorem JS{B q m:Nat}{k:Int}(ap:jk k):∀(t i:Nat)(H:I),6-i≤t→i≤6→B≤H.U→H.get q=some (ai.aq (b5 jK) 1 true) →
 ∃n hn,eP B 111 (bw 43 0) (uk k m q i) H (.exit 1) [(0,.int .i32 k),(1,.int .u8 (m:Nat)),(5,.int .i64 ((m:Int)+1)),(52,.slice (some ⟨q,0,0,0,1⟩) 6 6),(53,.int .i64 6),(54,hn)] ⟨H.U+n,H.aB⟩:=by
 intro t
 have fin:∀(H:I),B≤H.U→ ∃n hn,eP B 111 (bw 43 0) (uk k m q 6) H (.exit 1) [(0,.int .i32 k),(1,.int .u8 (m:Nat)),(5,.int .i64 ((m:Int)+1)),(52,.slice (some ⟨q,0,0,0,1⟩) 6 6),(53,.int .i64 6),(54,hn)] ⟨H.U+n,H.aB⟩:=by intro H b';obtain⟨e,aA,aa,aR,rfl,rfl,rfl⟩:=B0 H B q 6 0 k m (fun e aA aa=>e=.exit 1∧aA=uk k m q 6∧aa=⟨H.U+1,H.aB⟩) (aQ b' ⟨fun h=>absurd h J,fun _=>⟨rfl,rfl,rfl⟩⟩);exact⟨1,_,b8.last a1 aR⟩
 induction t with
 |zero =>
  intro i H bz ag b' _;obtain rfl:i=6:= J;exact fin H b'
 |succ t ih =>
  intro i H bz ag b' ah;by_cases cS:i<6
  ·have hlen:jK.length=6:=rfl;have aD:=JQ ⟨i,cS⟩;simp only at aD
   have lW:bp (bq.D env) 5 ⟨q,0,0+Int.toNat (i:Int),0,1⟩ ⟨H.U+4,H.aB⟩=some (.int .u8 ((jK[i]' J).toNat:Nat)):=by rw [Int.toNat_natCast];exact JP (h:=⟨H.U+4,H.aB⟩) ah J
   have bJ:(nn ((jK[i]' J).toNat:Int) != k)=true:=by unfold jk at ap;simp only [bne_iff_ne,ne_eq];omega
   obtain⟨e,aA,aa,aR,rfl,rfl,rfl⟩:=B0 H B q i (jK[i]' J).toNat k m (fun e aA aa=>e=.normal∧aA=uk k m q (i+1)∧aa=⟨H.U+10,H.aB⟩)
    (aQ b' ⟨fun _=>aQ J ⟨⟨J,J⟩,lW,aQ J ⟨by rw [bJ],aQ J ⟨⟨J,J⟩,rfl,by rw [show((i:Int)+1)=((i+1:Nat):Int)by omega],rfl⟩⟩⟩,fun h=>absurd h J⟩)
   obtain⟨n,hn,ca⟩:=ih (i+1) ⟨H.U+10,H.aB⟩ J J (by show B≤H.U+10;omega) ah;exact⟨10+n,hn,by rw [←Nat.add_assoc];exact b8.step aR ca⟩
  ·obtain rfl:i=6:= J;exact fin H b'
abbrev p9(k:Int)(m i:Nat):a':=[(0,.int .i32 k),(1,.int .u8 (m:Nat)),(5,.int .i64 ((m:Int)+1)),(9,.int .i64 (i:Nat))]
theorem JT{B m:Nat}{k:Int}(ap:jk k):∀(t i:Nat)(H:I),25-i≤t→i≤25→B≤H.U →
 ∃n,eP B 111 (bw 43 1) (p9 k m i) H (.exit 3) (p9 k m 25) ⟨H.U+n,H.aB⟩:=by
 intro t
 have fin:∀(H:I),B≤H.U→ ∃n,eP B 111 (bw 43 1) (p9 k m 25) H (.exit 3) (p9 k m 25) ⟨H.U+n,H.aB⟩:=by intro H b';obtain⟨e,aA,aa,aR,rfl,rfl,rfl⟩:=B2 H B 25 k m (fun e aA aa=>e=.exit 3∧aA=p9 k m 25∧aa=⟨H.U+2,H.aB⟩) (aQ b' ⟨fun h=>absurd h J,fun _=>⟨rfl,rfl,rfl⟩⟩);exact⟨2,b8.last a1 aR⟩
 induction t with
 |zero =>
  intro i H bz ag b';obtain rfl:i=25:= J;exact fin H b'
 |succ t ih =>
  intro i H bz ag b';by_cases cS:i<25
  ·have aD:=JR ⟨i,cS⟩;simp only at aD;have eY:((i:Int)+1)=((i+1:Nat):Int):= J
   obtain⟨e,aA,aa,aR,rfl,rfl,rfl⟩:=B2 H B i k m (fun e aA aa=>e=.normal∧aA=p9 k m (i+1)∧aa=⟨H.U+13,H.aB⟩)
    (aQ b' ⟨fun _=>aQ J ⟨fun a6=>⟨by
     have:(kd (i:Int) == k)=false:=by unfold jk at ap;rw [beq_eq_false_iff_ne];omega
     rw [this],aQ J ⟨⟨J,J⟩,rfl,by rw [eY],rfl⟩⟩,fun a6=>aQ J ⟨⟨J,J⟩,rfl,by rw [eY],rfl⟩⟩,fun h=>absurd J h⟩)
   obtain⟨n,ca⟩:=ih (i+1) ⟨H.U+13,H.aB⟩ J J (by show B≤H.U+13;omega);exact⟨13+n,by rw [←Nat.add_assoc];exact b8.step aR ca⟩
  ·obtain rfl:i=25:= J;exact fin H b'
theorem JU(H:I){k:Int}{m:Nat}(ap:jk k)(hm:m≤7):JJ 43 H [.int .i32 k,.int .u8 (m:Nat)]:=by
 have e3:∀{a b:Nat}{p:Prop},a≤b→p→_root_.cond (Nat.ble a b) p False:=fun h k=>by rw [Nat.ble_eq.mpr h];exact k
 have p7:∀F,bb env cz (H.U+11) (aY F) ⟨H.U+15,H.aB⟩ (Op.buildSlice 34 6 {toList:=[(0,Operand.const (Value.int .u8 (65))),(1,Operand.const (Value.int .u8 (66))),(2,Operand.const (Value.int .u8 (67))),(3,Operand.const (Value.int .u8 (68))),(4,Operand.const (Value.int .u8 (72))),(5,Operand.const (Value.int .u8 (70)))]})=some (R.slice (some ⟨H.U+11,0,0,0,1⟩) 6 6,(⟨H.U+15,H.aB⟩:I).set (H.U+11) (ai.aq (b5 jK) 1 true)):=by intro F;kernel_rfl
 have ho:=B' (H:=H) (y:=H.U+11) (ai.aq (b5 jK) 1 true) 15 J;have km:∀x,x<H.U→((⟨H.U+15,H.aB⟩:I).set (H.U+11) (ai.aq (b5 jK) 1 true)).get x=H.get x:=fun x ac=>I.dZ _ _ J
 have oP:((⟨H.U+15,H.aB⟩:I).set (H.U+11) (ai.aq (b5 jK) 1 true)).U=H.U+15:=rfl;generalize (⟨H.U+15,H.aB⟩:I).set (H.U+11) (ai.aq (b5 jK) 1 true)=H1 at p7 ho km oP;obtain⟨n,hn,ca⟩:=JS (B:=H.U) (m:=m) ap 6 0 H1 J J J ho;obtain⟨dn,jl⟩:=JT (B:=H.U) (m:=m) ap 23 2 ⟨H1.U+n+11,H1.aB⟩ J J (by show H.U≤H1.U+n+11;omega);have aj:∀(K:Nat) x,x<H.U→(⟨H1.U+n+11+dn+K,H1.aB⟩:I).get x=H.get x:=fun K x ac=>km x ac
 unfold jk at ap;by_cases a6:k<1
 ·obtain⟨v,af,az,rfl,rfl⟩:=Jn H H1 ⟨H1.U+n,H1.aB⟩ ⟨H1.U+n+11+dn,H1.aB⟩ (H.U+11) m k hn (fun v af=>v=.slice none 0 0∧af=⟨H1.U+n+11+dn+1,H1.aB⟩)
   (aQ (Nat.le_refl _) (aQ J ⟨J,J,aQ J ⟨by simp;omega,aQ J ⟨p7 _,x' rfl ho rfl rfl cg,cQ.ei ca,aQ (by show H.U≤H1.U+n;omega) ⟨fun _=>⟨by simp;omega,aQ (by show H.U≤H1.U+n+10;omega) ⟨cQ.ei jl,aQ (by show H.U≤H1.U+n+11+dn;omega) (e3 (by show H.U≤H1.U+n+11+dn+1;omega) ⟨rfl,rfl⟩)⟩⟩,fun _=>aQ (by show H.U≤H1.U+n+10;omega) ⟨cQ.ei jl,aQ (by show H.U≤H1.U+n+11+dn;omega) (e3 (by show H.U≤H1.U+n+11+dn+1;omega) ⟨rfl,rfl⟩)⟩⟩⟩⟩⟩))
  exact⟨_,az,by show H.U≤H1.U+n+11+dn+1;omega,aj 1⟩
 ·obtain⟨v,af,az,rfl,rfl⟩:=Jo H H1 ⟨H1.U+n,H1.aB⟩ ⟨H1.U+n+11+dn,H1.aB⟩ (H.U+11) m k hn (fun v af=>v=.slice none 0 0∧af=⟨H1.U+n+11+dn+1,H1.aB⟩)
   (aQ (Nat.le_refl _) (aQ J ⟨J,J,aQ J ⟨by simp;omega,by simp;omega,aQ J ⟨p7 _,x' rfl ho rfl rfl cg,cQ.ei ca,aQ (by show H.U≤H1.U+n;omega) ⟨fun _=>⟨fun iL=>⟨by simp;omega,aQ (by show H.U≤H1.U+n+10;omega) ⟨cQ.ei jl,aQ (by show H.U≤H1.U+n+11+dn;omega) (e3 (by show H.U≤H1.U+n+11+dn+1;omega) ⟨rfl,rfl⟩)⟩⟩,fun iL=>aQ (by show H.U≤H1.U+n+10;omega) ⟨cQ.ei jl,aQ (by show H.U≤H1.U+n+11+dn;omega) (e3 (by show H.U≤H1.U+n+11+dn+1;omega) ⟨rfl,rfl⟩)⟩⟩,fun _=>aQ (by show H.U≤H1.U+n+10;omega) ⟨cQ.ei jl,aQ (by show H.U≤H1.U+n+11+dn;omega) (e3 (by show H.U≤H1.U+n+11+dn+1;omega) ⟨rfl,rfl⟩)⟩⟩⟩⟩⟩))
  exact⟨_,az,by show H.U≤H1.U+n+11+dn+1;omega,aj 1⟩
theorem JV(H:I){k m:Nat}(ap:¬jk k)(hm:m≤7):∃b,iJ k m=some b∧B9 43 H [.int .i32 (k:Nat),.int .u8 (m:Nat)] b:=by
 have aR:r2 k m=true:=by
  unfold jk at ap;by_cases aa:k≤14
  ·have:=JA ⟨k-1,J⟩ ⟨m,J⟩;simpa [Nat.sub_add_cancel (show 1≤k by omega)]using this
  ·by_cases ae:k<27
   ·have:=JB ⟨k-21,J⟩ ⟨m,J⟩;simpa [Nat.sub_add_cancel (show 21≤k by omega)]using this
   ·have:=JC ⟨k-27,J⟩ ⟨m,J⟩;simpa [Nat.sub_add_cancel (show 27≤k by omega)]using this
 unfold r2 at aR;rw [JO hm]at aR
 have JW:(iJ k m).isSome=true:=by unfold jk at ap;exact JM ⟨k,J⟩ ⟨m,J⟩ (by simp only;omega)
 obtain⟨b,an⟩:=Option.isSome_iff_exists.1 JW;rw [an]at aR
 exact⟨b,an,B5 aR (fun a aD=>by
  simp only [List.mem_cons,List.not_mem_nil,or_false]at aD
  rcases aD with rfl|rfl<;>exact cO.int _ _) H⟩
theorem JX{k m:Nat}(ap:jk k):iJ k m=none:=by
 unfold jk at ap;unfold iJ;rw [if_neg J];have aa:pZ k=none:=by unfold pZ;rw [if_neg J,if_neg J,if_neg J]
 rw [aa];simp only;rw [if_neg J];have ae:ma k=none:=by unfold ma;rw [if_neg J,if_neg J,if_neg J,if_neg J,if_neg J]
 rw [ae]
end Go.Proofs.YtddnafghiejcoaaGreatDoor
namespace Go.Proofs.YtddnafghiejcoaaGreatDoor
open Go.bh Go.Keys Go.Shelf
set_option maxRecDepth 1000000
end Go.Proofs.YtddnafghiejcoaaGreatDoor
namespace Go.Keys
end Go.Keys
namespace Go.Proofs.YtddnafghiejcoaaGreatDoor
open Go.bh Go.Keys
set_option maxRecDepth 1000000
def jL(e:b1)(v:R)(af:I):Prop :=
 ∃w c,v=.tuple [w,.int .i64 c]∧((∃bs j,enc e=some bs∧c=0∧dI af j w bs)∨(enc e=none∧c=220∧w=.slice none 0 0))
theorem jL.new{e:b1}{w:R}{H:I}{j k:Nat}{bs:Bytes}(he:enc e=some bs)(g:dI H j w bs):jL e (.tuple [w,.int .i64 0]) ⟨H.U+k,H.aB⟩:=⟨_,_,rfl,.inl ⟨bs,j,he,rfl,g.keep rfl (by show H.U≤H.U+k;omega)⟩⟩
theorem jL.nil{e:b1}{af:I}(he:enc e=none):jL e (.tuple [.slice none 0 0,.int .i64 220]) af:=⟨_,_,rfl,.inr ⟨he,rfl,rfl⟩⟩
abbrev Cc:FuncId:=21
def mf(e:b1):Prop:= ∃v af,bE Cc [cc e] (I.of []) v af∧jL e v af
theorem JY{e:b1}(ap:e.kind≠3)(hm:7<e.dH):enc e=none:=by unfold enc;rw [if_neg ap,if_pos hm]
theorem JZ{e:b1}(ap:e.kind≠3)(hm:7<e.dH):mf e:=by obtain⟨v,af,az,rfl,_⟩:=Jp e.kind e.code e.dH e.x e.y e.text (fun v af=>v=.tuple [.slice none 0 0,.int .i64 220]∧True) ⟨by simp [ap],by simp;omega,rfl,trivial⟩;exact⟨_,_,az,jL.nil (JY ap hm)⟩
theorem p'{m:Int}(h:¬7<m):some (R.bool (decide (m>7)))=some (R.bool false):=by simp;omega
theorem J0{c m:Int}(a6:0≤m)(hm:¬7<m):mf ⟨1,c,m,0,0,[]⟩:=by
 by_cases hs:shown c=true
 ·have al:=(nt hs).2.2.2;have iY:((m.toNat:Nat):Int)=m:=Int.toNat_of_nonneg a6;have he:enc ⟨1,c,m,0,0,[]⟩=some (iI c.toNat m.toNat):=by unfold enc;rw [if_neg a1,if_neg hm,if_pos ⟨rfl,rfl,hs⟩]
  obtain⟨w,H,j,ay,g,_,_⟩:=JF (I.ak 39 [(0,ai.aq [aU 1 c m 0 0 []] 6 true (some (42,6))),(4,ai.aq [aU 1 0 0 0 0 []] 6 true (some (42,6)))]) (r:=c.toNat) (m:=m.toNat) (by rw [al];exact hs) J;rw [al,iY]at ay;obtain⟨b,rfl,_⟩:=g.ex;have hF:=xY c (I.ak 33 [(0,ai.aq [aU 1 c m 0 0 []] 6 true (some (42,6))),(4,ai.aq [aU 1 0 0 0 0 []] 6 true (some (42,6)))]);rw [hs]at hF;obtain⟨v,af,az,rfl,rfl⟩:=Jq H c m ⟨j,b.bf,0,0,1⟩ (iI c.toNat m.toNat).length (fun v af=>v=.tuple [.slice (some ⟨j,b.bf,0,0,1⟩) (iI c.toNat m.toNat).length (iI c.toNat m.toNat).length,.int .i64 0]∧af=⟨H.U+5,H.aB⟩) ⟨p' hm,⟨hF⟩,⟨ay⟩,rfl,rfl⟩;exact⟨_,_,az,jL.new he g⟩
 ·have he:enc ⟨1,c,m,0,0,[]⟩=none:=by unfold enc;rw [if_neg a1,if_neg hm,if_neg (fun q=>hs q.2.2),if_neg (fun q=>absurd q.1 a1),if_neg a1,if_neg a1,if_neg (fun q=>absurd q.1 a1),if_neg (fun q=>absurd q.1 a1)]
  have hF:=xY c (I.ak 33 [(0,ai.aq [aU 1 c m 0 0 []] 6 true (some (42,6))),(4,ai.aq [aU 1 0 0 0 0 []] 6 true (some (42,6)))]);rw [Bool.eq_false_iff.2 hs]at hF;obtain⟨v,af,az,rfl,_⟩:=Js c m (fun v af=>v=.tuple [.slice none 0 0,.int .i64 220]∧True) ⟨p' hm,⟨hF⟩,rfl,trivial⟩;exact⟨_,_,az,jL.nil he⟩
theorem J1{c m x y:Int}{t:Bytes}(hm:¬7<m)(ab:¬(x=0∧y=0∧t=[])):mf ⟨1,c,m,x,y,t⟩:=by
 have he:enc ⟨1,c,m,x,y,t⟩=none:=by unfold enc;rw [if_neg a1,if_neg hm,if_neg (fun q=>ab (by have:=q.2.1;simp only [p0,Bool.and_eq_true,decide_eq_true_eq]at this;exact⟨this.1.1,this.1.2,this.2⟩)),if_neg (fun q=>absurd q.1 a1),if_neg a1,if_neg a1,if_neg (fun q=>absurd q.1 a1),if_neg (fun q=>absurd q.1 a1)]
 obtain⟨v,af,az,rfl,_⟩:=Jr c m x y t (fun v af=>v=.tuple [.slice none 0 0,.int .i64 220]∧True) ⟨p' hm,by simpa using ab,rfl,trivial⟩;exact⟨_,_,az,jL.nil he⟩
theorem Cd{c m:Int}(hm:¬7<m):enc ⟨2,c,m,0,0,[]⟩=if 0≤c then iJ c.toNat m.toNat else none:=by unfold enc;rw [if_neg a1,if_neg hm,if_neg (fun q=>absurd q.1 a1),if_pos ⟨rfl,rfl⟩]
theorem J2{c m:Int}(a6:0≤m)(hm:¬7<m):mf ⟨2,c,m,0,0,[]⟩:=by
 have iY:((m.toNat:Nat):Int)=m:=Int.toNat_of_nonneg a6;by_cases ap:jk c
 ·have he:enc ⟨2,c,m,0,0,[]⟩=none:=by
   rw [Cd hm];split
   ·rename_i c0;exact JX (by rw [Int.toNat_of_nonneg c0];exact ap)
   ·rfl
  obtain⟨H,ay,_,_⟩:=JU (I.ak 48 [(0,ai.aq [aU 2 c m 0 0 []] 6 true (some (42,6))),(4,ai.aq [aU 2 0 0 0 0 []] 6 true (some (42,6)))]) (m:=m.toNat) ap J;rw [iY]at ay;obtain⟨v,af,az,rfl,_⟩:=Ju H c m (fun v af=>v=.tuple [.slice none 0 0,.int .i64 220]∧True) ⟨p' hm,⟨ay⟩,rfl,trivial⟩;exact⟨_,_,az,jL.nil he⟩
 ·have c0:0≤c:=by unfold jk at ap;omega
  have al:((c.toNat:Nat):Int)=c:=Int.toNat_of_nonneg c0;obtain⟨bs,an,w,H,j,ay,g,_,_⟩:=JV (I.ak 48 [(0,ai.aq [aU 2 c m 0 0 []] 6 true (some (42,6))),(4,ai.aq [aU 2 0 0 0 0 []] 6 true (some (42,6)))]) (k:=c.toNat) (m:=m.toNat) (by rw [al];exact ap) J;rw [al,iY]at ay;have he:enc ⟨2,c,m,0,0,[]⟩=some bs:=by rw [Cd hm,if_pos c0,an]
  obtain⟨b,rfl,_⟩:=g.ex;obtain⟨v,af,az,rfl,rfl⟩:=Jt H c m ⟨j,b.bf,0,0,1⟩ bs.length (fun v af=>v=.tuple [.slice (some ⟨j,b.bf,0,0,1⟩) bs.length bs.length,.int .i64 0]∧af=⟨H.U+5,H.aB⟩) ⟨p' hm,⟨ay⟩,rfl,rfl⟩;exact⟨_,_,az,jL.new he g⟩
theorem J3{c m x y:Int}{t:Bytes}(hm:¬7<m)(ab:¬(x=0∧y=0∧t=[])):mf ⟨2,c,m,x,y,t⟩:=by
 have he:enc ⟨2,c,m,x,y,t⟩=none:=by unfold enc;rw [if_neg a1,if_neg hm,if_neg (fun q=>absurd q.1 a1),if_neg (fun q=>ab (by have:=q.2;simp only [p0,Bool.and_eq_true,decide_eq_true_eq]at this;exact⟨this.1.1,this.1.2,this.2⟩)),if_neg a1,if_neg a1,if_neg (fun q=>absurd q.1 a1),if_neg (fun q=>absurd q.1 a1)]
 obtain⟨v,af,az,rfl,_⟩:=Jv c m x y t (fun v af=>v=.tuple [.slice none 0 0,.int .i64 220]∧True) ⟨p' hm,by simpa using ab,rfl,trivial⟩;exact⟨_,_,az,jL.nil he⟩
abbrev bo(e:R):ai:=ai.aq [e] 6 true (some (42,6))
theorem J4{h:I}{x:Nat}{k c m y z:Int}{t:Bytes}(e:h.get x=some (bo (aU k c m y z t))):bp (bq.D env) 42 ⟨x,0,0,0,6⟩ h=some (aU k c m y z t):=by have bt:(bq.D env 42).map (fun d=>(d.kind.isAgg,d.size))=some (true,6):= aG;obtain⟨x,aa,ae⟩:=Option.map_eq_some_iff.1 bt;simp only [Prod.mk.injEq]at ae;unfold bp;rw [aa,e];simp [ai.elem?,ai.bL,gK,ae.1,ae.2,ai.aq]
theorem hk.aq{K eR:I}(aI:K.U≤eR.U)(aj:∀x,x<K.U→eR.get x=K.get x)(c:Nat→Nat)(k:Nat):hk K eR c (fun x=>if x<K.U then c x else k) []:=⟨aI,fun x ac _=>aj x ac,fun x ac _=>if_pos ac⟩
theorem J5{e:b1}(a6:0≤e.dH)(ap:e.kind=1∨e.kind=2):mf e:=by
 obtain⟨k,c,m,x,y,t⟩:=e;simp only at a6 ap;by_cases hm:7<m
 ·have aS:k≠3:= J;exact JZ aS hm
 rcases ap with rfl|rfl
 ·by_cases ab:x=0∧y=0∧t=[]
  ·obtain⟨rfl,rfl,rfl⟩:=ab;exact J0 a6 hm
  ·exact J1 hm ab
 ·by_cases ab:x=0∧y=0∧t=[]
  ·obtain⟨rfl,rfl,rfl⟩:=ab;exact J2 a6 hm
  ·exact J3 hm ab
theorem J6(H:I){e:b1}(aD:mf e) :
 ∃w c aH,bE Cc [cc e] H (.tuple [w,.int .i64 c]) aH∧H.U≤aH.U∧(∀x,x<H.U→aH.get x=H.get x)∧((∃bs j,enc e=some bs∧c=0∧dI aH j w bs∧H.U≤j)∨(enc e=none∧c=220∧w=.slice none 0 0)):=by
 obtain⟨v,af,az,w,c,rfl,av⟩:=aD;obtain⟨aH,gq,aI,ah,aj⟩:=JK az (fun a aD=>by rw [List.mem_singleton.1 aD];exact cO.of rfl) H;rcases av with ⟨bs,j,bY,rfl,g⟩|⟨bY,rfl,rfl⟩
 ·exact⟨_,_,aH,gq,J,aj,.inl ⟨bs,H.U+j,bY,rfl,g.place aI ah,J⟩⟩
 ·exact⟨_,_,aH,gq,J,aj,.inr ⟨bY,rfl,rfl⟩⟩
abbrev gd:R:= .agg [.str [99,116,114,108,43],.str [97,108,116,43],.str [115,104,105,102,116,43]]
abbrev fG:R:=R.str [115,104,105,102,116,43]
abbrev qa(H:I):I:=(I.mk (H.U+5+6) (I.aB (I.mk (H.U+1+4) (I.aB (I.mk (H.U+1) (I.aB H))))))
abbrev k9:R:=R.agg [.str [99,116,114,108,43],.str [97,108,116,43],fG]
theorem Ce(H:I)(B p:Nat)(s:Bytes)(m:Int)(ad:ch→a'→I→Prop)(aP:aV B (H.U) (aV B (H.U+1) (aV B (H.U+5) (bp env.D 5 ⟨p,0,0,2,6⟩ (I.mk (H.U+11) (H.2))=some (.int .u8 m)∧p<H.U+5∧True∧(bB .u8 m (4)=0→aV B (H.U+11) (ad .normal [(1,.ptr (aC p)),(6,.str s),(26,k9),(27,.int .i64 1)] (I.mk (H.U+11+2) (I.aB (qa H)))))∧(¬bB .u8 m (4)=0→aV B (H.U+11) (Nat.le (Nat.succ (List.length s+List.length [(99:UInt8),(116:UInt8),(114:UInt8),(108:UInt8),(43:UInt8)])) (2^62)∧aV B (H.U+15) (ad .normal [(1,.ptr (aC p)),(6,.str (s++[(99:UInt8),(116:UInt8),(114:UInt8),(108:UInt8),(43:UInt8)])),(26,k9),(27,.int .i64 1)] (I.mk (H.U+15+2) (I.aB (I.mk (H.U+11+4) (I.aB (qa H)))))))))))) :
 ∃e aA aa,bK B 89 (bw 23 0) [(1,.ptr (aC p)),(6,.str s),(26,gd),(27,.int .i64 0)] H e aA aa∧ad e aA aa :=
 eB dB mixed cP (hs:= .ao (.l2 8001 (.int .u8 m)) (ah 8004 (.aO 8005 .nil (ah 9002 .nil)))) (keep:=[1,6,26,27]) aG aP
theorem Cf(H:I)(B p:Nat)(s:Bytes)(m:Int)(ad:ch→a'→I→Prop)(aP:aV B (H.U) (aV B (H.U+1) (aV B (H.U+5) (bp env.D 5 ⟨p,0,0,2,6⟩ (I.mk (H.U+11) (H.2))=some (.int .u8 m)∧p<H.U+5∧True∧(bB .u8 m (2)=0→aV B (H.U+11) (ad .normal [(1,.ptr (aC p)),(6,.str s),(26,k9),(27,.int .i64 2)] (I.mk (H.U+11+2) (I.aB (qa H)))))∧(¬bB .u8 m (2)=0→aV B (H.U+11) (Nat.le (Nat.succ (List.length s+List.length [(97:UInt8),(108:UInt8),(116:UInt8),(43:UInt8)])) (2^62)∧aV B (H.U+15) (ad .normal [(1,.ptr (aC p)),(6,.str (s++[(97:UInt8),(108:UInt8),(116:UInt8),(43:UInt8)])),(26,k9),(27,.int .i64 2)] (I.mk (H.U+15+2) (I.aB (I.mk (H.U+11+4) (I.aB (qa H)))))))))))) :
 ∃e aA aa,bK B 89 (bw 23 0) [(1,.ptr (aC p)),(6,.str s),(26,gd),(27,.int .i64 1)] H e aA aa∧ad e aA aa :=
 eB dB mixed cP (hs:= .ao (.l2 8001 (.int .u8 m)) (ah 8004 (.aO 8005 .nil (ah 9002 .nil)))) (keep:=[1,6,26,27]) aG aP
theorem Cg(H:I)(B p:Nat)(s:Bytes)(m:Int)(ad:ch→a'→I→Prop)(aP:aV B (H.U) (aV B (H.U+1) (aV B (H.U+5) (bp env.D 5 ⟨p,0,0,2,6⟩ (I.mk (H.U+11) (H.2))=some (.int .u8 m)∧p<H.U+5∧True∧(bB .u8 m (1)=0→aV B (H.U+11) (ad .normal [(1,.ptr (aC p)),(6,.str s),(26,k9),(27,.int .i64 3)] (I.mk (H.U+11+2) (I.aB (qa H)))))∧(¬bB .u8 m (1)=0→aV B (H.U+11) (Nat.le (Nat.succ (List.length s+List.length [(115:UInt8),(104:UInt8),(105:UInt8),(102:UInt8),(116:UInt8),(43:UInt8)])) (2^62)∧aV B (H.U+15) (ad .normal [(1,.ptr (aC p)),(6,.str (s++[(115:UInt8),(104:UInt8),(105:UInt8),(102:UInt8),(116:UInt8),(43:UInt8)])),(26,k9),(27,.int .i64 3)] (I.mk (H.U+15+2) (I.aB (I.mk (H.U+11+4) (I.aB (qa H)))))))))))) :
 ∃e aA aa,bK B 89 (bw 23 0) [(1,.ptr (aC p)),(6,.str s),(26,gd),(27,.int .i64 2)] H e aA aa∧ad e aA aa :=
 eB dB mixed cP (hs:= .ao (.l2 8001 (.int .u8 m)) (ah 8004 (.aO 8005 .nil (ah 9002 .nil)))) (keep:=[1,6,26,27]) aG aP
theorem J7(H:I)(B p:Nat)(s:Bytes)(ad:ch→a'→I→Prop)(aP:aV B (H.U) (ad (.exit 0) [(1,.ptr (aC p)),(6,.str s),(26,k9),(27,.int .i64 3)] (I.mk (H.U+1) (I.aB H)))) :
 ∃e aA aa,bK B 89 (bw 23 0) [(1,.ptr (aC p)),(6,.str s),(26,gd),(27,.int .i64 3)] H e aA aa∧ad e aA aa :=
 eB dB mixed cP (hs:= .nil) (keep:=[1,6,26,27]) aG aP
abbrev jM(k c m x y:Int)(t:Bytes):R:=R.agg [.int .i8 k,.int .i32 c,.int .u8 m,.int .i64 x,.int .i64 y,.str t]
theorem J8(p:Nat)(H cR H1:I)(k c m x y:Int)(t:Bytes)(ad:bT)(aP:aV (H.U) (H.U) (bb env cz (H.U+0) (aY [(0,(jM k c m x y t))]) (I.mk (H.U+3) (H.2)) (Op.box 42 (Operand.tmp 0))=some (R.ptr (aC p),cR)∧aV (H.U) (cR.U) (bp env.D 42 ⟨p,0,0,0,6⟩ (I.mk (cR.U+7) (cR.2))=some ((jM k c m x y t))∧bu 21 [(jM k c m x y t)] (I.mk (cR.U+7) (cR.2)) (.tuple [.slice none 0 0,.int .i64 220]) H1∧aV (H.U) (H1.U) (aV (H.U) (H1.U+12) (fg (H.U) (H1.U+14) (ad (.tuple [.str [],.int .i64 220]) (I.mk (H1.U+12+2) (I.aB (I.mk (H1.U+12) (I.aB H1)))))))))) :
 bW 23 [aU k c m x y t] H ad :=
 bZ cP (.ao (.act 0 (.ptr (aC p)) fun x=>cR) (.ao (.val 1000 (aU k c m x y t)) (.ao (.act 1001 (.tuple [.slice none 0 0,.int .i64 220]) fun x=>H1) .nil))) aP
abbrev ko(H1:I):I:=(I.mk (H1.U+12) (H1.2))
abbrev yi:R:=R.tuple [.str [],.int .i64 220]
abbrev mg(a:di)(n:Nat):R:=R.tuple [.slice (some a) n n,.int .i64 0]
abbrev yj(H1:I):I:=(I.mk (H1.U+12+2) (I.aB (I.mk (H1.U+12) (I.aB H1))))
theorem J9(p:Nat)(H cR H1:I)(k c m x y:Int)(t:Bytes)(a:di)(n:Nat)(ad:bT)(aP:aV (H.U) (H.U) (bb env cz (H.U+0) (aY [(0,(jM k c m x y t))]) (I.mk (H.U+3) (H.2)) (Op.box 42 (Operand.tmp 0))=some (R.ptr (aC p),cR)∧aV (H.U) (cR.U) (bp env.D 42 ⟨p,0,0,0,6⟩ (I.mk (cR.U+7) (cR.2))=some ((jM k c m x y t))∧bu 21 [(jM k c m x y t)] (I.mk (cR.U+7) (cR.2)) ((mg a n)) H1∧aV (H.U) (H1.U) (bp env.D 40 ⟨p,0,0,0,6⟩ (ko H1)=some (.int .i8 k)∧(k=1→bb env cz (H1.U+11) (aY [(24,.bool false),(23,.tuple []),(22,.tuple []),(21,.tuple []),(20,.bool false),(19,.bool false),(18,.int .i8 k),(17,.ptr (aC p)),(16,.bool false),(15,.bool false),(14,.int .i64 0),(5,.int .i64 0),(4,.slice (some a) n n),(13,.int .i64 0),(12,.slice (some a) n n),(9,(mg a n)),(11,(mg a n)),(10,(jM k c m x y t)),(3,.int .i64 0),(2,.str []),(1,.ptr (aC p)),(0,(jM k c m x y t))]) (ko H1) (Op.pick (Operand.tmp 16) (Operand.const (Value.bool true)) (Operand.tmp 24))=some (R.bool true,(ko H1))∧aV (H.U) (H1.U+12) (fg (H.U) (H1.U+14) (ad (yi) (yj H1))))∧(¬k=1→bp env.D 40 ⟨p,0,0,0,6⟩ (ko H1)=some (.int .i8 k)∧(k=2→bb env cz (H1.U+11) (aY [(24,.bool false),(23,.bool false),(22,.int .i8 k),(21,.ptr (aC p)),(20,.bool true),(19,.bool true),(18,.int .i8 k),(17,.ptr (aC p)),(16,.bool false),(15,.bool false),(14,.int .i64 0),(5,.int .i64 0),(4,.slice (some a) n n),(13,.int .i64 0),(12,.slice (some a) n n),(9,(mg a n)),(11,(mg a n)),(10,(jM k c m x y t)),(3,.int .i64 0),(2,.str []),(1,.ptr (aC p)),(0,(jM k c m x y t))]) (ko H1) (Op.pick (Operand.tmp 16) (Operand.const (Value.bool true)) (Operand.tmp 24))=some (R.bool true,(ko H1))∧aV (H.U) (H1.U+12) (fg (H.U) (H1.U+14) (ad (yi) (yj H1))))∧(¬k=2→bb env cz (H1.U+11) (aY [(24,.bool true),(23,.bool true),(22,.int .i8 k),(21,.ptr (aC p)),(20,.bool true),(19,.bool true),(18,.int .i8 k),(17,.ptr (aC p)),(16,.bool false),(15,.bool false),(14,.int .i64 0),(5,.int .i64 0),(4,.slice (some a) n n),(13,.int .i64 0),(12,.slice (some a) n n),(9,(mg a n)),(11,(mg a n)),(10,(jM k c m x y t)),(3,.int .i64 0),(2,.str []),(1,.ptr (aC p)),(0,(jM k c m x y t))]) (ko H1) (Op.pick (Operand.tmp 16) (Operand.const (Value.bool true)) (Operand.tmp 24))=some (R.bool true,(ko H1))∧aV (H.U) (H1.U+12) (fg (H.U) (H1.U+14) (ad (yi) (yj H1))))))))) :
 bW 23 [aU k c m x y t] H ad :=
 bZ cP (.ao (.act 0 (.ptr (aC p)) fun x=>cR) (.ao (.val 1000 (aU k c m x y t)) (.ao (.act 1001 (.tuple [.slice (some a) n n,.int .i64 0]) fun x=>H1) (.ao (.val 2004 (.int .i8 k)) (.aO 2005 (.ao (.val 2011 (.bool true)) .nil) (.ao (.val 2008 (.int .i8 k)) (.aO 2009 (.ao (.val 2011 (.bool true)) .nil) (.ao (.val 2011 (.bool true)) .nil)))))))) aP
abbrev yk(c m:Int):R:=R.agg [.int .i8 2,.int .i32 c,.int .u8 m,.int .i64 0,.int .i64 0,.str []]
theorem J'(p:Nat)(H cR H1 H2 bd cd:I)(c m:Int)(a:di)(n w:Nat)(s u f:Bytes)(ad:bT)(aP:aV (H.U) (H.U) (bb env cz (H.U+0) (aY [(0,(yk c m))]) (I.mk (H.U+3) (H.2)) (Op.box 42 (Operand.tmp 0))=some (R.ptr (aC p),cR)∧aV (H.U) (cR.U) (bp env.D 42 ⟨p,0,0,0,6⟩ (I.mk (cR.U+7) (cR.2))=some ((yk c m))∧bu 21 [(yk c m)] (I.mk (cR.U+7) (cR.2)) ((mg a n)) H1∧aV (H.U) (H1.U) (bp env.D 40 ⟨p,0,0,0,6⟩ (ko H1)=some (.int .i8 2)∧bp env.D 40 ⟨p,0,0,0,6⟩ (ko H1)=some (.int .i8 2)∧aV (H.U) (H1.U+12) (aV (H.U) (H1.U+13) (bK (H.U) 89 (Code.loop (bw 23 0)) [(1,.ptr (aC p)),(6,.str []),(26,k9),(27,.int .i64 0)] (I.mk (H1.U+13+2) (I.aB (I.mk (H1.U+12+1) (I.aB (I.mk (H1.U+12) (I.aB H1)))))) (.exit 0) [(1,.ptr (aC p)),(6,.str s),(26,gd),(27,.int .i64 3)] H2∧aV (H.U) (H2.U) (bp env.D 40 ⟨p,0,0,0,6⟩ (I.mk (H2.U+9) (H2.2))=some (.int .i8 2)∧bp env.D 21 ⟨p,0,0,1,6⟩ (I.mk (H2.U+9) (H2.2))=some (.int .i32 c)∧(21≤c→aV (H.U) (H2.U+9) (Nat.le (Nat.succ (List.length s+List.length (Array.toList (ByteArray.data {data:= #[102]})))) (2^62)∧bp env.D 21 ⟨p,0,0,1,6⟩ (I.mk (H2.U+20) (H2.2))=some (.int .i32 c)∧(-9223372036854775808≤c∧c≤9223372036854775807)∧(-9223372036854775808≤c-21∧c-21≤9223372036854775807)∧(-9223372036854775808≤c-21+1∧c-21+1≤9223372036854775807)∧bu 49 [.int .i64 (c-21+1)] (I.mk (H2.U+20) (H2.2)) (.str f) cd∧Nat.le (Nat.succ (List.length (s++[(102:UInt8)])+List.length f)) (2^62)∧fg (H.U) (cd.U) (ad (.tuple [.str (s++[(102:UInt8)]++f),.int .i64 0]) cd)))∧(¬21≤c→aV (H.U) (H2.U+9) (bp env.D 40 ⟨p,0,0,0,6⟩ (I.mk (H2.U+13) (H2.2))=some (.int .i8 2)∧aV (H.U) (H2.U+13) (bu 50 [.str [101,110,116,101,114,32,116,97,98,32,98,97,99,107,115,112,97,99,101,32,101,115,99,97,112,101,32,117,112,32,100,111,119,110,32,114,105,103,104,116,32,108,101,102,116,32,104,111,109,101,32,101,110,100,32,105,110,115,101,114,116,32,100,101,108,101,116,101,32,112,97,103,101,117,112,32,112,97,103,101,100,111,119,110]] (I.mk (H2.U+23) (H2.2)) (.slice (bS w) 14 14) bd∧mB (H2.U+23) (I.mk (H2.U+23) (H2.2)) bd=true∧bp env.D 21 ⟨p,0,0,1,6⟩ bd=some (.int .i32 c)∧p<H2.U+13∧(-2147483648≤c-1∧c-1≤2147483647)∧(0≤c-1∧c-1<14)∧bp env.D 9 ⟨w,0,0+Int.toNat (c-1),0,1⟩ bd=some (R.str u)∧Nat.le (Nat.succ (List.length s+List.length u)) (2^62)∧fg (H.U) (bd.U) (ad (.tuple [.str (s++u),.int .i64 0]) bd))))))))))) :
 bW 23 [aU 2 c m 0 0 []] H ad :=
 bZ cP (.ao (.act 0 (.ptr (aC p)) fun x=>cR) (.ao (.val 1000 (aU 2 c m 0 0 [])) (.ao (.act 1001 (.tuple [.slice (some a) n n,.int .i64 0]) fun x=>H1) (.ao (.val 2004 (.int .i8 2)) (.ao (.val 2008 (.int .i8 2)) (.ao (.keep [1,6,26,27]) (.ao (.loop [(1,.ptr (aC p)),(6,.str s),(26,gd),(27,.int .i64 3)] H2 (.exit 0)) (.ao (.val 11001 (.int .i8 2)) (.ao (.val 11005 (.int .i32 c)) (.aO 11006 (ah 12001 (.ao (.val 12003 (.int .i32 c)) (ah 12004 (ah 12005 (ah 12006 (.ao (.act 12007 (.str f) fun x=>cd) (ah 12008 .nil))))))) (.ao (.val 13001 (.int .i8 2)) (.ao (.act 14001 (.slice (bS w) 14 14) fun x=>bd) (.ao (.l2 14003 (.int .i32 c)) (ah 14004 (ah 14005 (.ao (.val 14006 (.str u)) (ah 14007 .nil))))))))))))))))) aP
abbrev Ch(H2:I):I:=(I.mk (H2.U+13+4) (I.aB (I.mk (H2.U+9+4) (I.aB (I.mk (H2.U+9) (I.aB H2))))))
theorem Ka(p:Nat)(H cR H1 H2 bd cd:I)(c m:Int)(a:di)(n y:Nat)(s u:Bytes)(ad:bT)(aP:aV (H.U) (H.U) (bb env cz (H.U+0) (aY [(0,(eC c m))]) (I.mk (H.U+3) (H.2)) (Op.box 42 (Operand.tmp 0))=some (R.ptr (aC p),cR)∧aV (H.U) (cR.U) (bp env.D 42 ⟨p,0,0,0,6⟩ (I.mk (cR.U+7) (cR.2))=some ((eC c m))∧bu 21 [(eC c m)] (I.mk (cR.U+7) (cR.2)) ((mg a n)) H1∧aV (H.U) (H1.U) (bp env.D 40 ⟨p,0,0,0,6⟩ (ko H1)=some (.int .i8 1)∧aV (H.U) (H1.U+12) (aV (H.U) (H1.U+13) (bK (H.U) 89 (Code.loop (bw 23 0)) [(1,.ptr (aC p)),(6,.str []),(26,k9),(27,.int .i64 0)] (I.mk (H1.U+13+2) (I.aB (I.mk (H1.U+12+1) (I.aB (I.mk (H1.U+12) (I.aB H1)))))) (.exit 0) [(1,.ptr (aC p)),(6,.str s),(26,gd),(27,.int .i64 3)] H2∧aV (H.U) (H2.U) (bp env.D 40 ⟨p,0,0,0,6⟩ (I.mk (H2.U+9) (H2.2))=some (.int .i8 1)∧aV (H.U) (H2.U+9) (bp env.D 40 ⟨p,0,0,0,6⟩ (I.mk (H2.U+13) (H2.2))=some (.int .i8 1)∧aV (H.U) (H2.U+13) (bp env.D 21 ⟨p,0,0,1,6⟩ (I.mk (H2.U+17) (H2.2))=some (.int .i32 c)∧(c=32→aV (H.U) (H2.U+17) (Nat.le (Nat.succ (List.length s+List.length (Array.toList (ByteArray.data {data:= #[115,112,97,99,101]})))) (2^62)∧fg (H.U) (H2.U+21) (ad (.tuple [.str (s++[(115:UInt8),(112:UInt8),(97:UInt8),(99:UInt8),(101:UInt8)]),.int .i64 0]) (I.mk (H2.U+17+4) (I.aB (Ch H2))))))∧(¬c=32→aV (H.U) (H2.U+17) (bp env.D 21 ⟨p,0,0,1,6⟩ (I.mk (H2.U+21) (H2.2))=some (.int .i32 c)∧(c=43→aV (H.U) (H2.U+21) (Nat.le (Nat.succ (List.length s+List.length (Array.toList (ByteArray.data {data:= #[112,108,117,115]})))) (2^62)∧fg (H.U) (H2.U+25) (ad (.tuple [.str (s++[(112:UInt8),(108:UInt8),(117:UInt8),(115:UInt8)]),.int .i64 0]) (I.mk (H2.U+21+4) (I.aB (I.mk (H2.U+17+4) (I.aB (Ch H2))))))))∧(¬c=43→aV (H.U) (H2.U+21) (bp env.D 21 ⟨p,0,0,1,6⟩ (I.mk (H2.U+29) (H2.2))=some (.int .i32 c)∧bb env cz (H2.U+24) (aY [(85,.int .i32 c),(84,.ptr (some ⟨p,0,0,1,6⟩)),(83,.str s),(77,.bool false),(80,.bool false),(79,.int .i32 c),(78,.ptr (some ⟨p,0,0,1,6⟩)),(71,.bool false),(74,.bool false),(73,.int .i32 c),(72,.ptr (some ⟨p,0,0,1,6⟩)),(59,.bool false),(62,.bool false),(61,.int .i8 1),(60,.ptr (aC p)),(41,.bool false),(49,.bool false),(48,.tuple []),(47,.tuple []),(46,.tuple []),(45,.bool false),(44,.bool false),(43,.int .i8 1),(42,.ptr (aC p)),(1,.ptr (aC p)),(6,.str s),(26,k9),(27,.int .i64 3)]) (I.mk (H2.U+29) (H2.2)) (Op.buildSlice 84 1 {toList:=[(0,Operand.tmp 85)]})=some (R.slice (bS y) 1 1,bd)∧bu 51 [.slice (bS y) 1 1] bd (.str u) cd∧Nat.le (Nat.succ (List.length s+List.length u)) (2^62)∧fg (H.U) (cd.U) (ad (.tuple [.str (s++u),.int .i64 0]) cd)))))))))))))) :
 bW 23 [aU 1 c m 0 0 []] H ad :=
 bZ cP (.ao (.act 0 (.ptr (aC p)) fun x=>cR) (.ao (.val 1000 (aU 1 c m 0 0 [])) (.ao (.act 1001 (.tuple [.slice (some a) n n,.int .i64 0]) fun x=>H1) (.ao (.val 2004 (.int .i8 1)) (.ao (.keep [1,6,26,27]) (.ao (.loop [(1,.ptr (aC p)),(6,.str s),(26,gd),(27,.int .i64 3)] H2 (.exit 0)) (.ao (.val 11001 (.int .i8 1)) (.ao (.val 13001 (.int .i8 1)) (.ao (.val 15001 (.int .i32 c)) (.aO 15002 (ah 16001 .nil) (.ao (.val 17001 (.int .i32 c)) (.aO 17002 (ah 18001 .nil) (.ao (.val 19002 (.int .i32 c)) (.ao (.act 19003 (.slice (bS y) 1 1) fun x=>bd) (.ao (.act 19004 (.str u) fun x=>cd) (ah 19005 .nil)))))))))))))))) aP
end Go.Proofs.YtddnafghiejcoaaGreatDoor
namespace Go.Keys
open Go.Lib
def cr:Bytes:=[99,116,114,108,43]
def cm:Bytes:=[97,108,116,43]
def cE:Bytes:=[115,104,105,102,116,43]
def mh:Bytes:=[115,112,97,99,101]
def nu:Bytes:=[112,108,117,115]
def fh:List Bytes:=[[101,110,116,101,114],[116,97,98],[98,97,99,107,115,112,97,99,101],[101,115,99,97,112,101],[117,112],[100,111,119,110],[114,105,103,104,116],[108,101,102,116],[104,111,109,101],[101,110,100],[105,110,115,101,114,116],[100,101,108,101,116,101],[112,97,103,101,117,112],[112,97,103,101,100,111,119,110]]
def dJ(m:Nat):Bytes:=(if m/4%2=1 then cr else [])++((if m/2%2=1 then cm else [])++(if m%2=1 then cE else []))
def iM(k:Nat):Bytes:=if 21≤k then 102::decDigits (k-20)else fh.getD (k-1) []
def fP(c:Nat):Bytes:=if c=32 then mh else if c=43 then nu else put c
def e4(e:b1):Option Bytes:=if(enc e).isSome=true∧(e.kind=1∨e.kind=2)then some (dJ e.dH.toNat++if e.kind=2 then iM e.code.toNat else fP e.code.toNat)else none
theorem Ci{e:b1}(h:p0 e=true):e.x=0∧e.y=0∧e.text=[]:=by unfold p0 at h;simp only [Bool.and_eq_true,decide_eq_true_eq]at h;exact⟨h.1.1,h.1.2,h.2⟩
theorem Kb{k m:Nat}{b:Bytes}(h:iJ k m=some b):(1≤k∧k≤14)∨(21≤k∧k≤32):=by
 unfold iJ at h;split at h
 ·omega
 ·split at h
  ·rename_i c al;unfold pZ at al;split at al
   ·omega
   ·split at al
    ·omega
    ·split at al
     ·omega
     ·cases al
  ·split at h
   ·omega
   ·split at h
    ·rename_i n aI;unfold ma at aI
     repeat' split at aI
     all_goals first|omega|cases aI
    ·cases h
theorem yl{e:b1}{b:Bytes}(a6:0≤e.dH)(h:enc e=some b)(ap:e.kind=2):∃k m:Nat,e=⟨2,k,m,0,0,[]⟩∧m≤7∧((1≤k∧k≤14)∨(21≤k∧k≤32)):=by
 obtain⟨kind,code,dH,x,y,text⟩:=e;simp only at ap a6;subst ap;unfold enc at h;rw [if_neg (by show ¬(2:Int)=3;decide)]at h;split at h
 ·cases h
 ·rename_i hm;simp only at hm;rw [if_neg (by intro q;exact absurd q.1 (by show ¬(2:Int)=1;decide))]at h;split at h
  ·rename_i ab;obtain⟨eZ,eM,gP⟩:=Ci ab.2;simp only at eZ eM gP;subst eZ eM gP;split at h
   ·rename_i al;simp only at al h;refine⟨code.toNat,dH.toNat,?_,J,Kb h⟩;rw [Int.toNat_of_nonneg al,Int.toNat_of_nonneg a6]
   ·cases h
  ·rename_i ab;rw [if_neg (by intro q;cases q),if_neg (by intro q;cases q),if_neg (by intro q;cases q.1),if_neg (by intro q;cases q.1)]at h;cases h
theorem ul{e:b1}{b:Bytes}(a6:0≤e.dH)(h:enc e=some b)(ap:e.kind=1):∃c m:Nat,e=⟨1,c,m,0,0,[]⟩∧m≤7∧shown (c:Int)=true:=by
 obtain⟨kind,code,dH,x,y,text⟩:=e;simp only at ap a6;subst ap;unfold enc at h;rw [if_neg (by show ¬(1:Int)=3;decide)]at h;split at h
 ·cases h
 ·rename_i hm;simp only at hm;split at h
  ·rename_i ab;obtain⟨eZ,eM,gP⟩:=Ci ab.2.1;simp only at eZ eM gP;subst eZ eM gP;have hs:shown code=true:=ab.2.2;obtain⟨_,_,_,q⟩:=nt hs;refine⟨code.toNat,dH.toNat,?_,J,by rw [q];exact hs⟩;rw [q,Int.toNat_of_nonneg a6]
  ·rw [if_neg (by intro q;exact absurd q.1 (by show ¬(1:Int)=2;decide)),if_neg (by intro q;cases q),if_neg (by intro q;cases q),if_neg (by intro q;cases q.1),if_neg (by intro q;cases q.1)]at h;cases h
theorem Cj{e:b1}(h:(enc e).isSome=true):∃b,enc e=some b:=Option.isSome_iff_exists.1 h
theorem Kc{e:b1}(h:enc e=none):e4 e=none:=by unfold e4;rw [h];rfl
theorem Kd{e:b1}(aa:e.kind≠1)(ae:e.kind≠2):e4 e=none:=by unfold e4;rw [if_neg (by rintro ⟨_,h|h⟩<;>contradiction)]
theorem um{k m:Nat}{b:Bytes}(h:enc ⟨2,k,m,0,0,[]⟩=some b):e4 ⟨2,k,m,0,0,[]⟩=some (dJ m++iM k):=by unfold e4;rw [if_pos ⟨by rw [h];rfl,.inr rfl⟩];rfl
theorem qb{c m:Nat}{b:Bytes}(h:enc ⟨1,c,m,0,0,[]⟩=some b):e4 ⟨1,c,m,0,0,[]⟩=some (dJ m++fP c):=by unfold e4;rw [if_pos ⟨by rw [h];rfl,.inl rfl⟩];rfl
end Go.Keys
namespace Go.Keys
open Go.Lib
def cV(p s:Bytes):Bytes:=if p.isPrefixOf s then s.drop p.length else s
def e9(s:Bytes):Bytes:=cV cr s
def ib(s:Bytes):Bytes:=cV cm (e9 s)
def bG(s:Bytes):Bytes:=cV cE (ib s)
def b9(s:Bytes):Nat:=(if cr.isPrefixOf s then 4 else 0)+((if cm.isPrefixOf (e9 s)then 2 else 0)+(if cE.isPrefixOf (ib s)then 1 else 0))
def iN(t:Bytes):Nat:=match fh.findIdx? (· == t)with|some i=>i+1|none=>0
def k'(t:Bytes):Bytes:=cV [102] t
def la(t:Bytes):Int:=match atoiAll (k' t)with|.ok n=>if 1≤n∧n≤12 then 20+n else 0|_=>0
def kp(t:Bytes):Int:=if t=mh∨t=nu∨(first t).2.1=t.length then 1 else 2
def mi(t:Bytes):Int:=if t=mh then 32 else if t=nu then 43 else if(first t).2.1=t.length then((first t).1:Int)else if iN t=0 then la t else iN t
def fu(s:Bytes):b1:=⟨kp (bG s),mi (bG s),b9 s,0,0,[]⟩
def named(s:Bytes):Option b1:=if e4 (fu s)=some s then some (fu s)else none
def uo(k:Nat):Bytes:=if 21≤k then 102::(if k<30 then [u8 (28+k)]else [49,u8 (18+k)])else fh.getD (k-1) []
theorem Ck{k:Nat}(h:k≤32):iM k=uo k:=by
 unfold iM uo;split
 ·congr 1
  by_cases aa:k<30
  ·rw [if_pos aa,decDigits,dif_pos J];unfold u8;congr 2;omega
  ·rw [if_neg aa,decDigits,dif_neg J,decDigits,dif_pos J];have bk:(k-20)/10=1:= J;have bV:(k-20)%10=k-30:= J;rw [bk,bV];unfold u8;show [UInt8.ofNat (48+1)]++[UInt8.ofNat (48+(k-30))]=_;rw [show 48+(k-30)=18+k by omega];rfl
 ·rfl
theorem Ke:∀k:Fin 33,∀m:Fin 8,(1≤k.val∧k.val≤14∨21≤k.val)→fu (dJ m.val++uo k.val)=⟨2,(k.val:Nat),(m.val:Nat),0,0,[]⟩:=by decide+kernel
theorem Cl{c:Nat}(hs:Scalar c){p:Bytes}(ab:p=cr∨p=cm∨p=cE):p.isPrefixOf (put c)=false:=by
 rcases Nat.lt_or_ge c 128 with h|h
 ·rw [oO h];rcases ab with rfl|rfl|rfl<;>simp [cr,cm,cE,List.isPrefixOf]
 ·have an:∀n,192≤n→n<256→u8 n≠99∧u8 n≠97∧u8 n≠115:=by intro n aa ae;have:=jj ae;refine⟨?_,?_,?_⟩<;>(intro q;rw [q]at this;simp at this;omega)
  have fin:∀n (r:Bytes),192≤n→n<256→p.isPrefixOf (u8 n::r)=false:=by intro n r aa ae;obtain⟨bY,bU,ez⟩:=an n aa ae;rcases ab with rfl|rfl|rfl<;>simp [cr,cm,cE,List.isPrefixOf,Ne.symm bY,Ne.symm bU,Ne.symm ez]
  rcases Nat.lt_or_ge c 2048 with ae|ae
  ·rw [rO h ae];exact fin _ _ J J
  ·rcases Nat.lt_or_ge c 65536 with aS|aS
   ·rw [pX hs ae aS];exact fin _ _ J J
   ·rw [rP hs aS];exact fin _ _ J (by unfold Scalar at hs;omega)
theorem Cm{m:Nat}(hm:m≤7){t:Bytes}(h:∀p,p=cr∨p=cm∨p=cE→p.isPrefixOf t=false):b9 (dJ m++t)=m∧bG (dJ m++t)=t:=by
 have aa:=h _ (.inl rfl);have ae:=h _ (.inr (.inl rfl));have aS:=h _ (.inr (.inr rfl));have db:cV cr t=t:=by unfold cV;rw [aa];rfl
 have c2:cV cm t=t:=by unfold cV;rw [ae];rfl
 have c3:cV cE t=t:=by unfold cV;rw [aS];rfl
 have lV:∀x,cV cr (cr++x)=x:=fun x=>rfl
 have uq:∀x,cV cm (cm++x)=x:=fun x=>rfl
 have cs:∀x,cV cE (cE++x)=x:=fun x=>rfl
 have a7:∀x,cV cr (cm++x)=cm++x:=fun x=>rfl
 have ba:∀x,cV cr (cE++x)=cE++x:=fun x=>rfl
 have cC:∀x,cV cm (cE++x)=cE++x:=fun x=>rfl
 have eZ:∀x,cr.isPrefixOf (cr++x)=true:=fun x=>rfl
 have eM:∀x,cm.isPrefixOf (cm++x)=true:=fun x=>rfl
 have gP:∀x,cE.isPrefixOf (cE++x)=true:=fun x=>rfl
 have bY:∀x,cr.isPrefixOf (cm++x)=false:=fun x=>rfl
 have bU:∀x,cr.isPrefixOf (cE++x)=false:=fun x=>rfl
 have ez:∀x,cm.isPrefixOf (cE++x)=false:=fun x=>rfl
 have al:m=0∨m=1∨m=2∨m=3∨m=4∨m=5∨m=6∨m=7:= J;rcases al with rfl|rfl|rfl|rfl|rfl|rfl|rfl|rfl
 ·show b9 t=0∧bG t=t;simp [b9,bG,ib,e9,db,c2,c3,aa,ae,aS]
 ·show b9 (cE++t)=1∧bG (cE++t)=t;simp [b9,bG,ib,e9,ba,cC,cs,gP,bU,ez]
 ·show b9 (cm++t)=2∧bG (cm++t)=t;simp [b9,bG,ib,e9,a7,uq,c3,eM,bY,aS]
 ·show b9 (cm++(cE++t))=3∧bG (cm++(cE++t))=t;simp [b9,bG,ib,e9,a7,uq,cs,eM,gP,bY]
 ·show b9 (cr++t)=4∧bG (cr++t)=t;simp [b9,bG,ib,e9,lV,c2,c3,eZ,ae,aS]
 ·show b9 (cr++(cE++t))=5∧bG (cr++(cE++t))=t;simp [b9,bG,ib,e9,lV,cC,cs,eZ,gP,ez]
 ·show b9 (cr++(cm++t))=6∧bG (cr++(cm++t))=t;simp [b9,bG,ib,e9,lV,uq,c3,eZ,eM,aS]
 ·show b9 (cr++(cm++(cE++t)))=7∧bG (cr++(cm++(cE++t)))=t;simp [b9,bG,ib,e9,lV,uq,cs,eZ,eM,gP]
theorem Kf{c:Nat}(hs:Scalar c):first (put c)=(c,(put c).length,false):=(chars hs).whole
theorem Kg{c m:Nat}(hs:Scalar c)(hm:m≤7):fu (dJ m++fP c)=⟨1,c,m,0,0,[]⟩:=by
 have tb:∀p,p=cr∨p=cm∨p=cE→p.isPrefixOf (fP c)=false:=by
  intro p ab;unfold fP;split
  ·rcases ab with rfl|rfl|rfl<;>rfl
  ·split
   ·rcases ab with rfl|rfl|rfl<;>rfl
   ·exact Cl hs ab
 obtain⟨aa,ae⟩:=Cm hm tb;unfold fu;rw [aa,ae]
 have key:kp (fP c)=1∧mi (fP c)=c:=by
  by_cases a:c=32
  ·subst a;exact⟨rfl,rfl⟩
  ·by_cases b:c=43
   ·subst b;exact⟨rfl,rfl⟩
   ·have e:fP c=put c:=by unfold fP;rw [if_neg a,if_neg b]
    have aM:=Kf hs;have dU:put c≠mh:=by intro q;rw [q]at aM;cases aM
    have dn:put c≠nu:=by intro q;rw [q]at aM;cases aM
    rw [e];unfold kp mi;rw [if_pos (.inr (.inr (by rw [aM]))),if_neg dU,if_neg dn,if_pos (by rw [aM]),aM];exact⟨rfl,rfl⟩
 rw [key.1,key.2]
theorem Kh{e:b1}{s:Bytes}(a6:0≤e.dH)(h:e4 e=some s):named s=some e:=by
 have g:fu s=e:=by
  have af:=h;unfold e4 at af;split at af
  ·rename_i al;obtain⟨b,an⟩:=Cj al.1;rcases al.2 with ap|ap
   ·obtain⟨c,m,rfl,hm,hF⟩:=ul a6 an ap;rw [qb an]at h;simp only [Option.some.injEq]at h;subst h;have hs:=(nt hF).1;exact Kg (by simpa using hs) hm
   ·obtain⟨k,m,rfl,hm,aI⟩:=yl a6 an ap;rw [um an]at h;simp only [Option.some.injEq]at h;subst h;rw [Ck J];exact Ke ⟨k,J⟩ ⟨m,J⟩ (by show 1≤k∧k≤14∨21≤k;omega)
  ·cases af
 unfold named;rw [g,if_pos h]
end Go.Keys
namespace Go.Proofs
open Go.Shelf
def Tryz.Ki:Go.Shelf.Ren:=⟨fun|157=>50|229=>76|199=>77|261=>97|311=>123|312=>124|n=>n,fun|9=>9|31=>77|3=>3|5=>5|4=>4|119=>113|0=>0|40=>69|152=>129|21=>21|154=>131|51=>132|141=>134|196=>162|193=>159|198=>165|49=>163|194=>160|201=>168|226=>183|46=>108|227=>184|n=>n,fun|0=>0|6=>1|n=>n⟩
theorem Tryz.Kj:Go.Proofs.Lays.n157 Tryz.prog Tryz.Ki:= {
 mixed:= aG
 f157:=Tryz.func50.trans (congrArg some aG)
 f199:=Tryz.func77.trans (congrArg some aG)
 f229:=Tryz.func76.trans (congrArg some aG)
 f261:=Tryz.func97.trans (congrArg some aG)
 f311:=Tryz.func123.trans (congrArg some aG)
 f312:=Tryz.func124.trans (congrArg some aG)
 t0:=Tryz.underlying0
 a0:=Tryz.isAgg0
 z0:=Tryz.sizeOf0
 v0:=Tryz.zeroValue0
 t3:=Tryz.underlying3
 a3:=Tryz.isAgg3
 z3:=Tryz.sizeOf3
 v3:=Tryz.zeroValue3
 t4:=Tryz.underlying4
 a4:=Tryz.isAgg4
 z4:=Tryz.sizeOf4
 v4:=Tryz.zeroValue4
 t5:=Tryz.underlying5
 a5:=Tryz.isAgg5
 z5:=Tryz.sizeOf5
 v5:=Tryz.zeroValue5
 t9:=Tryz.underlying9
 a9:=Tryz.isAgg9
 z9:=Tryz.sizeOf9
 v9:=Tryz.zeroValue9
 t21:=Tryz.underlying21
 a21:=Tryz.isAgg21
 z21:=Tryz.sizeOf21
 v21:=Tryz.zeroValue21
 t31:=Tryz.underlying77
 a31:=Tryz.isAgg77
 z31:=Tryz.sizeOf77
 v31:=Tryz.zeroValue77
 t40:=Tryz.underlying69
 a40:=Tryz.isAgg69
 z40:=Tryz.sizeOf69
 v40:=Tryz.zeroValue69
 t46:=Tryz.underlying108
 a46:=Tryz.isAgg108
 z46:=Tryz.sizeOf108
 v46:=Tryz.zeroValue108
 t49:=Tryz.underlying163
 a49:=Tryz.isAgg163
 z49:=Tryz.sizeOf163
 v49:=Tryz.zeroValue163
 t51:=Tryz.underlying132
 a51:=Tryz.isAgg132
 z51:=Tryz.sizeOf132
 v51:=Tryz.zeroValue132
 t119:=Tryz.underlying113
 a119:=Tryz.isAgg113
 z119:=Tryz.sizeOf113
 t141:=Tryz.underlying134
 a141:=Tryz.isAgg134
 z141:=Tryz.sizeOf134
 v141:=Tryz.zeroValue134
 t152:=Tryz.underlying129
 a152:=Tryz.isAgg129
 z152:=Tryz.sizeOf129
 v152:=Tryz.zeroValue129
 t154:=Tryz.underlying131
 a154:=Tryz.isAgg131
 z154:=Tryz.sizeOf131
 v154:=Tryz.zeroValue131
 t193:=Tryz.underlying159
 a193:=Tryz.isAgg159
 z193:=Tryz.sizeOf159
 v193:=Tryz.zeroValue159
 t194:=Tryz.underlying160
 a194:=Tryz.isAgg160
 z194:=Tryz.sizeOf160
 v194:=Tryz.zeroValue160
 t196:=Tryz.underlying162
 a196:=Tryz.isAgg162
 z196:=Tryz.sizeOf162
 v196:=Tryz.zeroValue162
 t198:=Tryz.underlying165
 a198:=Tryz.isAgg165
 z198:=Tryz.sizeOf165
 v198:=Tryz.zeroValue165
 t201:=Tryz.underlying168
 a201:=Tryz.isAgg168
 z201:=Tryz.sizeOf168
 v201:=Tryz.zeroValue168
 t226:=Tryz.underlying183
 a226:=Tryz.isAgg183
 z226:=Tryz.sizeOf183
 v226:=Tryz.zeroValue183
 t227:=Tryz.underlying184
 a227:=Tryz.isAgg184
 z227:=Tryz.sizeOf184
 v227:=Tryz.zeroValue184
 g0:= aG
 g6:=by kernel_rfl}
end Go.Proofs
namespace Go.Keys
def r4:Bytes:=[101,110,116,101,114,32,116,97,98,32,98,97,99,107,115,112,97,99,101,32,101,115,99,97,112,101,32,117,112,32,100,111,119,110,32,114,105,103,104,116,32,108,101,102,116,32,104,111,109,101,32,101,110,100,32,105,110,115,101,114,116,32,100,101,108,101,116,101,32,112,97,103,101,117,112,32,112,97,103,101,100,111,119,110]
def mj:List Bytes:=[[101,110,116,101,114],[116,97,98],[98,97,99,107,115,112,97,99,101],[101,115,99,97,112,101],[117,112],[100,111,119,110],[114,105,103,104,116],[108,101,102,116],[104,111,109,101],[101,110,100],[105,110,115,101,114,116],[100,101,108,101,116,101],[112,97,103,101,117,112],[112,97,103,101,100,111,119,110]]
end Go.Keys
namespace Go.Proofs.YtddnafghiejcoaaGreatDoor
open Go.bh Go.Keys Go.RowKit
set_option maxRecDepth 1000000
theorem Kk:Lib.fields r4=mj:=by decide+kernel
theorem Cn(φ:Map):∀l:List Bytes,aT φ (flat (l.map R.str)) (l.map fun l=>Value.string ⟨l.toArray⟩)
 |[]=>by simp [flat,aT]
 |a::r=>by have:=Cn φ r;simp only [List.map_cons,flat,List.flatMap_cons,R.cells,List.cons_append,List.nil_append,aT];exact⟨_,_,rfl,by simp only [ar];exact⟨_,rfl,rfl⟩,this⟩
def fi:ai:=ai.aq (mj.map R.str) 1 true
theorem ym(H:I):bE 50 [.str r4] H (.slice (some ⟨H.U,0,0,0,1⟩) 14 14) ((⟨H.U+1,H.aB⟩:I).set H.U fi):=by
 intro aF aN ck ef φ w cx dt b' dD;obtain⟨l⟩:=cx;simp only [aT]at dD;obtain⟨x,t,rfl,ac,rfl⟩:=dD;simp only [ar]at ac;obtain⟨u,rfl,hu⟩:=ac;have ur:=ef.keep b' (fun _ h=>h);have fZ:dq aF w.heap.size:=ck.le b'.size
 have hid:∀v,φ H.U v=none:=by
  intro v;cases av:φ H.U v with
  |none=>rfl
  |some p=>have:=(dt.b6 _ _ _ av).1;omega
 refine⟨⟨Tryz.f50,_,Tryz.func50,rfl⟩,?_⟩
 have k:=Any.strings_Fields Tryz.Kj aG aG u w (by rw [show u.size=u.data.toList.length from Array.length_toList.symm,hu];decide) (by
  rw [hu];intro j b an;have hm:=List.mem_of_getElem? an
  exact of_decide_eq_true (List.all_eq_true.1 (show r4.all (fun b=>decide (b.toNat<128))=true by decide+kernel) b hm)) ur.xE
 rw [hu,Kk]at k;refine Calls.mono k fun e aL ⟨he,hw⟩=> ?_
 subst he hw;have fK:(mj.map fun l=>Value.string ⟨l.toArray⟩).length=14:=rfl;refine⟨_,φ.add H.U 0 ⟨w.heap.size,0,0,1,14,true,false⟩,rfl,?_,ar.gL (nid:=H.U) (b:=w.heap.size) (es:=1) (len:=14) (cap:=14) (tot:=14) (ex:=true) (b0:=14) cg cg cg (fun _=>rfl),?_,b'.alloc fZ _,by show H.U≤H.U+1;omega⟩
 ·refine⟨φ.mD _ (hid 0),fun i ag aI v=> ?_,fun i v p ab aR=> ?_⟩
  ·unfold Map.add;rw [if_neg J];exact aI v
  ·unfold Map.add at ab;split at ab
   ·simp at ab;subst ab;cases aR
   ·exact ab
 ·have j4:aT (φ) (flat (mj.map R.str)) ((mj.map fun l=>Value.string ⟨l.toArray⟩).toArray.toList.take ((mj.map R.str).length*1)):=by rw [List.take_of_length_le cg];exact Cn φ mj
  refine(dt.U (n:=H.U+1) J).aq hid (by show H.U<H.U+1;omega) fZ Nat.one_pos (by intro e he;obtain⟨q,_,rfl⟩:=List.mem_map.1 he;rfl) j4 (by simp [fK,mj]) cg (by
   intro x ac;have ac:=List.mem_of_mem_take ac;simp only [List.mem_map]at ac;obtain⟨q,_,rfl⟩:=ac
   rfl) nofun
end Go.Proofs.YtddnafghiejcoaaGreatDoor
namespace Go.Proofs.YtddnafghiejcoaaGreatDoor
open Go.bh Go.Keys Go.Lib
set_option maxRecDepth 1000000
def qc(n:Nat):Bytes:=if n<10 then [u8 (48+n)]else [49,u8 (38+n)]
theorem Kl:∀n:Fin 12,(match h6 Tryz.prog env 60 49 [.int .i64 ((n.val+1:Nat):Int)] ⟨0,.nil⟩with|some (.str s,_)=>decide (s=qc (n.val+1))|_=>false)=true:=by decide+kernel
theorem Km{k:Nat}(aa:21≤k)(ae:k≤32):102::qc (k-20)=iM k:=by
 rw [Ck ae];unfold uo qc;rw [if_pos aa];by_cases h:k<30
 ·rw [if_pos h,if_pos J,show 48+(k-20)=28+k by omega]
 ·rw [if_neg h,if_neg J,show 38+(k-20)=18+k by omega]
theorem Kn{n:Nat}(aa:1≤n)(ae:n≤12)(H:I):bE 49 [.int .i64 (n:Nat)] H (.str (qc n)) H:=by
 have h:=Kl ⟨n-1,J⟩;rw [show n-1+1=n by omega]at h;split at h
 ·rename_i s af aR;rw [oD]at aR;have hs:=of_decide_eq_true h;subst hs;exact bn.cL ⟨_,_,bn.mZ dB mixed aR,rfl⟩ rfl rfl H
 ·cases h
theorem Ko:∀n:Fin 8,bB .u8 (n.val:Int) 4=0↔ ¬n.val/4%2=1:=by decide+kernel
theorem Kp:∀n:Fin 8,bB .u8 (n.val:Int) 2=0↔ ¬n.val/2%2=1:=by decide+kernel
theorem Kq:∀n:Fin 8,bB .u8 (n.val:Int) 1=0↔ ¬n.val%2=1:=by decide+kernel
theorem hp{h:I}{x:Nat}{k c m y z:Int}{t:Bytes}(e:h.get x=some (bo (aU k c m y z t))):bp (bq.D env) 5 ⟨x,0,0,2,6⟩ h=some (.int .u8 m):=by have bt:(bq.D env 5).map (fun d=>d.kind.isAgg)=some false:= aG;obtain⟨x,aa,ae⟩:=Option.map_eq_some_iff.1 bt;unfold bp;rw [aa,e];simp [ai.elem?,ai.bL,gK,ae,ai.aq]
theorem ml{h:I}{x:Nat}{k c m y z:Int}{t:Bytes}(e:h.get x=some (bo (aU k c m y z t))):bp (bq.D env) 40 ⟨x,0,0,0,6⟩ h=some (.int .i8 k):=by have bt:(bq.D env 40).map (fun d=>d.kind.isAgg)=some false:= aG;obtain⟨x,aa,ae⟩:=Option.map_eq_some_iff.1 bt;unfold bp;rw [aa,e];simp [ai.elem?,ai.bL,gK,ae,ai.aq]
theorem hq{h:I}{x:Nat}{k c m y z:Int}{t:Bytes}(e:h.get x=some (bo (aU k c m y z t))):bp (bq.D env) 21 ⟨x,0,0,1,6⟩ h=some (.int .i32 c):=by have bt:(bq.D env 21).map (fun d=>d.kind.isAgg)=some false:= aG;obtain⟨x,aa,ae⟩:=Option.map_eq_some_iff.1 bt;unfold bp;rw [aa,e];simp [ai.elem?,ai.bL,gK,ae,ai.aq]
abbrev hr(p:Nat)(s:Bytes)(i:Int):a':=[(1,.ptr (some ⟨p,0,0,0,6⟩)),(6,.str s),(26,gd),(27,.int .i64 i)]
theorem Co{H:I}{B p m:Nat}{k c y z:Int}{t:Bytes}(b':B≤H.U)(ab:p<H.U)(hm:m≤7)(ah:H.get p=some (bo (aU k c m y z t))) :
 ∃q,bK B 89 (.loop (bw 23 0)) (hr p [] 0) H (.exit 0) (hr p (dJ m) 3) ⟨H.U+q,H.aB⟩:=by
 have j1:=Ko ⟨m,J⟩;have bV:=Kp ⟨m,J⟩;have bk:=Kq ⟨m,J⟩;simp only at j1 bV bk;have hb:∀j,bp (bq.D env) 5 ⟨p,0,0,2,6⟩ ⟨H.U+j,H.aB⟩=some (.int .u8 m):=fun j=>hp (h:=⟨H.U+j,H.aB⟩) ah
 have jB:∃q,bK B 89 (bw 23 0) (hr p [] 0) H .normal (hr p (if m/4%2=1 then cr else []) 1) ⟨H.U+q,H.aB⟩:=by
  by_cases h:m/4%2=1
  ·rw [if_pos h]
   obtain⟨e,aA,aa,aR,rfl,rfl,rfl⟩:=Ce H B p [] m (fun e aA aa=>e=.normal∧aA=hr p cr 1∧aa=⟨H.U+17,H.aB⟩)
    (aQ b' (aQ J (aQ J ⟨hb 11,J,trivial,fun q=>absurd h (j1.1 q),fun _=>aQ J ⟨by show 0+5+1≤2^62;omega,aQ J ⟨rfl,rfl,rfl⟩⟩⟩)))
   exact⟨17,aR⟩
  ·rw [if_neg h]
   obtain⟨e,aA,aa,aR,rfl,rfl,rfl⟩:=Ce H B p [] m (fun e aA aa=>e=.normal∧aA=hr p [] 1∧aa=⟨H.U+13,H.aB⟩)
    (aQ b' (aQ J (aQ J ⟨hb 11,J,trivial,fun _=>aQ J ⟨rfl,rfl,rfl⟩,fun q=>absurd (j1.2 h) q⟩)))
   exact⟨13,aR⟩
 have s1:∀(j:Nat)(s:Bytes),s.length≤20→ ∃q,bK B 89 (bw 23 0) (hr p s 1) ⟨H.U+j,H.aB⟩ .normal (hr p (s++if m/2%2=1 then cm else []) 2) ⟨H.U+j+q,H.aB⟩:=by
  intro j s hs;by_cases h:m/2%2=1
  ·rw [if_pos h]
   obtain⟨e,aA,aa,aR,rfl,rfl,rfl⟩:=Cf ⟨H.U+j,H.aB⟩ B p s m (fun e aA aa=>e=.normal∧aA=hr p (s++cm) 2∧aa=⟨H.U+j+17,H.aB⟩)
    (aQ (by show B≤H.U+j;omega) (aQ (by show B≤H.U+j+1;omega) (aQ (by show B≤H.U+j+5;omega) ⟨hb (j+11),by show p<H.U+j+5;omega,trivial,fun q=>absurd h (bV.1 q),fun _=>aQ (by show B≤H.U+j+11;omega) ⟨by show s.length+4+1≤2^62;omega,aQ (by show B≤H.U+j+15;omega) ⟨rfl,rfl,rfl⟩⟩⟩)))
   exact⟨17,aR⟩
  ·rw [if_neg h,List.append_nil]
   obtain⟨e,aA,aa,aR,rfl,rfl,rfl⟩:=Cf ⟨H.U+j,H.aB⟩ B p s m (fun e aA aa=>e=.normal∧aA=hr p s 2∧aa=⟨H.U+j+13,H.aB⟩)
    (aQ (by show B≤H.U+j;omega) (aQ (by show B≤H.U+j+1;omega) (aQ (by show B≤H.U+j+5;omega) ⟨hb (j+11),by show p<H.U+j+5;omega,trivial,fun _=>aQ (by show B≤H.U+j+11;omega) ⟨rfl,rfl,rfl⟩,fun q=>absurd (bV.2 h) q⟩)))
   exact⟨13,aR⟩
 have s2:∀(j:Nat)(s:Bytes),s.length≤20→ ∃q,bK B 89 (bw 23 0) (hr p s 2) ⟨H.U+j,H.aB⟩ .normal (hr p (s++if m%2=1 then cE else []) 3) ⟨H.U+j+q,H.aB⟩:=by
  intro j s hs;by_cases h:m%2=1
  ·rw [if_pos h]
   obtain⟨e,aA,aa,aR,rfl,rfl,rfl⟩:=Cg ⟨H.U+j,H.aB⟩ B p s m (fun e aA aa=>e=.normal∧aA=hr p (s++cE) 3∧aa=⟨H.U+j+17,H.aB⟩)
    (aQ (by show B≤H.U+j;omega) (aQ (by show B≤H.U+j+1;omega) (aQ (by show B≤H.U+j+5;omega) ⟨hb (j+11),by show p<H.U+j+5;omega,trivial,fun q=>absurd h (bk.1 q),fun _=>aQ (by show B≤H.U+j+11;omega) ⟨by show s.length+6+1≤2^62;omega,aQ (by show B≤H.U+j+15;omega) ⟨rfl,rfl,rfl⟩⟩⟩)))
   exact⟨17,aR⟩
  ·rw [if_neg h,List.append_nil]
   obtain⟨e,aA,aa,aR,rfl,rfl,rfl⟩:=Cg ⟨H.U+j,H.aB⟩ B p s m (fun e aA aa=>e=.normal∧aA=hr p s 3∧aa=⟨H.U+j+13,H.aB⟩)
    (aQ (by show B≤H.U+j;omega) (aQ (by show B≤H.U+j+1;omega) (aQ (by show B≤H.U+j+5;omega) ⟨hb (j+11),by show p<H.U+j+5;omega,trivial,fun _=>aQ (by show B≤H.U+j+11;omega) ⟨rfl,rfl,rfl⟩,fun q=>absurd (bk.2 h) q⟩)))
   exact⟨13,aR⟩
 have Kr:∀(j:Nat)(s:Bytes),bK B 89 (bw 23 0) (hr p s 3) ⟨H.U+j,H.aB⟩ (.exit 0) (hr p s 3) ⟨H.U+j+1,H.aB⟩:=by intro j s;obtain⟨e,aA,aa,aR,rfl,rfl,rfl⟩:=J7 ⟨H.U+j,H.aB⟩ B p s (fun e aA aa=>e=.exit 0∧aA=hr p s 3∧aa=⟨H.U+j+1,H.aB⟩) (aQ (by show B≤H.U+j;omega) ⟨rfl,rfl,rfl⟩);exact aR
 obtain⟨yn,gh⟩:=jB;obtain⟨bY,dY⟩:=s1 yn (if m/4%2=1 then cr else []) (by split<;>decide);obtain⟨bU,eH⟩:=s2 (yn+bY) ((if m/4%2=1 then cr else [])++if m/2%2=1 then cm else []) (by split<;>split<;>decide);have nv:=Kr (yn+bY+bU) (((if m/4%2=1 then cr else [])++if m/2%2=1 then cm else [])++if m%2=1 then cE else []);have em:((if m/4%2=1 then cr else [])++if m/2%2=1 then cm else [])++(if m%2=1 then cE else [])=dJ m:=List.append_assoc _ _ _;rw [em]at eH nv;simp only [Nat.add_assoc]at dY eH nv;exact⟨_,cQ.ei (b8.step gh (b8.step dY (b8.step eH (b8.last a1 nv))))⟩
def gV(e:b1):R:=match e4 e with|some s=> .tuple [.str s,.int .i64 0]|none=> .tuple [.str [],.int .i64 220]
theorem Ks{F:a'}{v:b1}{nid:Nat}{H:I}(h:aY F (.tmp 0)=cc v):bb env cz nid (aY F) H (Op.box 42 (Operand.tmp 0))=some (.ptr (some ⟨nid,0,0,0,6⟩),H.set nid (bo (cc v))):=by
 have an:∀(K:I)(y:Nat)(k c m x z:Int)(t:Bytes),bb env cz y (aY [(0,aU k c m x z t)]) K (Op.box 42 (Operand.tmp 0))=some (.ptr (some ⟨y,0,0,0,6⟩),K.set y (bo (aU k c m x z t))):=by intro K y k c m x z t;kernel_rfl
 have al:bb env cz nid (aY F) H (Op.box 42 (Operand.tmp 0))=bb env cz nid (aY [(0,cc v)]) H (Op.box 42 (Operand.tmp 0)):=wD (by
  intro x ac;simp only [Op.operands,List.mem_cons,List.not_mem_nil,or_false]at ac;subst ac
  exact h)
 rw [al];exact an _ _ _ _ _ _ _ _
theorem Kt{k:Nat}(h:(1≤k∧k≤14)∨(21≤k∧k≤32)):(-2147483648≤(k:Int)-1∧(k:Int)-1≤2147483647)∧(¬21≤(k:Int)→0≤(k:Int)-1∧(k:Int)-1<14):= J
theorem yo{i:Nat}(ag:i<14):fi.elem? 0 i=some (.str (fh.getD i [])):=by have:i=0∨i=1∨i=2∨i=3∨i=4∨i=5∨i=6∨i=7∨i=8∨i=9∨i=10∨i=11∨i=12∨i=13:= J;rcases this with rfl|rfl|rfl|rfl|rfl|rfl|rfl|rfl|rfl|rfl|rfl|rfl|rfl|rfl<;>rfl
theorem Ku{e:b1}(a6:0≤e.dH)(aD:mf e)(H:I):∃v aH,bE 23 [cc e] H v aH∧v=gV e:=by
 have e3:∀{a b:Nat}{p:Prop},a≤b→p→_root_.cond (Nat.ble a b) p False:=fun h k=>by rw [Nat.ble_eq.mpr h];exact k
 obtain⟨cR,yp⟩:∃K,K=(⟨H.U+3,H.aB⟩:I).set H.U (bo (cc e)):=⟨_,rfl⟩
 have jy:cR.U=H.U+3:=by rw [yp];rfl
 have us:cR.get H.U=some (bo (cc e)):=by rw [yp];exact I.eU _ _ _
 have b3:∀{F:a'},aY F (.tmp 0)=cc e→bb env cz (H.U+0) (aY F) ⟨H.U+3,H.aB⟩ (Op.box 42 (Operand.tmp 0))=some (.ptr (some ⟨H.U,0,0,0,6⟩),cR):=fun h=>by rw [yp];exact Ks h
 obtain⟨w,c,H1,az,oP,km,av⟩:=J6 ⟨cR.U+7,cR.aB⟩ aD;have oP:cR.U+7≤H1.U:=oP;have ho:H1.get H.U=some (bo (cc e)):=(km _ (by show H.U<cR.U+7;omega)).trans us;have hO:bp (bq.D env) 42 ⟨H.U,0,0,0,6⟩ ⟨cR.U+7,cR.aB⟩=some (cc e):=J4 (h:=⟨cR.U+7,cR.aB⟩) us;have g1:∀j,(⟨H1.U+j,H1.aB⟩:I).get H.U=some (bo (cc e)):=fun j=>ho
 rcases av with ⟨bs,j,mm,rfl,Kv,aW⟩|⟨mm,rfl,rfl⟩
 ·obtain ⟨b,rfl,_⟩:=id Kv.ex;by_cases a7:e.kind=1
  ·
    obtain⟨r,m,rfl,hm,hF⟩:=ul a6 mm a7;have hs:Keys.Scalar r:=by have:=(nt hF).1;simpa using this
    obtain⟨q,ay⟩:=Co (B:=H.U) (H:=⟨H1.U+15,H1.aB⟩) (p:=H.U) (by show H.U≤H1.U+15;omega) (by show H.U<H1.U+15;omega) hm (g1 15)
    have sK:(dJ m).length≤15:=by unfold dJ cr cm cE;simp only [List.length_append];split<;>split<;>split<;>simp
    have g2:∀j,(⟨H1.U+15+q+j,H1.aB⟩:I).get H.U=some (bo (cc ⟨1,r,m,0,0,[]⟩)):=fun j=>ho
    obtain⟨bd,lb⟩:∃K,K=(⟨H1.U+15+q+29,H1.aB⟩:I).set (H1.U+15+q+24) (hQ r):=⟨_,rfl⟩
    have Kw:∀{F:a'},aY F (.tmp 85)=.int .i32 (r:Nat)→bb env cz (H1.U+15+q+24) (aY F) ⟨H1.U+15+q+29,H1.aB⟩ (Op.buildSlice 84 1 {toList:=[(0,Operand.tmp 85)]})=some (R.slice (some ⟨H1.U+15+q+24,0,0,0,1⟩) 1 1,bd):=by
     intro F df;have an:∀(K:I)(y:Nat)(z:Int),ij (bq.D env) 84 1 [(0,.int .i32 z)] y K=some (.slice (some ⟨y,0,0,0,1⟩) 1 1,K.set y (ai.aq [.int .i32 z] 1 true)):=by intro K y z;kernel_rfl
     show ij (bq.D env) 84 1 [(0,aY F (.tmp 85))] _ _=_;rw [df,lb];exact an _ _ _
    have Kx:=B3 (H:=bd) (q:=H1.U+15+q+24) hs (by rw [lb];exact I.eU _ _ _) (by rw [lb];show H1.U+15+q+24<H1.U+15+q+29;omega);have gT:bd.U=H1.U+15+q+29:=by rw [lb];rfl
    have pj:(put r).length≤4:=by
     rw [put_eq hs]
     repeat' split
     all_goals simp
    obtain ⟨v,aH,gq,rfl⟩:=Ka H.U H cR H1 ⟨H1.U+15+q,H1.aB⟩ bd bd r m ⟨j,b.bf,0,0,1⟩ bs.length (H1.U+15+q+24) (dJ m) (put r) (fun v _=>v=gV ⟨1,r,m,0,0,[]⟩)
     (aQ (Nat.le_refl _) ⟨b3 rfl,aQ J ⟨hO,⟨az⟩,aQ J ⟨ml (g1 12),aQ J (aQ J ⟨ay,aQ (by show H.U≤H1.U+15+q;omega) ⟨ml (g2 9),aQ (by show H.U≤H1.U+15+q+9;omega) ⟨ml (g2 13),aQ (by show H.U≤H1.U+15+q+13;omega) ⟨hq (g2 17),
      fun dK=>aQ (by show H.U≤H1.U+15+q+17;omega) ⟨by show(dJ m).length+5+1≤2^62;omega,e3 (by show H.U≤H1.U+15+q+21;omega) (by unfold gV;rw [qb mm];unfold fP;rw [if_pos J];rfl)⟩,
      fun dK=>aQ (by show H.U≤H1.U+15+q+17;omega) ⟨hq (g2 21),
       fun dL=>aQ (by show H.U≤H1.U+15+q+21;omega) ⟨by show(dJ m).length+4+1≤2^62;omega,e3 (by show H.U≤H1.U+15+q+25;omega) (by unfold gV;rw [qb mm];unfold fP;rw [if_neg J,if_pos J];rfl)⟩,
       fun dL=>aQ (by show H.U≤H1.U+15+q+21;omega) ⟨hq (g2 29),Kw rfl,⟨Kx⟩,by show(dJ m).length+(put r).length+1≤2^62;omega,e3 J (by unfold gV;rw [qb mm];unfold fP;rw [if_neg J,if_neg J])⟩⟩⟩⟩⟩⟩)⟩⟩⟩)
    exact⟨_,aH,gq,rfl⟩
  ·by_cases ba:e.kind=2
   ·
     obtain⟨k,m,rfl,hm,ap⟩:=yl a6 mm ba;obtain⟨q,ay⟩:=Co (B:=H.U) (H:=⟨H1.U+15,H1.aB⟩) (p:=H.U) (by show H.U≤H1.U+15;omega) (by show H.U<H1.U+15;omega) hm (g1 15)
     have sK:(dJ m).length≤15:=by unfold dJ cr cm cE;simp only [List.length_append];split<;>split<;>split<;>simp
     have g2:∀j,(⟨H1.U+15+q+j,H1.aB⟩:I).get H.U=some (bo (cc ⟨2,k,m,0,0,[]⟩)):=fun j=>ho
     have lM:=ym ⟨H1.U+15+q+23,H1.aB⟩;obtain⟨bd,lb⟩:∃K,K=(⟨H1.U+15+q+23+1,H1.aB⟩:I).set (H1.U+15+q+23) fi:=⟨_,rfl⟩
     have lM:bE 50 [.str r4] ⟨H1.U+15+q+23,H1.aB⟩ (.slice (some ⟨H1.U+15+q+23,0,0,0,1⟩) 14 14) bd:=by rw [lb];exact lM
     have me:bd.get H.U=some (bo (cc ⟨2,k,m,0,0,[]⟩)):=by rw [lb,I.dZ _ _ J];exact ho
     have gT:bd.U=H1.U+15+q+24:=by rw [lb];rfl
     have Ky:∀i,i<14→bp (bq.D env) 9 ⟨H1.U+15+q+23,0,0+i,0,1⟩ bd=some (.str (fh.getD i [])):=by
      intro i ag;have bt:(bq.D env 9).map (fun d=>d.kind.isAgg)=some false:= aG;obtain⟨x,aa,ae⟩:=Option.map_eq_some_iff.1 bt;have ah:bd.get (H1.U+15+q+23)=some fi:=by rw [lb];exact I.eU _ _ _
      have eh:fi.elem? 0 (0+i)=some (.str (fh.getD i [])):=by rw [Nat.zero_add];exact yo ag
      unfold bp;rw [aa,ah];simp only [eh,gK,ae];simp
     have Kz:21≤k→ ∃u,bE 49 [.int .i64 ((k:Int)-21+1)] ⟨H1.U+15+q+20,H1.aB⟩ (.str u) ⟨H1.U+15+q+20,H1.aB⟩∧102::u=iM k∧u.length≤2:=by
      intro iL;refine⟨qc (k-20),?_,Km iL J,by unfold qc;split<;>simp⟩;have:=Kn (n:=k-20) J J ⟨H1.U+15+q+20,H1.aB⟩
      rwa [show((k-20:Nat):Int)=(k:Int)-21+1 by omega]at this
     have Nx:(fh.getD (k-1) []).length≤9:=by have:∀i:Fin 40,(fh.getD i.val []).length≤9:= cg;exact this ⟨k-1,J⟩
     obtain⟨u,hu⟩:∃u,21≤k→bE 49 [.int .i64 ((k:Int)-21+1)] ⟨H1.U+15+q+20,H1.aB⟩ (.str u) ⟨H1.U+15+q+20,H1.aB⟩∧102::u=iM k∧u.length≤2:=by
      by_cases iL:21≤k
      ·obtain⟨u,hu⟩:=Kz iL;exact⟨u,fun _=>hu⟩
      ·exact⟨[],fun h=>absurd h iL⟩
     obtain⟨aJ,bl⟩:=Kt ap
     obtain ⟨v,aH,gq,rfl⟩:=J' H.U H cR H1 ⟨H1.U+15+q,H1.aB⟩ bd ⟨H1.U+15+q+20,H1.aB⟩ k m ⟨j,b.bf,0,0,1⟩ bs.length (H1.U+15+q+23) (dJ m) (fh.getD (k-1) []) u (fun v _=>v=gV ⟨2,k,m,0,0,[]⟩)
      (aQ (Nat.le_refl _) ⟨b3 rfl,aQ J ⟨hO,⟨az⟩,aQ J ⟨ml (g1 12),ml (g1 12),aQ J (aQ J ⟨ay,aQ (by show H.U≤H1.U+15+q;omega) ⟨ml (g2 9),hq (g2 9),
       fun iL=>aQ (by show H.U≤H1.U+15+q+9;omega) ⟨by show(dJ m).length+1+1≤2^62;omega,hq (g2 20),J,J,J,⟨(hu J).1⟩,by
        have:=(hu J).2.2;show(dJ m++[102]).length+u.length+1≤2^62
        rw [List.length_append];show(dJ m).length+1+u.length+1≤2^62;omega,e3 (by show H.U≤H1.U+15+q+20;omega) (by
        unfold gV;rw [um mm,← (hu J).2.1,List.append_assoc];rfl)⟩,
       fun iL=>aQ (by show H.U≤H1.U+15+q+9;omega) ⟨ml (g2 13),aQ (by show H.U≤H1.U+15+q+13;omega) ⟨⟨lM⟩,Fw (fun i ag=>by
           have ag:i<H1.U+15+q+23:=ag
           rw [lb,I.dZ _ _ J];rfl),hq me,by show H.U<H1.U+15+q+13;omega,aJ,bl iL,by
        have:=Ky (k-1) J
        rwa [show Int.toNat ((k:Int)-1)=k-1 by omega],by show(dJ m).length+(fh.getD (k-1) []).length+1≤2^62;omega,e3 J (by
        unfold gV;rw [um mm];unfold iM;rw [if_neg J])⟩⟩⟩⟩)⟩⟩⟩)
     exact⟨_,aH,gq,rfl⟩
   ·have Ny:¬e.kind=1:=a7
    obtain⟨v,aH,gq,rfl⟩:=J9 H.U H cR H1 e.kind e.code e.dH e.x e.y e.text ⟨j,b.bf,0,0,1⟩ bs.length (fun v _=>v=gV e)
     (aQ (Nat.le_refl _) ⟨b3 rfl,aQ J ⟨hO,⟨az⟩,aQ J ⟨ml (g1 12),fun q=>absurd q a7,fun _=>⟨ml (g1 12),fun q=>absurd q ba,fun _=>⟨rfl,aQ J (e3 J (by unfold gV;rw [Kd a7 ba]))⟩⟩⟩⟩⟩)
    exact⟨_,aH,gq,rfl⟩
 ·obtain⟨v,aH,gq,rfl⟩:=J8 H.U H cR H1 e.kind e.code e.dH e.x e.y e.text (fun v _=>v=gV e)
   (aQ (Nat.le_refl _) ⟨b3 rfl,aQ J ⟨hO,⟨az⟩,aQ J (aQ J (e3 J (by unfold gV;rw [Kc mm])))⟩⟩)
  exact⟨_,aH,gq,rfl⟩
theorem KA(e:b1):(gV e).jg=true:=by unfold gV;split<;>rfl
theorem KB{e:b1}(a6:0≤e.dH)(aD:mf e)(H:I):bE 23 [cc e] H (gV e) H:=by obtain⟨v,aH,az,rfl⟩:=Ku a6 aD ⟨0,.nil⟩;exact bn.cL ⟨_,_,az,rfl⟩ rfl (KA e) H
theorem KC{e:b1}(a6:0≤e.dH)(ap:e.kind=1∨e.kind=2)(H:I):bE 23 [cc e] H (gV e) H:=KB a6 (J5 a6 ap) H
end Go.Proofs.YtddnafghiejcoaaGreatDoor
namespace Go.Proofs
open Go.Shelf
def Tryz.uu:Go.Shelf.Ren:=⟨fun|172=>55|244=>84|245=>85|247=>100|279=>101|280=>102|281=>103|282=>104|287=>125|316=>126|171=>49|205=>127|321=>140|322=>141|243=>75|246=>96|283=>119|284=>120|285=>121|286=>122|129=>136|317=>135|318=>137|319=>138|320=>139|337=>151|338=>152|n=>n,fun|9=>9|3=>3|75=>89|76=>90|4=>4|5=>5|167=>137|37=>34|0=>0|85=>138|2=>2|168=>140|53=>151|175=>170|46=>108|210=>173|127=>186|145=>189|143=>187|21=>21|171=>154|173=>157|212=>179|51=>132|20=>20|213=>180|232=>203|233=>204|80=>212|n=>n,fun|15=>3|16=>4|17=>5|18=>6|19=>7|n=>n⟩
theorem Tryz.yq:Go.Proofs.LaysC.n172 Tryz.prog Tryz.uu:= {
 mixed:= aG
 f129:=Tryz.func136.trans (congrArg some aG)
 f171:=Tryz.func49.trans (congrArg some aG)
 f172:=Tryz.func55.trans (congrArg some aG)
 f205:=Tryz.func127.trans (congrArg some aG)
 f243:=Tryz.func75.trans (congrArg some aG)
 f244:=Tryz.func84.trans (congrArg some aG)
 f245:=Tryz.func85.trans (congrArg some aG)
 f246:=Tryz.func96.trans (congrArg some aG)
 f247:=Tryz.func100.trans (congrArg some aG)
 f279:=Tryz.func101.trans (congrArg some aG)
 f280:=Tryz.func102.trans (congrArg some aG)
 f281:=Tryz.func103.trans (congrArg some aG)
 f282:=Tryz.func104.trans (congrArg some aG)
 f283:=Tryz.func119.trans (congrArg some aG)
 f284:=Tryz.func120.trans (congrArg some aG)
 f285:=Tryz.func121.trans (congrArg some aG)
 f286:=Tryz.func122.trans (congrArg some aG)
 f287:=Tryz.func125.trans (congrArg some aG)
 f316:=Tryz.func126.trans (congrArg some aG)
 f317:=Tryz.func135.trans (congrArg some aG)
 f318:=Tryz.func137.trans (congrArg some aG)
 f319:=Tryz.func138.trans (congrArg some aG)
 f320:=Tryz.func139.trans (congrArg some aG)
 f321:=Tryz.func140.trans (congrArg some aG)
 f322:=Tryz.func141.trans (congrArg some aG)
 f337:=Tryz.func151.trans (congrArg some aG)
 f338:=Tryz.func152.trans (congrArg some aG)
 t0:=Tryz.underlying0
 a0:=Tryz.isAgg0
 z0:=Tryz.sizeOf0
 v0:=Tryz.zeroValue0
 t2:=Tryz.underlying2
 a2:=Tryz.isAgg2
 z2:=Tryz.sizeOf2
 v2:=Tryz.zeroValue2
 t3:=Tryz.underlying3
 a3:=Tryz.isAgg3
 z3:=Tryz.sizeOf3
 v3:=Tryz.zeroValue3
 t4:=Tryz.underlying4
 a4:=Tryz.isAgg4
 z4:=Tryz.sizeOf4
 v4:=Tryz.zeroValue4
 t5:=Tryz.underlying5
 a5:=Tryz.isAgg5
 z5:=Tryz.sizeOf5
 v5:=Tryz.zeroValue5
 t9:=Tryz.underlying9
 a9:=Tryz.isAgg9
 z9:=Tryz.sizeOf9
 v9:=Tryz.zeroValue9
 t20:=Tryz.underlying20
 a20:=Tryz.isAgg20
 z20:=Tryz.sizeOf20
 v20:=Tryz.zeroValue20
 t21:=Tryz.underlying21
 a21:=Tryz.isAgg21
 z21:=Tryz.sizeOf21
 v21:=Tryz.zeroValue21
 t37:=Tryz.underlying34
 a37:=Tryz.isAgg34
 z37:=Tryz.sizeOf34
 v37:=Tryz.zeroValue34
 t46:=Tryz.underlying108
 a46:=Tryz.isAgg108
 z46:=Tryz.sizeOf108
 v46:=Tryz.zeroValue108
 t51:=Tryz.underlying132
 a51:=Tryz.isAgg132
 z51:=Tryz.sizeOf132
 v51:=Tryz.zeroValue132
 t53:=Tryz.underlying151
 a53:=Tryz.isAgg151
 z53:=Tryz.sizeOf151
 v53:=Tryz.zeroValue151
 t75:=Tryz.underlying89
 a75:=Tryz.isAgg89
 z75:=Tryz.sizeOf89
 v75:=Tryz.zeroValue89
 t76:=Tryz.underlying90
 a76:=Tryz.isAgg90
 z76:=Tryz.sizeOf90
 v76:=Tryz.zeroValue90
 t85:=Tryz.underlying138
 a85:=Tryz.isAgg138
 z85:=Tryz.sizeOf138
 v85:=Tryz.zeroValue138
 t127:=Tryz.underlying186
 a127:=Tryz.isAgg186
 z127:=Tryz.sizeOf186
 v127:=Tryz.zeroValue186
 t143:=Tryz.underlying187
 a143:=Tryz.isAgg187
 z143:=Tryz.sizeOf187
 v143:=Tryz.zeroValue187
 t145:=Tryz.underlying189
 a145:=Tryz.isAgg189
 z145:=Tryz.sizeOf189
 v145:=Tryz.zeroValue189
 t167:=Tryz.underlying137
 a167:=Tryz.isAgg137
 z167:=Tryz.sizeOf137
 v167:=Tryz.zeroValue137
 t168:=Tryz.underlying140
 a168:=Tryz.isAgg140
 z168:=Tryz.sizeOf140
 v168:=Tryz.zeroValue140
 t171:=Tryz.underlying154
 a171:=Tryz.isAgg154
 z171:=Tryz.sizeOf154
 v171:=Tryz.zeroValue154
 t173:=Tryz.underlying157
 a173:=Tryz.isAgg157
 z173:=Tryz.sizeOf157
 v173:=Tryz.zeroValue157
 t175:=Tryz.underlying170
 a175:=Tryz.isAgg170
 z175:=Tryz.sizeOf170
 v175:=Tryz.zeroValue170
 t210:=Tryz.underlying173
 a210:=Tryz.isAgg173
 z210:=Tryz.sizeOf173
 v210:=Tryz.zeroValue173
 t212:=Tryz.underlying179
 a212:=Tryz.isAgg179
 z212:=Tryz.sizeOf179
 v212:=Tryz.zeroValue179
 t213:=Tryz.underlying180
 a213:=Tryz.isAgg180
 z213:=Tryz.sizeOf180
 t232:=Tryz.underlying203
 a232:=Tryz.isAgg203
 z232:=Tryz.sizeOf203
 v232:=Tryz.zeroValue203
 t233:=Tryz.underlying204
 a233:=Tryz.isAgg204
 z233:=Tryz.sizeOf204
 v233:=Tryz.zeroValue204
 g15:= aG
 g16:= aG
 g17:= aG
 g18:= aG
 g19:= aG
 t80:=Tryz.underlying212
 a80:=Tryz.isAgg212
 z80:=Tryz.sizeOf212
 v80:=Tryz.zeroValue212
 i0:= aG
 i2:= aG
 i3:= aG
 i4:= aG
 i5:= aG
 i9:= aG
 i20:= aG
 i21:= aG
 i37:= aG
 i46:= aG
 i51:= aG
 i53:= aG
 i75:= aG
 i76:= aG
 i80:= aG
 i85:= aG
 i127:= aG
 i143:= aG
 i145:= aG
 i167:= aG
 i168:= aG
 i171:= aG
 i173:= aG
 i175:= aG
 i210:= aG
 i212:= aG
 i232:= aG
 i233:= aG
 m15:= aG
 m16:= aG
 m17:= aG
 m18:= aG
 m19:= aG
 c0:= aG
 c2:= aG
 c3:= aG
 c4:= aG
 c5:= aG
 c9:= aG
 c20:= aG
 c21:= aG
 c37:= aG
 c46:= aG
 c51:= aG
 c53:= aG
 c75:= aG
 c76:= aG
 c80:= aG
 c85:= aG
 c127:= aG
 c143:= aG
 c145:= aG
 c167:= aG
 c168:= aG
 c171:= aG
 c173:= aG
 c175:= aG
 c210:= aG
 c212:= aG
 c213:= aG
 c232:= aG
 c233:=by kernel_rfl}
end Go.Proofs
namespace Go.Proofs.YtddnafghiejcoaaGreatDoor
open Go.bh Go.RowKit
set_option maxRecDepth 1000000
theorem KD{s:List UInt8}{v:Int}(hs:s.length<2^47)(h:Lib.atoiAll s=.ok v)(H:I):bE 55 [.str s] H (.tuple [.int .i64 v,.nilIface]) H:=by
 intro aF aN ck ef φ w cx dt b' dD;obtain⟨l⟩:=cx;simp only [aT]at dD;obtain⟨x,t,rfl,ac,rfl⟩:=dD;simp only [ar]at ac;obtain⟨u,rfl,hu⟩:=ac;refine⟨⟨Tryz.f55,_,Tryz.func55,rfl⟩,?_⟩;have dC:u.size=s.length:=by rw [←hu];exact Array.length_toList.symm
 have k:=Any.strconv_Atoi_ok Tryz.yq u J v (by rw [hu];exact h) w;refine Calls.mono k fun e aL ⟨he,hw⟩=> ?_
 subst he
 have an:Below w.heap.size w aL:=by
  rcases hw with rfl|⟨t,rfl⟩
  ·exact Below.refl _ _
  ·exact Lib.bytesWorld_below _ _ _
 exact⟨_,φ,rfl,dr.refl _ _,by simp only [ar,aT];exact⟨_,rfl,_,_,rfl,rfl,_,_,rfl,rfl,rfl⟩,dt.alike (Alike.below an),b'.BP ck an,Nat.le_refl _⟩
theorem KE{s:List UInt8}(hs:s.length<2^47)(h:∀v,Lib.atoiAll s≠ .ok v)(H:I):bE 55 [.str s] H (.tuple [.int .i64 (if Lib.atoiAll s= Lib.NumEnd.syntax then 0 else Lib.atoiSat s),.iface (Tryz.uu.t 168) .undef]) H:=by
 intro aF aN ck ef φ w cx dt b' dD;obtain⟨l⟩:=cx;simp only [aT]at dD;obtain⟨x,t,rfl,ac,rfl⟩:=dD;simp only [ar]at ac;obtain⟨u,rfl,hu⟩:=ac;refine⟨⟨Tryz.f55,_,Tryz.func55,rfl⟩,?_⟩;have dC:u.size=s.length:=by rw [←hu];exact Array.length_toList.symm
 have ur:=ef.keep b' (fun _ h=>h);obtain⟨ng,nh,KF⟩:=ur.xF;obtain⟨Nz,NA,KG⟩:=ur.xG
 have fin:∀{n:Int},Calls Tryz.prog 55 #[.string u] w (fun e aL=> ∃N,e=.returned (.tuple #[.int .i64 n,.iface (Tryz.uu.t 168) (.pointer (some ⟨N,0,none⟩))])∧Below w.heap.size w aL) →
  Calls Tryz.prog 55 #[.string u] w fun e aL=> ∃aK aZ,e=.returned aK∧dr φ aZ H.U∧ar aZ (.tuple [.int .i64 n,.iface (Tryz.uu.t 168) .undef]) aK∧bP aZ aF H aL∧Go.bh.Safe aF aN aL∧H.U≤H.U:=by
  intro n k;refine Calls.mono k fun e aL ⟨N,he,an⟩=> ?_
  subst he;exact⟨_,φ,rfl,dr.refl _ _,by simp only [ar,aT];exact⟨_,rfl,_,_,rfl,rfl,_,_,rfl,⟨_,rfl,trivial⟩,rfl⟩,dt.alike (Alike.below an),b'.BP ck an,Nat.le_refl _⟩
 cases av:Lib.atoiAll s with
 |ok v=>exact absurd av (h v)
 |range =>
  have k:=Any.strconv_Atoi_range Tryz.yq u J (by rw [hu];exact av) _ w KG (.inr ⟨_,_,rfl⟩);rw [if_neg (by intro q;cases q),←hu];exact fin (Calls.mono k fun e aL ⟨N,he,_,_,an⟩=>⟨N,he,an⟩)
 | _ =>
   have k:=Any.strconv_Atoi_syntax Tryz.yq u J (by rw [hu];exact av) _ w KF (.inr ⟨_,_,rfl⟩);rw [if_pos rfl];exact fin (Calls.mono k fun e aL ⟨N,he,_,_,an⟩=>⟨N,he,an⟩)
end Go.Proofs.YtddnafghiejcoaaGreatDoor
namespace Go.Proofs.YtddnafghiejcoaaGreatDoor
open Go.bh Go.Keys
set_option maxRecDepth 1000000
abbrev fQ:R:=R.str [99,116,114,108,43]
abbrev yr:R:=R.agg [fQ,.str [97,108,116,43],fG]
theorem KH(H H1:I)(B p:Nat)(s r t:Bytes)(m:Int)(ad:ch→a'→I→Prop)(aP:aV B (H.U) (aV B (H.U+1) (aV B (H.U+5) (bu 53 [.str r,fQ] (I.mk (H.U+13) (H.2)) (.tuple [.str t,.bool true]) (I.mk (H.U+13) (H.2))∧aV B (H.U+13) (aV B (H.U+14) (bp env.D 5 ⟨p,0,0,2,6⟩ (I.mk (H.U+21) (H.2))=some (.int .u8 m)∧p<H.U+14∧True∧bb env cz (H.U+20) (aY [(36,.ptr (some ⟨p,0,0,2,6⟩)),(35,.int .u8 (bR .u8 m (4))),(34,.int .u8 4),(33,.int .i64 0),(32,.int .u8 m),(31,.ptr (some ⟨p,0,0,2,6⟩)),(30,.bool true),(9,.bool true),(8,.str t),(29,.bool true),(28,.str t),(24,.tuple [.str t,.bool true]),(27,.tuple [.str t,.bool true]),(26,fQ),(25,.str r),(7,fQ),(6,.int .i64 0),(23,fQ),(22,.int .i64 0),(21,.bool true),(0,.str s),(2,.ptr (aC 0)),(4,.ptr (aC p)),(5,.str r),(19,yr),(20,.int .i64 0)]) (I.mk (H.U+21) (H.2)) (Op.store 5 (Operand.tmp 36) (Operand.tmp 35))=some (R.tuple [],H1)∧aV B (H1.U) (aV B (H1.U+2) (ad .normal [(0,.str s),(2,.ptr (aC 0)),(4,.ptr (aC p)),(5,.str t),(19,yr),(20,.int .i64 1)] (I.mk (H1.U+2+2) (I.aB (I.mk (H1.U+2) (I.aB H1)))))))))))) :
 ∃e aA aa,bK B 114 (bw 25 0) [(0,.str s),(2,.ptr (aC 0)),(4,.ptr (aC p)),(5,.str r),(19,gd),(20,.int .i64 0)] H e aA aa∧ad e aA aa :=
 eB dB mixed cP (hs:= .ao (.act 6002 (.tuple [.str t,.bool true]) fun h=>h) (.ao (.l2 8001 (.int .u8 m)) (ah 8004 (.ao (.act 8006 (.tuple []) fun x=>H1) .nil)))) (keep:=[0,2,4,5,19,20]) aG aP
theorem KI(H:I)(B p:Nat)(s r t:Bytes)(ad:ch→a'→I→Prop)(aP:aV B (H.U) (aV B (H.U+1) (aV B (H.U+5) (bu 53 [.str r,fQ] (I.mk (H.U+13) (H.2)) (.tuple [.str t,.bool false]) (I.mk (H.U+13) (H.2))∧aV B (H.U+13) (aV B (H.U+14) (ad .normal [(0,.str s),(2,.ptr (aC 0)),(4,.ptr (aC p)),(5,.str r),(19,yr),(20,.int .i64 1)] (I.mk (H.U+14+2) (I.aB (I.mk (H.U+13+1) (I.aB (I.mk (H.U+13) (H.2)))))))))))) :
 ∃e aA aa,bK B 114 (bw 25 0) [(0,.str s),(2,.ptr (aC 0)),(4,.ptr (aC p)),(5,.str r),(19,gd),(20,.int .i64 0)] H e aA aa∧ad e aA aa :=
 eB dB mixed cP (hs:= .ao (.act 6002 (.tuple [.str t,.bool false]) fun h=>h) .nil) (keep:=[0,2,4,5,19,20]) aG aP
abbrev gf:R:=R.str [97,108,116,43]
theorem KJ(H H1:I)(B p:Nat)(s r t:Bytes)(m:Int)(ad:ch→a'→I→Prop)(aP:aV B (H.U) (aV B (H.U+1) (aV B (H.U+5) (bu 53 [.str r,gf] (I.mk (H.U+13) (H.2)) (.tuple [.str t,.bool true]) (I.mk (H.U+13) (H.2))∧aV B (H.U+13) (aV B (H.U+14) (bp env.D 5 ⟨p,0,0,2,6⟩ (I.mk (H.U+21) (H.2))=some (.int .u8 m)∧p<H.U+14∧True∧bb env cz (H.U+20) (aY [(36,.ptr (some ⟨p,0,0,2,6⟩)),(35,.int .u8 (bR .u8 m (2))),(34,.int .u8 2),(33,.int .i64 1),(32,.int .u8 m),(31,.ptr (some ⟨p,0,0,2,6⟩)),(30,.bool true),(9,.bool true),(8,.str t),(29,.bool true),(28,.str t),(24,.tuple [.str t,.bool true]),(27,.tuple [.str t,.bool true]),(26,gf),(25,.str r),(7,gf),(6,.int .i64 1),(23,gf),(22,.int .i64 1),(21,.bool true),(0,.str s),(2,.ptr (aC 0)),(4,.ptr (aC p)),(5,.str r),(19,.agg [fQ,gf,fG]),(20,.int .i64 1)]) (I.mk (H.U+21) (H.2)) (Op.store 5 (Operand.tmp 36) (Operand.tmp 35))=some (R.tuple [],H1)∧aV B (H1.U) (aV B (H1.U+2) (ad .normal [(0,.str s),(2,.ptr (aC 0)),(4,.ptr (aC p)),(5,.str t),(19,.agg [fQ,gf,fG]),(20,.int .i64 2)] (I.mk (H1.U+2+2) (I.aB (I.mk (H1.U+2) (I.aB H1)))))))))))) :
 ∃e aA aa,bK B 114 (bw 25 0) [(0,.str s),(2,.ptr (aC 0)),(4,.ptr (aC p)),(5,.str r),(19,gd),(20,.int .i64 1)] H e aA aa∧ad e aA aa :=
 eB dB mixed cP (hs:= .ao (.act 6002 (.tuple [.str t,.bool true]) fun h=>h) (.ao (.l2 8001 (.int .u8 m)) (ah 8004 (.ao (.act 8006 (.tuple []) fun x=>H1) .nil)))) (keep:=[0,2,4,5,19,20]) aG aP
theorem KK(H:I)(B p:Nat)(s r t:Bytes)(ad:ch→a'→I→Prop)(aP:aV B (H.U) (aV B (H.U+1) (aV B (H.U+5) (bu 53 [.str r,gf] (I.mk (H.U+13) (H.2)) (.tuple [.str t,.bool false]) (I.mk (H.U+13) (H.2))∧aV B (H.U+13) (aV B (H.U+14) (ad .normal [(0,.str s),(2,.ptr (aC 0)),(4,.ptr (aC p)),(5,.str r),(19,.agg [fQ,gf,fG]),(20,.int .i64 2)] (I.mk (H.U+14+2) (I.aB (I.mk (H.U+13+1) (I.aB (I.mk (H.U+13) (H.2)))))))))))) :
 ∃e aA aa,bK B 114 (bw 25 0) [(0,.str s),(2,.ptr (aC 0)),(4,.ptr (aC p)),(5,.str r),(19,gd),(20,.int .i64 1)] H e aA aa∧ad e aA aa :=
 eB dB mixed cP (hs:= .ao (.act 6002 (.tuple [.str t,.bool false]) fun h=>h) .nil) (keep:=[0,2,4,5,19,20]) aG aP
theorem KL(H H1:I)(B p:Nat)(s r t:Bytes)(m:Int)(ad:ch→a'→I→Prop)(aP:aV B (H.U) (aV B (H.U+1) (aV B (H.U+5) (bu 53 [.str r,fG] (I.mk (H.U+13) (H.2)) (.tuple [.str t,.bool true]) (I.mk (H.U+13) (H.2))∧aV B (H.U+13) (aV B (H.U+14) (bp env.D 5 ⟨p,0,0,2,6⟩ (I.mk (H.U+21) (H.2))=some (.int .u8 m)∧p<H.U+14∧True∧bb env cz (H.U+20) (aY [(36,.ptr (some ⟨p,0,0,2,6⟩)),(35,.int .u8 (bR .u8 m (1))),(34,.int .u8 1),(33,.int .i64 2),(32,.int .u8 m),(31,.ptr (some ⟨p,0,0,2,6⟩)),(30,.bool true),(9,.bool true),(8,.str t),(29,.bool true),(28,.str t),(24,.tuple [.str t,.bool true]),(27,.tuple [.str t,.bool true]),(26,fG),(25,.str r),(7,fG),(6,.int .i64 2),(23,fG),(22,.int .i64 2),(21,.bool true),(0,.str s),(2,.ptr (aC 0)),(4,.ptr (aC p)),(5,.str r),(19,.agg [fQ,gf,fG]),(20,.int .i64 2)]) (I.mk (H.U+21) (H.2)) (Op.store 5 (Operand.tmp 36) (Operand.tmp 35))=some (R.tuple [],H1)∧aV B (H1.U) (aV B (H1.U+2) (ad .normal [(0,.str s),(2,.ptr (aC 0)),(4,.ptr (aC p)),(5,.str t),(19,.agg [fQ,gf,fG]),(20,.int .i64 3)] (I.mk (H1.U+2+2) (I.aB (I.mk (H1.U+2) (I.aB H1)))))))))))) :
 ∃e aA aa,bK B 114 (bw 25 0) [(0,.str s),(2,.ptr (aC 0)),(4,.ptr (aC p)),(5,.str r),(19,gd),(20,.int .i64 2)] H e aA aa∧ad e aA aa :=
 eB dB mixed cP (hs:= .ao (.act 6002 (.tuple [.str t,.bool true]) fun h=>h) (.ao (.l2 8001 (.int .u8 m)) (ah 8004 (.ao (.act 8006 (.tuple []) fun x=>H1) .nil)))) (keep:=[0,2,4,5,19,20]) aG aP
theorem KM(H:I)(B p:Nat)(s r t:Bytes)(ad:ch→a'→I→Prop)(aP:aV B (H.U) (aV B (H.U+1) (aV B (H.U+5) (bu 53 [.str r,fG] (I.mk (H.U+13) (H.2)) (.tuple [.str t,.bool false]) (I.mk (H.U+13) (H.2))∧aV B (H.U+13) (aV B (H.U+14) (ad .normal [(0,.str s),(2,.ptr (aC 0)),(4,.ptr (aC p)),(5,.str r),(19,.agg [fQ,gf,fG]),(20,.int .i64 3)] (I.mk (H.U+14+2) (I.aB (I.mk (H.U+13+1) (I.aB (I.mk (H.U+13) (H.2)))))))))))) :
 ∃e aA aa,bK B 114 (bw 25 0) [(0,.str s),(2,.ptr (aC 0)),(4,.ptr (aC p)),(5,.str r),(19,gd),(20,.int .i64 2)] H e aA aa∧ad e aA aa :=
 eB dB mixed cP (hs:= .ao (.act 6002 (.tuple [.str t,.bool false]) fun h=>h) .nil) (keep:=[0,2,4,5,19,20]) aG aP
theorem KN(H:I)(B p:Nat)(s r:Bytes)(ad:ch→a'→I→Prop)(aP:aV B (H.U) (ad (.exit 0) [(0,.str s),(2,.ptr (aC 0)),(4,.ptr (aC p)),(5,.str r),(19,.agg [fQ,gf,fG]),(20,.int .i64 3)] (I.mk (H.U+1) (I.aB H)))) :
 ∃e aA aa,bK B 114 (bw 25 0) [(0,.str s),(2,.ptr (aC 0)),(4,.ptr (aC p)),(5,.str r),(19,gd),(20,.int .i64 3)] H e aA aa∧ad e aA aa :=
 eB dB mixed cP (hs:= .nil) (keep:=[0,2,4,5,19,20]) aG aP
theorem KO(H H1:I)(B p q i:Nat)(s r:Bytes)(ad:ch→a'→I→Prop)(aP:aV B (H.U) (((i:Int)<14→aV B (H.U+1) ((0≤(i:Int)∧(i:Int)<14)∧bp env.D 9 ⟨q,0,0+Int.toNat (i:Int),0,1⟩ (I.mk (H.U+6) (H.2))=some (R.str r)∧aV B (H.U+6) ((r=r→aV B (H.U+9) ((-9223372036854775808≤(i:Int)+1∧(i:Int)+1≤9223372036854775807)∧(-2147483648≤(i:Int)+1∧(i:Int)+1≤2147483647)∧bb env cz (H.U+13) (aY [(66,.ptr (some ⟨p,0,0,1,6⟩)),(65,.int .i32 ((i:Int)+1)),(64,.int .i64 ((i:Int)+1)),(63,.int .i64 (i:Int)),(62,.bool true),(61,.str r),(60,.str r),(13,.str r),(12,.int .i64 (i:Int)),(59,.str r),(58,.ptr (some ⟨q,0,0+Int.toNat (i:Int),0,1⟩)),(57,.int .i64 (i:Int)),(56,.bool true),(0,.str s),(2,.ptr (aC 0)),(4,.ptr (aC p)),(5,.str r),(53,.slice (bS q) 14 14),(54,.int .i64 14),(55,.int .i64 (i:Int))]) (I.mk (H.U+14) (H.2)) (Op.store 21 (Operand.tmp 66) (Operand.tmp 65))=some (R.tuple [],H1)∧aV B (H1.U) ((-9223372036854775808≤(i:Int)+1∧(i:Int)+1≤9223372036854775807)∧ad .normal [(0,.str s),(2,.ptr (aC 0)),(4,.ptr (aC p)),(5,.str r),(53,.slice (bS q) 14 14),(54,.int .i64 14),(55,.int .i64 ((i:Int)+1))] (I.mk (H1.U+2) (I.aB H1)))))∧(¬r=r→aV B (H.U+9) ((-9223372036854775808≤(i:Int)+1∧(i:Int)+1≤9223372036854775807)∧ad .normal [(0,.str s),(2,.ptr (aC 0)),(4,.ptr (aC p)),(5,.str r),(53,.slice (bS q) 14 14),(54,.int .i64 14),(55,.int .i64 ((i:Int)+1))] (I.mk (H.U+9+2) (I.aB (I.mk (H.U+6+3) (I.aB (I.mk (H.U+1+5) (I.aB (I.mk (H.U+1) (I.aB H)))))))))))))∧(¬(i:Int)<14→ad (.exit 3) [(0,.str s),(2,.ptr (aC 0)),(4,.ptr (aC p)),(5,.str r),(53,.slice (bS q) 14 14),(54,.int .i64 14),(55,.int .i64 (i:Int))] (I.mk (H.U+1) (I.aB H))))) :
 ∃e aA aa,bK B 114 (bw 25 1) [(0,.str s),(2,.ptr (aC 0)),(4,.ptr (aC p)),(5,.str r),(53,.slice (bS q) 14 14),(54,.int .i64 14),(55,.int .i64 (i:Nat))] H e aA aa∧ad e aA aa :=
 eB dB mixed cP (hs:= .aO 18000 (ah 19001 (.ao (.val 19002 (.str r)) (.aO 20002 (ah 21001 (ah 21002 (.ao (.act 21004 (.tuple []) fun x=>H1) (ah 22000 .nil)))) (ah 22000 .nil)))) .nil) (keep:=[0,2,4,5,53,54,55]) aG aP
theorem Cp(H:I)(B p q i:Nat)(s r w:Bytes)(ad:ch→a'→I→Prop)(aP:aV B (H.U) (((i:Int)<14→aV B (H.U+1) ((0≤(i:Int)∧(i:Int)<14)∧bp env.D 9 ⟨q,0,0+Int.toNat (i:Int),0,1⟩ (I.mk (H.U+6) (H.2))=some (R.str w)∧aV B (H.U+6) (some (R.bool (w == r))=some (R.bool false)∧aV B (H.U+9) ((-9223372036854775808≤(i:Int)+1∧(i:Int)+1≤9223372036854775807)∧ad .normal [(0,.str s),(2,.ptr (aC 0)),(4,.ptr (aC p)),(5,.str r),(53,.slice (bS q) 14 14),(54,.int .i64 14),(55,.int .i64 ((i:Int)+1))] (I.mk (H.U+9+2) (I.aB (I.mk (H.U+6+3) (I.aB (I.mk (H.U+1+5) (I.aB (I.mk (H.U+1) (I.aB H))))))))))))∧(¬(i:Int)<14→ad (.exit 3) [(0,.str s),(2,.ptr (aC 0)),(4,.ptr (aC p)),(5,.str r),(53,.slice (bS q) 14 14),(54,.int .i64 14),(55,.int .i64 (i:Int))] (I.mk (H.U+1) (I.aB H))))) :
 ∃e aA aa,bK B 114 (bw 25 1) [(0,.str s),(2,.ptr (aC 0)),(4,.ptr (aC p)),(5,.str r),(53,.slice (bS q) 14 14),(54,.int .i64 14),(55,.int .i64 (i:Nat))] H e aA aa∧ad e aA aa :=
 eB dB mixed cP (hs:= .aO 18000 (ah 19001 (.ao (.val 19002 (.str w)) (.ao (.val 20002 (.bool false)) (ah 22000 .nil)))) .nil) (keep:=[0,2,4,5,53,54,55]) aG aP
end Go.Proofs.YtddnafghiejcoaaGreatDoor
namespace Go.Proofs.YtddnafghiejcoaaGreatDoor
open Go.bh Go.Keys Go.Lib
set_option maxRecDepth 1000000
theorem KP{h:I}{x:Nat}{k c m n y z:Int}{t:Bytes}(e:h.get x=some (bo (aU k c m y z t))):ii (bq.D env) 5 ⟨x,0,0,2,6⟩ (.int .u8 n) h=some (h.set x (bo (aU k c n y z t))):=by have bt:(bq.D env 5).map (fun d=>(d.kind.isAgg,d.size))=some (false,1):= aG;obtain⟨x,aa,ae⟩:=Option.map_eq_some_iff.1 bt;simp only [Prod.mk.injEq]at ae;unfold ii;rw [aa,e];simp [R.fits,ae.1,ae.2,ai.aq,o6,R.cells,gx,R.gZ]
theorem KQ{h:I}{x:Nat}{k c d m y z:Int}{t:Bytes}(e:h.get x=some (bo (aU k c m y z t))):ii (bq.D env) 21 ⟨x,0,0,1,6⟩ (.int .i32 d) h=some (h.set x (bo (aU k d m y z t))):=by have bt:(bq.D env 21).map (fun d=>(d.kind.isAgg,d.size))=some (false,1):= aG;obtain⟨x,aa,ae⟩:=Option.map_eq_some_iff.1 bt;simp only [Prod.mk.injEq]at ae;unfold ii;rw [aa,e];simp [R.fits,ae.1,ae.2,ai.aq,o6,R.cells,gx,R.gZ]
theorem KR:bR .u8 0 4=4:=by decide+kernel
theorem KS:∀n:Fin 2,bR .u8 ((4*n.val:Nat):Int) 2=((4*n.val+2:Nat):Int):=by decide+kernel
theorem KT:∀n:Fin 4,bR .u8 ((2*n.val:Nat):Int) 1=((2*n.val+1:Nat):Int):=by decide+kernel
abbrev hS(p:Nat)(s r:Bytes)(i:Int):a':=[(0,.str s),(2,.ptr (some ⟨0,0,0,0,6⟩)),(4,.ptr (some ⟨p,0,0,0,6⟩)),(5,.str r),(19,gd),(20,.int .i64 i)]
structure jN(H aH:I)(p m:Nat):Prop where
 get:aH.get p=some (bo (aU 0 0 m 0 0 []))
 U:H.U≤aH.U
 old:∀x,x<H.U→x≠p→aH.get x=H.get x
theorem jN.pad{H aH:I}{p m k:Nat}(g:jN H aH p m):jN H ⟨aH.U+k,aH.aB⟩ p m:=⟨g.get,by have:=g.U;show H.U≤aH.U+k;omega,g.old⟩
theorem KU{H:I}{B p:Nat}{s:Bytes}(b':B≤H.U)(ab:p<H.U)(hs:s.length<2^47)(ah:H.get p=some (bo (aU 0 0 0 0 0 []))) :
 ∃aH,bK B 114 (.loop (bw 25 0)) (hS p s s 0) H (.exit 0) (hS p s (bG s) 3) aH∧jN H aH p (b9 s):=by
 have cut:∀(K:I)(w r:Bytes),bE 53 [.str r,.str w] K (.tuple [.str (cV w r),.bool (w.isPrefixOf r)]) K:=fun K w r=>Ip r w K
 have yt:∀{K:I}{m n:Nat},jN H K p m→ ∃eR,eR=K.set p (bo (aU 0 0 n 0 0 []))∧ii (bq.D env) 5 ⟨p,0,0,2,6⟩ (.int .u8 (n:Nat)) K=some eR∧jN H eR p n:=by intro K m n g;refine⟨_,rfl,KP g.get,I.eU _ _ _,g.U,fun x ac bJ=> ?_⟩;rw [I.dZ _ _ (Ne.symm bJ)];exact g.old x ac bJ
 have jB:∃K,bK B 114 (bw 25 0) (hS p s s 0) H .normal (hS p s (e9 s) 1) K∧jN H K p (if cr.isPrefixOf s then 4 else 0):=by
  have qd:jN H H p 0:=⟨ah,Nat.le_refl _,fun _ _ _=>rfl⟩
  have al:=cut ⟨H.U+13,H.aB⟩ cr s;cases av:cr.isPrefixOf s with
  |true =>
   rw [av]at al;obtain⟨K,cH,gF,kq⟩:=yt (K:=⟨H.U+21,H.aB⟩) (n:=4) qd.pad
   obtain⟨e,aA,aa,aR,rfl,rfl,rfl⟩:=KH H K B p s s (e9 s) (0:Nat) (fun e aA aa=>e=.normal∧aA=hS p s (e9 s) 1∧aa=⟨K.U+4,K.aB⟩)
    (aQ b' (aQ J (aQ J ⟨⟨al⟩,aQ J (aQ J ⟨hp (h:=⟨H.U+21,H.aB⟩) ah,J,trivial,rS rfl (by show R.int .u8 (bR .u8 0 4)=_;rw [KR];rfl) gF,aQ (by have:=kq.U;omega) (aQ (by have:=kq.U;omega) ⟨rfl,rfl,rfl⟩)⟩)⟩)))
   exact⟨_,aR,kq.pad⟩
  |false =>
   rw [av]at al;have bk:e9 s=s:=by unfold e9 cV;rw [av];rfl
   obtain⟨e,aA,aa,aR,rfl,rfl,rfl⟩:=KI H B p s s (e9 s) (fun e aA aa=>e=.normal∧aA=hS p s s 1∧aa=⟨H.U+16,H.aB⟩)
    (aQ b' (aQ J (aQ J ⟨⟨al⟩,aQ J (aQ J ⟨rfl,rfl,rfl⟩)⟩)))
   rw [bk];exact⟨_,aR,qd.pad⟩
 have s1:∀{K:I}{n:Nat}(r:Bytes),n<2→jN H K p (4*n)→ ∃eR,bK B 114 (bw 25 0) (hS p s r 1) K .normal (hS p s (cV cm r) 2) eR∧jN H eR p (4*n+if cm.isPrefixOf r then 2 else 0):=by
  intro K n r aI g;have KV:=g.U;have al:=cut ⟨K.U+13,K.aB⟩ cm r;cases av:cm.isPrefixOf r with
  |true =>
   rw [av]at al;obtain⟨eR,cH,gF,kq⟩:=yt (K:=⟨K.U+21,K.aB⟩) (n:=4*n+2) g.pad
   obtain⟨e,aA,aa,aR,rfl,rfl,rfl⟩:=KJ K eR B p s r (cV cm r) ((4*n:Nat):Int) (fun e aA aa=>e=.normal∧aA=hS p s (cV cm r) 2∧aa=⟨eR.U+4,eR.aB⟩)
    (aQ J (aQ J (aQ J ⟨⟨al⟩,aQ J (aQ J ⟨hp (h:=⟨K.U+21,K.aB⟩) g.get,J,trivial,rS rfl (by show R.int .u8 (bR .u8 ((4*n:Nat):Int) 2)=_;rw [KS ⟨n,aI⟩]) gF,aQ (by have:=kq.U;omega) (aQ (by have:=kq.U;omega) ⟨rfl,rfl,rfl⟩)⟩)⟩)))
   exact⟨_,aR,kq.pad⟩
  |false =>
   rw [av]at al;have bk:cV cm r=r:=by unfold cV;rw [av];rfl
   obtain⟨e,aA,aa,aR,rfl,rfl,rfl⟩:=KK K B p s r (cV cm r) (fun e aA aa=>e=.normal∧aA=hS p s r 2∧aa=⟨K.U+16,K.aB⟩)
    (aQ J (aQ J (aQ J ⟨⟨al⟩,aQ J (aQ J ⟨rfl,rfl,rfl⟩)⟩)))
   rw [bk];exact⟨_,aR,g.pad⟩
 have s2:∀{K:I}{n:Nat}(r:Bytes),n<4→jN H K p (2*n)→ ∃eR,bK B 114 (bw 25 0) (hS p s r 2) K .normal (hS p s (cV cE r) 3) eR∧jN H eR p (2*n+if cE.isPrefixOf r then 1 else 0):=by
  intro K n r aI g;have KV:=g.U;have al:=cut ⟨K.U+13,K.aB⟩ cE r;cases av:cE.isPrefixOf r with
  |true =>
   rw [av]at al;obtain⟨eR,cH,gF,kq⟩:=yt (K:=⟨K.U+21,K.aB⟩) (n:=2*n+1) g.pad
   obtain⟨e,aA,aa,aR,rfl,rfl,rfl⟩:=KL K eR B p s r (cV cE r) ((2*n:Nat):Int) (fun e aA aa=>e=.normal∧aA=hS p s (cV cE r) 3∧aa=⟨eR.U+4,eR.aB⟩)
    (aQ J (aQ J (aQ J ⟨⟨al⟩,aQ J (aQ J ⟨hp (h:=⟨K.U+21,K.aB⟩) g.get,J,trivial,rS rfl (by show R.int .u8 (bR .u8 ((2*n:Nat):Int) 1)=_;rw [KT ⟨n,aI⟩]) gF,aQ (by have:=kq.U;omega) (aQ (by have:=kq.U;omega) ⟨rfl,rfl,rfl⟩)⟩)⟩)))
   exact⟨_,aR,kq.pad⟩
  |false =>
   rw [av]at al;have bk:cV cE r=r:=by unfold cV;rw [av];rfl
   obtain⟨e,aA,aa,aR,rfl,rfl,rfl⟩:=KM K B p s r (cV cE r) (fun e aA aa=>e=.normal∧aA=hS p s r 3∧aa=⟨K.U+16,K.aB⟩)
    (aQ J (aQ J (aQ J ⟨⟨al⟩,aQ J (aQ J ⟨rfl,rfl,rfl⟩)⟩)))
   rw [bk];exact⟨_,aR,g.pad⟩
 obtain⟨ad,gh,g0⟩:=jB
 obtain⟨uv,dY,g1⟩:=s1 (n:=if cr.isPrefixOf s then 1 else 0) (e9 s) (by split<;>omega) (by
  have:4* (if cr.isPrefixOf s then 1 else 0)=(if cr.isPrefixOf s then 4 else 0):=by split<;>rfl
  rw [this];exact g0)
 obtain⟨nw,eH,g2⟩:=s2 (n:=2* (if cr.isPrefixOf s then 1 else 0)+if cm.isPrefixOf (e9 s)then 1 else 0) (ib s) (by split<;>split<;>omega) (by
  have:2* (2* (if cr.isPrefixOf s then 1 else 0)+if cm.isPrefixOf (e9 s)then 1 else 0)=4* (if cr.isPrefixOf s then 1 else 0)+(if cm.isPrefixOf (e9 s)then 2 else 0):=by split<;>split<;>rfl
  rw [this];exact g1)
 have p4:=g2.U;obtain⟨e,aA,aa,nv,rfl,rfl,rfl⟩:=KN nw B p s (bG s) (fun e aA aa=>e=.exit 0∧aA=hS p s (bG s) 3∧aa=⟨nw.U+1,nw.aB⟩) (aQ J ⟨rfl,rfl,rfl⟩)
 have em:2* (2* (if cr.isPrefixOf s then 1 else 0)+if cm.isPrefixOf (e9 s)then 1 else 0)+(if cE.isPrefixOf (ib s)then 1 else 0)=b9 s:=by unfold b9;split<;>split<;>split<;>rfl
 rw [em]at g2;exact⟨_,cQ.ei (b8.step gh (b8.step dY (b8.step eH (b8.last a1 nv)))),g2.pad⟩
end Go.Proofs.YtddnafghiejcoaaGreatDoor
namespace Go.Proofs.YtddnafghiejcoaaGreatDoor
open Go.bh Go.Keys Go.Lib
set_option maxRecDepth 1000000
def ht(t:Bytes):Nat→Nat
 |0=>0
 |i+1=>if fh.getD i []=t then i+1 else ht t i
theorem Cq(t:Bytes):∀i,ht t i≤i
 |0=>Nat.le_refl _
 |i+1=>by unfold ht;have:=Cq t i;split<;>omega
theorem KW{K:I}{q i:Nat}(h:K.get q=some fi)(ag:i<14):bp (bq.D env) 9 ⟨q,0,0+Int.toNat (i:Int),0,1⟩ K=some (.str (fh.getD i [])):=by have bt:(bq.D env 9).map (fun d=>d.kind.isAgg)=some false:= aG;obtain⟨x,aa,ae⟩:=Option.map_eq_some_iff.1 bt;unfold bp;rw [aa,h,Int.toNat_natCast,Nat.zero_add];simp only [yo ag,gK,ae];simp
abbrev nx(p q:Nat)(s r:Bytes)(i:Nat):a':=[(0,.str s),(2,.ptr (some ⟨0,0,0,0,6⟩)),(4,.ptr (some ⟨p,0,0,0,6⟩)),(5,.str r),(53,.slice (some ⟨q,0,0,0,1⟩) 14 14),(54,.int .i64 14),(55,.int .i64 (i:Nat))]
structure mn(H aH:I)(p m c:Nat):Prop where
 get:aH.get p=some (bo (aU 2 c m 0 0 []))
 U:H.U≤aH.U
 old:∀x,x<H.U→x≠p→aH.get x=H.get x
theorem mn.pad{H aH:I}{p m c k:Nat}(g:mn H aH p m c):mn H ⟨aH.U+k,aH.aB⟩ p m c:=⟨g.get,by have:=g.U;show H.U≤aH.U+k;omega,g.old⟩
theorem KX{H:I}{B p q m:Nat}{s r:Bytes}(b':B≤H.U)(ab:p<H.U)(av:q<H.U)(bJ:q≠p)(hw:H.get q=some fi) :
 ∀(n i:Nat)(K:I),14-i≤n→i≤14→mn H K p m (ht r i) →
  ∃aH,eP B 114 (bw 25 1) (nx p q s r i) K (.exit 3) (nx p q s r 14) aH∧mn H aH p m (ht r 14):=by
 have fin:∀(K:I),mn H K p m (ht r 14)→ ∃aH,eP B 114 (bw 25 1) (nx p q s r 14) K (.exit 3) (nx p q s r 14) aH∧mn H aH p m (ht r 14):=by
  intro K g;have aI:=g.U
  obtain⟨e,aA,aa,aR,rfl,rfl,rfl⟩:=Cp K B p q 14 s r [] (fun e aA aa=>e=.exit 3∧aA=nx p q s r 14∧aa=⟨K.U+1,K.aB⟩)
   (aQ J ⟨fun h=> J,fun _=>⟨rfl,rfl,rfl⟩⟩)
  exact⟨_,b8.last a1 aR,g.pad⟩
 intro n;induction n with
 |zero =>
  intro i K aI ag g;obtain rfl:i=14:= J;exact fin K g
 |succ n ih =>
  intro i K aI ag g;by_cases al:i<14
  ·have n8:=g.U;have ze:K.get q=some fi:=(g.old q av bJ).trans hw;have hb:=KW (K:=⟨K.U+6,K.aB⟩) ze al;have eY:((i:Int)+1)=((i+1:Nat):Int):= J;by_cases he:fh.getD i []=r
   ·have KY:bp (bq.D env) 9 ⟨q,0,0+Int.toNat (i:Int),0,1⟩ ⟨K.U+6,K.aB⟩=some (.str r):=by rw [hb,he]
    obtain⟨eR,uw⟩:∃X,X=(⟨K.U+14,K.aB⟩:I).set p (bo (aU 2 ((i+1:Nat):Int) m 0 0 [])):=⟨_,rfl⟩
    have gF:ii (bq.D env) 21 ⟨p,0,0,1,6⟩ (.int .i32 ((i:Int)+1)) ⟨K.U+14,K.aB⟩=some eR:=by rw [uw,eY];exact KQ (h:=⟨K.U+14,K.aB⟩) g.get
    have fH:mn H eR p m (ht r (i+1)):=by refine⟨by rw [uw,I.eU];unfold ht;rw [if_pos he],by rw [uw];show H.U≤K.U+14;omega,fun x ac Cr=> ?_⟩;rw [uw,I.dZ _ _ (Ne.symm Cr)];exact g.old x ac Cr
    have hc:=fH.U
    obtain⟨e,aA,aa,aR,rfl,rfl,rfl⟩:=KO K eR B p q i s r (fun e aA aa=>e=.normal∧aA=nx p q s r (i+1)∧aa=⟨eR.U+2,eR.aB⟩)
     (aQ J ⟨fun _=>aQ J ⟨⟨J,J⟩,KY,aQ J ⟨fun _=>aQ J ⟨⟨J,J⟩,⟨J,J⟩,rS rfl rfl gF,aQ J ⟨⟨J,J⟩,rfl,by rw [eY],rfl⟩⟩,fun h=>absurd rfl h⟩⟩,fun h=>absurd J h⟩)
    obtain⟨aH,ca,qd⟩:=ih (i+1) _ J J (fH.pad (k:=2));exact⟨aH,b8.step aR ca,qd⟩
   ·have an:(fh.getD i [] == r)=false:=by
     cases av:fh.getD i [] == r with
     |false=>rfl
     |true=>exact absurd (eq_of_beq av) he
    have fH:mn H K p m (ht r (i+1)):=by
     have bk:ht r (i+1)=ht r i:=by rw [ht,if_neg he]
     rw [bk];exact g
    obtain⟨e,aA,aa,aR,rfl,rfl,rfl⟩:=Cp K B p q i s r (fh.getD i []) (fun e aA aa=>e=.normal∧aA=nx p q s r (i+1)∧aa=⟨K.U+11,K.aB⟩)
     (aQ J ⟨fun _=>aQ J ⟨⟨J,J⟩,hb,aQ J ⟨by rw [an],aQ J ⟨⟨J,J⟩,rfl,by rw [eY],rfl⟩⟩⟩,fun h=>absurd J h⟩)
    obtain⟨aH,ca,qd⟩:=ih (i+1) _ J J (fH.pad (k:=11));exact⟨aH,b8.step aR ca,qd⟩
  ·obtain rfl:i=14:= J;exact fin K g
theorem Cs(t:Bytes):ht t 14=iN t:=by
 by_cases h:t∈fh
 ·have:∀i:Fin 14,ht (fh.getD i.val []) 14=iN (fh.getD i.val []):=by decide+kernel
  obtain⟨i,ag,rfl⟩:=List.mem_iff_getElem.1 h;have eI:i<14:=ag;have:=this ⟨i,eI⟩;simp only [List.getD_eq_getElem?_getD,List.getElem?_eq_getElem ag,Option.getD_some]at this;exact this
 ·have aa:∀i,i≤14→ht t i=0:=by
   intro i;induction i with
   |zero=>intro _;rfl
   |succ i ih =>
    intro ag;unfold ht;rw [if_neg (fun q=>h (by rw [←q,List.getD_eq_getElem?_getD,List.getElem?_eq_getElem (by show i<14;omega),Option.getD_some];exact List.getElem_mem _))];exact ih J
  rw [aa 14 (Nat.le_refl _)];unfold iN
  rw [List.findIdx?_eq_none_iff.2 (fun x ac=>by
   cases av:x == t with
   |false=>rfl
   |true=>exact absurd ((eq_of_beq av)▸ac) h)]
end Go.Proofs.YtddnafghiejcoaaGreatDoor
namespace Go.Proofs.YtddnafghiejcoaaGreatDoor
open Go.bh Go.Keys
set_option maxRecDepth 1000000
theorem KZ(s p:Bytes)(ad:bT)(aP:((↑(List.length p):Int)≤(↑(List.length s):Int)→(0≤(↑(List.length p):Int)∧(↑(List.length p):Int)≤(↑(List.length s):Int))∧(List.take (Int.toNat (↑(List.length p):Int)) s=p→(0≤(↑(List.length p):Int)∧(↑(List.length p):Int)≤(↑(List.length s):Int))∧ad (.str (List.drop (Int.toNat (↑(List.length p):Int)) s)) (I.ak 29 []))∧(¬List.take (Int.toNat (↑(List.length p):Int)) s=p→ad (.str s) (I.ak 26 [])))∧(¬(↑(List.length p):Int)≤(↑(List.length s):Int)→ad (.str s) (I.ak 26 []))) :
 bW 56 [.str s,.str p] (⟨0,.nil⟩) ad :=
 bZ cl (he 1002 (he 1002 (.aO 1004 (ah 1009 (.aO 1011 (ah 2003 .nil) .nil)) .nil))) aP
abbrev lc:R:=R.str [117,112]
abbrev ld:R:=R.slice (bS 33) 14 14
abbrev jO(t:Bytes)(f:Int):R:=R.tuple [.str t,.int .i64 f]
abbrev lf:R:=R.str [116,97,98]
abbrev lg:R:=R.str [101,110,100]
abbrev lh:R:=R.str [100,111,119,110]
abbrev li:R:=R.str [104,111,109,101]
abbrev lj:R:=R.str [108,101,102,116]
abbrev lk:R:=R.str [101,110,116,101,114]
abbrev ll:R:=R.str [114,105,103,104,116]
abbrev lm:R:=R.str [101,115,99,97,112,101]
abbrev ln:R:=R.str [112,97,103,101,117,112]
abbrev lo:R:=R.str [100,101,108,101,116,101]
abbrev lp:R:=R.str [105,110,115,101,114,116]
abbrev lq:R:=R.str [112,97,103,101,100,111,119,110]
abbrev lr:R:=R.str [98,97,99,107,115,112,97,99,101]
abbrev r5(m d:Int):R:=R.agg [.int .i8 1,.int .i32 d,.int .u8 m,.int .i64 0,.int .i64 0,.str []]
abbrev oS(m no:Int):R:=R.agg [.int .i8 2,.int .i32 no,.int .u8 m,.int .i64 0,.int .i64 0,.str []]
abbrev ux(m:Int):R:=R.agg [.int .i8 1,.int .i32 0,.int .u8 m,.int .i64 0,.int .i64 0,.str []]
abbrev qe(m:Int):R:=R.agg [.int .i8 2,.int .i32 0,.int .u8 m,.int .i64 0,.int .i64 0,.str []]
abbrev oT(m:Int):R:=R.agg [.int .i8 1,.int .i32 32,.int .u8 m,.int .i64 0,.int .i64 0,.str []]
abbrev oU(m:Int):R:=R.agg [.int .i8 1,.int .i32 43,.int .u8 m,.int .i64 0,.int .i64 0,.str []]
abbrev jP:R:=R.agg [.int .i8 0,.int .i32 0,.int .u8 0,.int .i64 0,.int .i64 0,.str []]
abbrev yu(m n:Int):R:=R.agg [.int .i8 2,.int .i32 (21+n-1),.int .u8 m,.int .i64 0,.int .i64 0,.str []]
abbrev cA:ai:=(ai.aq ([jP]) 6 true (some (42,6)))
abbrev gg:R:=R.tuple [jP,.int .i64 220]
abbrev jQ(m:Int):ai:=(ai.aq ([(oT m)]) 6 true (some (42,6)))
abbrev jR(m:Int):ai:=(ai.aq ([(oU m)]) 6 true (some (42,6)))
abbrev jS(m d:Int):ai:=(ai.aq ([(r5 m d)]) 6 true (some (42,6)))
abbrev qf(m n:Int):ai:=(ai.aq ([(yu m n)]) 6 true (some (42,6)))
abbrev r6(m no:Int):ai:=(ai.aq ([(oS m no)]) 6 true (some (42,6)))
abbrev kr(t:Bytes)(f:Int):cv:=(.ao (.act 30001 ((jO t f)) fun h=>h) (.aO 31001 (.aO 31005 .nil .nil) .nil))
abbrev jm:ai:=(ai.aq ([lk,lf,lr,lm,lc,lh,ll,lj,li,lg,lp,lo,ln,lq]) 1 true)
abbrev ny(m no:Int):I:=(I.ak 78 [(0,cA),(2,(r6 m no)),(33,jm)])
abbrev nz(m no:Int):I:=(I.ak 100 [(0,cA),(2,(r6 m no)),(33,jm)])
abbrev qg(m no:Int):I:=(I.ak 110 [(0,cA),(2,(r6 m no)),(33,jm)])
abbrev Ct(m no:Int):I:=(I.ak 110 [(0,(r6 m no)),(2,(r6 m no)),(33,jm)])
abbrev yv(s t:Bytes)(m no f:Int)(ad:bT):Prop:=(f=0→(t=s→ad (.tuple [(oS m no),.int .i64 0]) (Ct m no))∧(¬t=s→ad (gg) (qg m no)))
theorem K0(s r u t:Bytes)(m d k no n f:Int)(ad:bT)(aP:bK 0 114 (Code.loop (bw 25 0)) [(0,.str s),(2,.ptr (aC 0)),(4,.ptr (aC 2)),(5,.str s),(19,.agg [fQ,gf,fG]),(20,.int .i64 0)] (I.ak 7 [(0,ai.aq [jP] 6 true (some (42,6))),(2,ai.aq [jP] 6 true (some (42,6)))]) (.exit 0) [(0,.str s),(2,.ptr (aC 0)),(4,.ptr (aC 2)),(5,.str r),(19,gd),(20,.int .i64 3)] (I.ak 10 [(0,bo (aU 0 0 0 0 0 [])),(2,bo (aU 0 0 m 0 0 []))])∧(r=[(115:UInt8),(112:UInt8),(97:UInt8),(99:UInt8),(101:UInt8)]→bu 23 [(oT m)] (I.ak 24 [(0,cA),(2,(jQ m))]) ((jO t f)) (I.ak 24 [(0,cA),(2,(jQ m))])∧(f=0→(t=s→ad (.tuple [(oT m),.int .i64 0]) (I.ak 34 [(0,(jQ m)),(2,(jQ m))]))∧(¬t=s→ad (gg) (I.ak 34 [(0,cA),(2,(jQ m))])))∧(¬f=0→ad (gg) (I.ak 34 [(0,cA),(2,(jQ m))])))∧(¬r=[(115:UInt8),(112:UInt8),(97:UInt8),(99:UInt8),(101:UInt8)]→(r=[(112:UInt8),(108:UInt8),(117:UInt8),(115:UInt8)]→bu 23 [(oU m)] (I.ak 26 [(0,cA),(2,(jR m))]) ((jO t f)) (I.ak 26 [(0,cA),(2,(jR m))])∧(f=0→(t=s→ad (.tuple [(oU m),.int .i64 0]) (I.ak 36 [(0,(jR m)),(2,(jR m))]))∧(¬t=s→ad (gg) (I.ak 36 [(0,cA),(2,(jR m))])))∧(¬f=0→ad (gg) (I.ak 36 [(0,cA),(2,(jR m))])))∧(¬r=[(112:UInt8),(108:UInt8),(117:UInt8),(115:UInt8)]→bu 54 [.str r] (I.ak 24 [(0,cA),(2,(ai.aq ([(ux m)]) 6 true (some (42,6))))]) (.tuple [.int .i32 d,.int .i64 k]) (I.ak 24 [(0,cA),(2,(ai.aq ([(ux m)]) 6 true (some (42,6))))])∧(k=(↑(List.length r):Int)→bu 23 [(r5 m d)] (I.ak 38 [(0,cA),(2,(jS m d))]) ((jO t f)) (I.ak 38 [(0,cA),(2,(jS m d))])∧(f=0→(t=s→ad (.tuple [(r5 m d),.int .i64 0]) (I.ak 48 [(0,(jS m d)),(2,(jS m d))]))∧(¬t=s→ad (gg) (I.ak 48 [(0,cA),(2,(jS m d))])))∧(¬f=0→ad (gg) (I.ak 48 [(0,cA),(2,(jS m d))])))∧(¬k=(↑(List.length r):Int)→bu 50 [.str [101,110,116,101,114,32,116,97,98,32,98,97,99,107,115,112,97,99,101,32,101,115,99,97,112,101,32,117,112,32,100,111,119,110,32,114,105,103,104,116,32,108,101,102,116,32,104,111,109,101,32,101,110,100,32,105,110,115,101,114,116,32,100,101,108,101,116,101,32,112,97,103,101,117,112,32,112,97,103,101,100,111,119,110]] (I.ak 33 [(0,cA),(2,(ai.aq ([(qe m)]) 6 true (some (42,6))))]) (ld) (I.ak 34 [(0,cA),(2,(ai.aq ([(qe m)]) 6 true (some (42,6)))),(33,jm)])∧bK 0 114 (Code.loop (bw 25 1)) [(0,.str s),(2,.ptr (aC 0)),(4,.ptr (aC 2)),(5,.str r),(53,ld),(54,.int .i64 14),(55,.int .i64 0)] (I.ak 34 [(0,cA),(2,(ai.aq ([(qe m)]) 6 true (some (42,6)))),(33,jm)]) (.exit 3) [(0,.str s),(2,.ptr (aC 0)),(4,.ptr (aC 2)),(5,.str r),(53,ld),(54,.int .i64 14),(55,.int .i64 14)] (I.ak 70 [(0,bo (aU 0 0 0 0 0 [])),(2,bo (aU 2 no m 0 0 [])),(33,fi)])∧bu 56 [.str r,.str [102]] (ny m no) (.str u) (ny m no)∧bu 55 [.str u] (ny m no) (.tuple [.int .i64 n,R.nilIface]) (ny m no)∧(1≤n→(n≤12→(no=0→(-2147483648≤n∧n≤2147483647)∧(-2147483648≤21+n∧21+n≤2147483647)∧(-2147483648≤21+n-1∧21+n-1≤2147483647)∧bu 23 [(yu m n)] (I.ak 106 [(0,cA),(2,(qf m n)),(33,jm)]) ((jO t f)) (I.ak 106 [(0,cA),(2,(qf m n)),(33,jm)])∧(f=0→(t=s→ad (.tuple [(yu m n),.int .i64 0]) (I.ak 116 [(0,(qf m n)),(2,(qf m n)),(33,jm)]))∧(¬t=s→ad (gg) (I.ak 116 [(0,cA),(2,(qf m n)),(33,jm)])))∧(¬f=0→ad (gg) (I.ak 116 [(0,cA),(2,(qf m n)),(33,jm)])))∧(¬no=0→bu 23 [(oS m no)] (nz m no) ((jO t f)) (nz m no)∧(yv s t m no f ad)∧(¬f=0→ad (gg) (qg m no))))∧(¬n≤12→bu 23 [(oS m no)] (nz m no) ((jO t f)) (nz m no)∧(yv s t m no f ad)∧(¬f=0→ad (gg) (qg m no))))∧(¬1≤n→bu 23 [(oS m no)] (nz m no) ((jO t f)) (nz m no)∧(yv s t m no f ad)∧(¬f=0→ad (gg) (qg m no))))))) :
 bW 25 [.str s] (⟨0,.nil⟩) ad :=
 bZ cP (.ao (.keep [0,2,4,5,19,20]) (.ao (.loop [(0,.str s),(2,.ptr (aC 0)),(4,.ptr (aC 2)),(5,.str r),(19,gd),(20,.int .i64 3)] (I.ak 10 [(0,bo (aU 0 0 0 0 0 [])),(2,bo (aU 0 0 m 0 0 []))]) (.exit 0)) (.aO 26000 (kr t f) (.aO 28000 (kr t f) (.ao (.act 13001 (.tuple [.int .i32 d,.int .i64 k]) fun h=>h) (.aO 14003 (kr t f) (.ao (.act 17000 (ld) fun x=>I.ak 34 [(0,bo (aU 0 0 0 0 0 [])),(2,bo (aU 2 0 m 0 0 [])),(33,fi)]) (.ao (.keep [0,2,4,5,53,54,55]) (.ao (.loop [(0,.str s),(2,.ptr (aC 0)),(4,.ptr (aC 2)),(5,.str r),(53,ld),(54,.int .i64 14),(55,.int .i64 14)] (I.ak 70 [(0,bo (aU 0 0 0 0 0 [])),(2,bo (aU 2 no m 0 0 [])),(33,fi)]) (.exit 3)) (.ao (.act 23001 (.str u) fun h=>h) (.ao (.act 23002 (.tuple [.int .i64 n,R.nilIface]) fun h=>h) (.aO 24004 (.aO 24008 (.aO 24013 (ah 25001 (ah 25002 (ah 25003 (kr t f)))) (kr t f)) (kr t f)) (kr t f))))))))))))) aP
theorem Cu(s r u t:Bytes)(m d k no n f:Int)(T:TypeId)(ad:bT)(aP:bK 0 114 (Code.loop (bw 25 0)) [(0,.str s),(2,.ptr (aC 0)),(4,.ptr (aC 2)),(5,.str s),(19,.agg [fQ,gf,fG]),(20,.int .i64 0)] (I.ak 7 [(0,ai.aq [jP] 6 true (some (42,6))),(2,ai.aq [jP] 6 true (some (42,6)))]) (.exit 0) [(0,.str s),(2,.ptr (aC 0)),(4,.ptr (aC 2)),(5,.str r),(19,gd),(20,.int .i64 3)] (I.ak 10 [(0,bo (aU 0 0 0 0 0 [])),(2,bo (aU 0 0 m 0 0 []))])∧(r=[(115:UInt8),(112:UInt8),(97:UInt8),(99:UInt8),(101:UInt8)]→bu 23 [(oT m)] (I.ak 24 [(0,cA),(2,(jQ m))]) ((jO t f)) (I.ak 24 [(0,cA),(2,(jQ m))])∧(f=0→(t=s→ad (.tuple [(oT m),.int .i64 0]) (I.ak 34 [(0,(jQ m)),(2,(jQ m))]))∧(¬t=s→ad (gg) (I.ak 34 [(0,cA),(2,(jQ m))])))∧(¬f=0→ad (gg) (I.ak 34 [(0,cA),(2,(jQ m))])))∧(¬r=[(115:UInt8),(112:UInt8),(97:UInt8),(99:UInt8),(101:UInt8)]→(r=[(112:UInt8),(108:UInt8),(117:UInt8),(115:UInt8)]→bu 23 [(oU m)] (I.ak 26 [(0,cA),(2,(jR m))]) ((jO t f)) (I.ak 26 [(0,cA),(2,(jR m))])∧(f=0→(t=s→ad (.tuple [(oU m),.int .i64 0]) (I.ak 36 [(0,(jR m)),(2,(jR m))]))∧(¬t=s→ad (gg) (I.ak 36 [(0,cA),(2,(jR m))])))∧(¬f=0→ad (gg) (I.ak 36 [(0,cA),(2,(jR m))])))∧(¬r=[(112:UInt8),(108:UInt8),(117:UInt8),(115:UInt8)]→bu 54 [.str r] (I.ak 24 [(0,cA),(2,(ai.aq ([(ux m)]) 6 true (some (42,6))))]) (.tuple [.int .i32 d,.int .i64 k]) (I.ak 24 [(0,cA),(2,(ai.aq ([(ux m)]) 6 true (some (42,6))))])∧(k=(↑(List.length r):Int)→bu 23 [(r5 m d)] (I.ak 38 [(0,cA),(2,(jS m d))]) ((jO t f)) (I.ak 38 [(0,cA),(2,(jS m d))])∧(f=0→(t=s→ad (.tuple [(r5 m d),.int .i64 0]) (I.ak 48 [(0,(jS m d)),(2,(jS m d))]))∧(¬t=s→ad (gg) (I.ak 48 [(0,cA),(2,(jS m d))])))∧(¬f=0→ad (gg) (I.ak 48 [(0,cA),(2,(jS m d))])))∧(¬k=(↑(List.length r):Int)→bu 50 [.str [101,110,116,101,114,32,116,97,98,32,98,97,99,107,115,112,97,99,101,32,101,115,99,97,112,101,32,117,112,32,100,111,119,110,32,114,105,103,104,116,32,108,101,102,116,32,104,111,109,101,32,101,110,100,32,105,110,115,101,114,116,32,100,101,108,101,116,101,32,112,97,103,101,117,112,32,112,97,103,101,100,111,119,110]] (I.ak 33 [(0,cA),(2,(ai.aq ([(qe m)]) 6 true (some (42,6))))]) (ld) (I.ak 34 [(0,cA),(2,(ai.aq ([(qe m)]) 6 true (some (42,6)))),(33,jm)])∧bK 0 114 (Code.loop (bw 25 1)) [(0,.str s),(2,.ptr (aC 0)),(4,.ptr (aC 2)),(5,.str r),(53,ld),(54,.int .i64 14),(55,.int .i64 0)] (I.ak 34 [(0,cA),(2,(ai.aq ([(qe m)]) 6 true (some (42,6)))),(33,jm)]) (.exit 3) [(0,.str s),(2,.ptr (aC 0)),(4,.ptr (aC 2)),(5,.str r),(53,ld),(54,.int .i64 14),(55,.int .i64 14)] (I.ak 70 [(0,bo (aU 0 0 0 0 0 [])),(2,bo (aU 2 no m 0 0 [])),(33,fi)])∧bu 56 [.str r,.str [102]] (ny m no) (.str u) (ny m no)∧bu 55 [.str u] (ny m no) (.tuple [.int .i64 n,R.iface T R.undef]) (ny m no)∧bu 23 [(oS m no)] (nz m no) ((jO t f)) (nz m no)∧(f=0→(t=s→ad (.tuple [(oS m no),.int .i64 0]) (Ct m no))∧(¬t=s→ad (gg) (qg m no)))∧(¬f=0→ad (gg) (qg m no)))))) :
 bW 25 [.str s] (⟨0,.nil⟩) ad :=
 bZ cP (.ao (.keep [0,2,4,5,19,20]) (.ao (.loop [(0,.str s),(2,.ptr (aC 0)),(4,.ptr (aC 2)),(5,.str r),(19,gd),(20,.int .i64 3)] (I.ak 10 [(0,bo (aU 0 0 0 0 0 [])),(2,bo (aU 0 0 m 0 0 []))]) (.exit 0)) (.aO 26000 (kr t f) (.aO 28000 (kr t f) (.ao (.act 13001 (.tuple [.int .i32 d,.int .i64 k]) fun h=>h) (.aO 14003 (kr t f) (.ao (.act 17000 (ld) fun x=>I.ak 34 [(0,bo (aU 0 0 0 0 0 [])),(2,bo (aU 2 0 m 0 0 [])),(33,fi)]) (.ao (.keep [0,2,4,5,53,54,55]) (.ao (.loop [(0,.str s),(2,.ptr (aC 0)),(4,.ptr (aC 2)),(5,.str r),(53,ld),(54,.int .i64 14),(55,.int .i64 14)] (I.ak 70 [(0,bo (aU 0 0 0 0 0 [])),(2,bo (aU 2 no m 0 0 [])),(33,fi)]) (.exit 3)) (.ao (.act 23001 (.str u) fun h=>h) (.ao (.act 23002 (.tuple [.int .i64 n,R.iface T R.undef]) fun h=>h) (kr t f)))))))))))) aP
end Go.Proofs.YtddnafghiejcoaaGreatDoor
namespace Go.Proofs.YtddnafghiejcoaaGreatDoor
open Go.bh Go.Keys Go.Lib
set_option maxRecDepth 1000000
theorem yw(s p:Bytes)(H:I):bE 56 [.str s,.str p] H (.str (cV p s)) H:=by
 refine bn.cL (KZ s p (fun v _=>v=.str (cV p s)) ⟨fun h=>⟨⟨J,h⟩,fun e=>⟨⟨J,h⟩,?_⟩,fun e=> ?_⟩,fun h=> ?_⟩) rfl rfl H
 ·unfold cV;rw [pre_true (by simpa using e)];simp
 ·unfold cV;rw [pY (by simpa using e)];simp
 ·unfold cV;rw [pY (take_len J)];simp
def iO(s:Bytes):R:=match named s with|some e=> .tuple [cc e,.int .i64 0]|none=> .tuple [aU 0 0 0 0 0 [],.int .i64 220]
theorem K1(e:b1):∃t f,gV e=.tuple [.str t,.int .i64 f]∧(f=0→e4 e=some t)∧(¬f=0→e4 e=none):=by
 unfold gV;cases h:e4 e with
 |some s=>exact⟨s,0,rfl,fun _=>rfl,fun h=>absurd rfl h⟩
 |none=>exact⟨[],220,rfl,fun h=>absurd h cg,fun _=>rfl⟩
theorem mo(k c m:Int)(L:List Nat):∀e∈(bo (aU k c m 0 0 [])).bc,bH (Go.bh.ff L) e:=by
 intro e he;obtain rfl:e=aU k c m 0 0 []:=by simpa [ai.aq]using he
 exact(cO.of rfl).ha _
theorem K2(L:List Nat):∀e∈fi.bc,bH (Go.bh.ff L) e:=by intro e he;obtain⟨q,_,rfl⟩:=List.mem_map.1 (show e∈mj.map R.str from he);exact(cO.str q).ha _
theorem K3{s:Bytes}(hs:s.length<2^47):∃v af,bE 25 [.str s] ⟨0,.nil⟩ v af∧v=iO s:=by
 obtain⟨t,f,aI,s5,K4⟩:=K1 (fu s);have Cv:0≤(fu s).dH:=Int.natCast_nonneg _
 have leaf:∀{k c:Int},fu s=⟨k,c,(b9 s:Nat),0,0,[]⟩→(∀K,bu 23 [aU k c (b9 s:Nat) 0 0 []] K (.tuple [.str t,.int .i64 f]) K) ∧
  (f=0→(t=s→(.tuple [aU k c (b9 s:Nat) 0 0 [],.int .i64 0]:R)=iO s)∧(¬t=s→(.tuple [aU 0 0 0 0 0 [],.int .i64 220]:R)=iO s))∧(¬f=0→(.tuple [aU 0 0 0 0 0 [],.int .i64 220]:R)=iO s):=by
  intro k c ah;refine⟨fun K=>⟨?_⟩,fun a6=>⟨fun bz=> ?_,fun bz=> ?_⟩,fun a6=> ?_⟩
  ·have:=KC Cv (by show kp _=1∨kp _=2;unfold kp;split;exact .inl rfl;exact .inr rfl) K;rw [aI,ah]at this;exact this
  ·have:named s=some (fu s):=by unfold named;rw [s5 a6,bz,if_pos rfl]
   unfold iO;rw [this,ah];rfl
  ·have:named s=none:=by unfold named;rw [s5 a6,if_neg (fun q=>bz (Option.some.inj q))]
   unfold iO;rw [this]
  ·have:named s=none:=by unfold named;rw [K4 a6,if_neg (fun q=>by cases q)]
   unfold iO;rw [this]
 obtain⟨uv,dY,g1⟩:=KU (H:=I.ak 7 [(0,bo (aU 0 0 0 0 0 [])),(2,bo (aU 0 0 0 0 0 []))]) (B:=0) (p:=2) (s:=s) (Nat.zero_le _) (by show 2<7;omega) hs rfl;have qW:uv.get 0=some (bo (aU 0 0 0 0 0 [])):=(g1.old 0 (by show 0<7;omega) J).trans rfl
 have gu:=dY.post (cY.drop (base:=0) (n:=114) (F:=hS 2 s (bG s) 3) (h:=uv) (K:=10) (l:=[(0,bo (aU 0 0 0 0 0 [])),(2,bo (aU 0 0 (b9 s:Nat) 0 0 []))]) (by simp only [List.map_cons,List.map_nil,qW,g1.get]) rfl rfl rfl
  (bm.cons trivial (bm.cons (by simp [bH,Go.bh.ff]) (bm.cons (by simp [bH,Go.bh.ff]) (bm.cons trivial (bm.cons ((cO.of rfl).ha _) (bm.cons trivial bm.nil)))))) (bm.cons (mo _ _ _ _) (bm.cons (mo _ _ _ _) bm.nil)))
 obtain⟨nw,eE,g2⟩:=KX (H:=I.ak 34 [(0,bo (aU 0 0 0 0 0 [])),(2,bo (aU 2 0 (b9 s:Nat) 0 0 [])),(33,fi)]) (B:=0) (p:=2) (q:=33) (m:=b9 s) (s:=s) (r:=bG s) (Nat.zero_le _) (by show 2<34;omega) (by show 33<34;omega) J rfl 14 0 _ J J ⟨rfl,Nat.le_refl _,fun _ _ _=>rfl⟩;have K5:nw.get 0=some (bo (aU 0 0 0 0 0 [])):=(g2.old 0 (by show 0<34;omega) J).trans rfl;have K6:nw.get 33=some fi:=(g2.old 33 (by show 33<34;omega) J).trans rfl;have Cw:=g2.get;rw [Cs]at Cw
 have hT:=(cQ.ei eE).post (cY.drop (base:=0) (n:=114) (F:=nx 2 33 s (bG s) 14) (h:=nw) (K:=70) (l:=[(0,bo (aU 0 0 0 0 0 [])),(2,bo (aU 2 (iN (bG s):Nat) (b9 s:Nat) 0 0 [])),(33,fi)]) (by simp only [List.map_cons,List.map_nil,K5,Cw,K6]) rfl rfl rfl
  (bm.cons trivial (bm.cons (by simp [bH,Go.bh.ff]) (bm.cons (by simp [bH,Go.bh.ff]) (bm.cons trivial (bm.cons (by simp [bH,Go.bh.ff]) (bm.cons trivial (bm.cons trivial bm.nil))))))) (bm.cons (mo _ _ _ _) (bm.cons (mo _ _ _ _) (bm.cons (K2 _) bm.nil))))
 have bk:∀m:Int,I.rows 10 [(0,bo (aU 0 0 0 0 0 [])),(2,bo (aU 0 0 m 0 0 []))]=I.ak 10 [(0,bo (aU 0 0 0 0 0 [])),(2,bo (aU 0 0 m 0 0 []))]:=by intro m;kernel_rfl
 have bV:∀m w:Int,I.rows 70 [(0,bo (aU 0 0 0 0 0 [])),(2,bo (aU 2 w m 0 0 [])),(33,fi)]=I.ak 70 [(0,bo (aU 0 0 0 0 0 [])),(2,bo (aU 2 w m 0 0 [])),(33,fi)]:=by intro m w;kernel_rfl
 have jv:∀m:Int,(⟨(I.ak 33 [(0,bo (aU 0 0 0 0 0 [])),(2,bo (aU 2 0 m 0 0 []))]).U+1,(I.ak 33 [(0,bo (aU 0 0 0 0 0 [])),(2,bo (aU 2 0 m 0 0 []))]).aB⟩:I).set 33 fi=I.ak 34 [(0,bo (aU 0 0 0 0 0 [])),(2,bo (aU 2 0 m 0 0 [])),(33,fi)]:=by intro m;kernel_rfl
 rw [bk]at gu;rw [bV]at hT
 have lM:bE 50 [.str r4] (I.ak 33 [(0,bo (aU 0 0 0 0 0 [])),(2,bo (aU 2 0 (b9 s:Nat) 0 0 []))]) (.slice (some ⟨33,0,0,0,1⟩) 14 14) (I.ak 34 [(0,bo (aU 0 0 0 0 0 [])),(2,bo (aU 2 0 (b9 s:Nat) 0 0 [])),(33,fi)]):=by have:=ym (I.ak 33 [(0,bo (aU 0 0 0 0 0 [])),(2,bo (aU 2 0 (b9 s:Nat) 0 0 []))]);rw [←jv];exact this
 have NB:=ym (I.ak 33 [(0,bo (aU 0 0 0 0 0 [])),(2,bo (aU 2 0 (b9 s:Nat) 0 0 []))]);have nA:∀K,bE 54 [.str (bG s)] K (.tuple [.int .i32 ((first (bG s)).1:Int),.int .i64 ((first (bG s)).2.1:Int)]) K:=fun K=>Ii (bG s) K
 have qh:bG s=mh→fu s=⟨1,32,(b9 s:Nat),0,0,[]⟩:=by intro h;unfold fu kp mi;rw [h];rfl
 have qi:¬bG s=mh→bG s=nu→fu s=⟨1,43,(b9 s:Nat),0,0,[]⟩:=by intro _ h;unfold fu kp mi;rw [h];rfl
 have qj:¬bG s=mh→ ¬bG s=nu→((first (bG s)).2.1:Int)=(bG s).length→fu s=⟨1,((first (bG s)).1:Int),(b9 s:Nat),0,0,[]⟩:=by intro aa ae aS;have aS:(first (bG s)).2.1=(bG s).length:= J;unfold fu kp mi;rw [if_pos (.inr (.inr aS)),if_neg aa,if_neg ae,if_pos aS]
 have yx:¬bG s=mh→ ¬bG s=nu→ ¬((first (bG s)).2.1:Int)=(bG s).length→fu s=⟨2,if iN (bG s)=0 then la (bG s)else(iN (bG s):Nat),(b9 s:Nat),0,0,[]⟩:=by intro aa ae aS;have aS:¬(first (bG s)).2.1=(bG s).length:= J;unfold fu kp mi;rw [if_neg (by rintro (h|h|h)<;>contradiction),if_neg aa,if_neg ae,if_neg aS]
 have NC:=Cs (bG s)▸Cq (bG s) 14
 have ND:(bG s).length≤s.length:=by
  have al:∀p r,(cV p r).length≤r.length:=by intro p r;unfold cV;split<;>simp
  exact Nat.le_trans (al _ _) (Nat.le_trans (al _ _) (al _ _))
 have q5:(k' (bG s)).length<2^47:=by
  have:(k' (bG s)).length≤(bG s).length:=by unfold k' cV;split<;>simp
  omega
 have qk:¬bG s=mh→ ¬bG s=nu→ ¬((first (bG s)).2.1:Int)=(bG s).length→la (bG s)=0→fu s=⟨2,(iN (bG s):Nat),(b9 s:Nat),0,0,[]⟩:=by
  intro aa ae aS bj;rw [yx aa ae aS,bj];split
  ·rename_i q;rw [q];rfl
  ·rfl
 have bad:(∀v,atoiAll (k' (bG s))≠ .ok v)→ ∃n T,∀K,bE 55 [.str (k' (bG s))] K (.tuple [.int .i64 n,.iface T .undef]) K:=fun h=>⟨_,_,fun K=>KE q5 h K⟩
 cases aD:atoiAll (k' (bG s))with
 |ok n =>
  have kQ:=KD q5 aD
  refine K0 s (bG s) (k' (bG s)) t (b9 s:Nat) ((first (bG s)).1:Int) ((first (bG s)).2.1:Int) (iN (bG s):Nat) n f (fun v _=>v=iO s)
   ⟨gu,fun aa=>⟨(leaf (qh aa)).1 _,(leaf (qh aa)).2⟩,fun aa=>⟨fun ae=>⟨(leaf (qi aa ae)).1 _,(leaf (qi aa ae)).2⟩,fun ae=>⟨⟨nA _⟩,fun aS=>⟨(leaf (qj aa ae aS)).1 _,(leaf (qj aa ae aS)).2⟩,fun aS=>⟨⟨lM⟩,hT,⟨yw _ _ _⟩,⟨kQ _⟩,fun dU=>⟨fun dn=>⟨fun i'=> ?_,fun i'=> ?_⟩,fun dn=> ?_⟩,fun dU=> ?_⟩⟩⟩⟩
  ·have w5:iN (bG s)=0:= J
   have ah:fu s=⟨2,21+n-1,(b9 s:Nat),0,0,[]⟩:=by rw [yx aa ae aS,if_pos w5];unfold la;rw [aD];simp only;rw [if_pos ⟨dU,dn⟩,show(20:Int)+n=21+n-1 by omega]
   exact⟨⟨J,J⟩,⟨J,J⟩,⟨J,J⟩,(leaf ah).1 _,(leaf ah).2⟩
  ·have ah:fu s=⟨2,(iN (bG s):Nat),(b9 s:Nat),0,0,[]⟩:=by rw [yx aa ae aS,if_neg J]
   exact⟨(leaf ah).1 _,(leaf ah).2⟩
  ·have ah:=qk aa ae aS (by unfold la;rw [aD];simp only;rw [if_neg (fun q=>dn q.2)]);exact⟨(leaf ah).1 _,(leaf ah).2⟩
  ·have ah:=qk aa ae aS (by unfold la;rw [aD];simp only;rw [if_neg (fun q=>dU q.1)]);exact⟨(leaf ah).1 _,(leaf ah).2⟩
 |range =>
  obtain⟨n,T,kQ⟩:=bad (fun v q=>by rw [aD]at q;cases q)
  exact Cu s (bG s) (k' (bG s)) t (b9 s:Nat) ((first (bG s)).1:Int) ((first (bG s)).2.1:Int) (iN (bG s):Nat) n f T (fun v _=>v=iO s)
   ⟨gu,fun aa=>⟨(leaf (qh aa)).1 _,(leaf (qh aa)).2⟩,fun aa=>⟨fun ae=>⟨(leaf (qi aa ae)).1 _,(leaf (qi aa ae)).2⟩,fun ae=>⟨⟨nA _⟩,fun aS=>⟨(leaf (qj aa ae aS)).1 _,(leaf (qj aa ae aS)).2⟩,fun aS=>⟨⟨lM⟩,hT,⟨yw _ _ _⟩,⟨kQ _⟩,(leaf (qk aa ae aS (by unfold la;rw [aD]))).1 _,(leaf (qk aa ae aS (by unfold la;rw [aD]))).2⟩⟩⟩⟩
 | _ =>
   obtain⟨n,T,kQ⟩:=bad (fun v q=>by rw [aD]at q;cases q)
   exact Cu s (bG s) (k' (bG s)) t (b9 s:Nat) ((first (bG s)).1:Int) ((first (bG s)).2.1:Int) (iN (bG s):Nat) n f T (fun v _=>v=iO s)
    ⟨gu,fun aa=>⟨(leaf (qh aa)).1 _,(leaf (qh aa)).2⟩,fun aa=>⟨fun ae=>⟨(leaf (qi aa ae)).1 _,(leaf (qi aa ae)).2⟩,fun ae=>⟨⟨nA _⟩,fun aS=>⟨(leaf (qj aa ae aS)).1 _,(leaf (qj aa ae aS)).2⟩,fun aS=>⟨⟨lM⟩,hT,⟨yw _ _ _⟩,⟨kQ _⟩,(leaf (qk aa ae aS (by unfold la;rw [aD]))).1 _,(leaf (qk aa ae aS (by unfold la;rw [aD]))).2⟩⟩⟩⟩
theorem K7(s:Bytes):(iO s).jg=true:=by unfold iO;split<;>rfl
theorem K8{s:Bytes}(hs:s.length<2^47)(H:I):bE 25 [.str s] H (iO s) H :=
 bn.cL (K3 hs) rfl (K7 s) H
end Go.Proofs.YtddnafghiejcoaaGreatDoor
namespace Go.Proofs.YtddnafghiejcoaaGreatDoor
open Go.bh Go.Keys
set_option maxRecDepth 1000000
theorem K9(c:Int)(ad:bT)(aP:(0≤c→(c≤1114111→(c<55296→ad (.bool true) (I.ak 16 []))∧(¬c<55296→(57343<c→ad (.bool true) (I.ak 16 []))∧(¬57343<c→ad (.bool false) (I.ak 16 []))))∧(¬c≤1114111→ad (.bool false) (I.ak 16 [])))∧(¬0≤c→ad (.bool false) (I.ak 16 []))) :
 bW 35 [.int .i32 c] (⟨0,.nil⟩) ad :=
 bZ cl (.aO 1001 (.aO 1004 (.aO 1008 .nil (.aO 1011 .nil .nil)) .nil) .nil) aP
theorem K'(c:Int)(ad:bT)(aP:bu 35 [.int .i32 c] (I.ak 4 []) (.bool true) (I.ak 4 [])∧(-9223372036854775808≤c∧c≤9223372036854775807)∧(c<128→(0≤c∧c≤255)∧ad (.str [UInt8.ofNat (Int.toNat c)]) (I.ak 14 [(11,ai.aq [.int .u8 c] 1 true)]))∧(¬c<128→(c<2048→(((64:Int)=0→False)∧de .i64 (Int.tdiv c 64))∧(-9223372036854775808≤192+Int.tdiv c 64∧192+Int.tdiv c 64≤9223372036854775807)∧(0≤192+Int.tdiv c 64∧192+Int.tdiv c 64≤255)∧((64:Int)=0→False)∧(-9223372036854775808≤128+Int.tmod c 64∧128+Int.tmod c 64≤9223372036854775807)∧(0≤128+Int.tmod c 64∧128+Int.tmod c 64≤255)∧ad (.str [UInt8.ofNat (Int.toNat (192+Int.tdiv c 64)),UInt8.ofNat (Int.toNat (128+Int.tmod c 64))]) (I.ak 22 [(19,ai.aq [.int .u8 (192+Int.tdiv c 64),.int .u8 (128+Int.tmod c 64)] 1 true)]))∧(¬c<2048→(c<65536→(((4096:Int)=0→False)∧de .i64 (Int.tdiv c 4096))∧(-9223372036854775808≤224+Int.tdiv c 4096∧224+Int.tdiv c 4096≤9223372036854775807)∧(0≤224+Int.tdiv c 4096∧224+Int.tdiv c 4096≤255)∧(((64:Int)=0→False)∧de .i64 (Int.tdiv c 64))∧((64:Int)=0→False)∧(-9223372036854775808≤128+Int.tmod (Int.tdiv c 64) 64∧128+Int.tmod (Int.tdiv c 64) 64≤9223372036854775807)∧(0≤128+Int.tmod (Int.tdiv c 64) 64∧128+Int.tmod (Int.tdiv c 64) 64≤255)∧((64:Int)=0→False)∧(-9223372036854775808≤128+Int.tmod c 64∧128+Int.tmod c 64≤9223372036854775807)∧(0≤128+Int.tmod c 64∧128+Int.tmod c 64≤255)∧ad (.str [UInt8.ofNat (Int.toNat (224+Int.tdiv c 4096)),UInt8.ofNat (Int.toNat (128+Int.tmod (Int.tdiv c 64) 64)),UInt8.ofNat (Int.toNat (128+Int.tmod c 64))]) (I.ak 29 [(26,ai.aq [.int .u8 (224+Int.tdiv c 4096),.int .u8 (128+Int.tmod (Int.tdiv c 64) 64),.int .u8 (128+Int.tmod c 64)] 1 true)]))∧(¬c<65536→(((262144:Int)=0→False)∧de .i64 (Int.tdiv c 262144))∧(-9223372036854775808≤240+Int.tdiv c 262144∧240+Int.tdiv c 262144≤9223372036854775807)∧(0≤240+Int.tdiv c 262144∧240+Int.tdiv c 262144≤255)∧(((4096:Int)=0→False)∧de .i64 (Int.tdiv c 4096))∧((64:Int)=0→False)∧(-9223372036854775808≤128+Int.tmod (Int.tdiv c 4096) 64∧128+Int.tmod (Int.tdiv c 4096) 64≤9223372036854775807)∧(0≤128+Int.tmod (Int.tdiv c 4096) 64∧128+Int.tmod (Int.tdiv c 4096) 64≤255)∧(((64:Int)=0→False)∧de .i64 (Int.tdiv c 64))∧((64:Int)=0→False)∧(-9223372036854775808≤128+Int.tmod (Int.tdiv c 64) 64∧128+Int.tmod (Int.tdiv c 64) 64≤9223372036854775807)∧(0≤128+Int.tmod (Int.tdiv c 64) 64∧128+Int.tmod (Int.tdiv c 64) 64≤255)∧((64:Int)=0→False)∧(-9223372036854775808≤128+Int.tmod c 64∧128+Int.tmod c 64≤9223372036854775807)∧(0≤128+Int.tmod c 64∧128+Int.tmod c 64≤255)∧ad (.str [UInt8.ofNat (Int.toNat (240+Int.tdiv c 262144)),UInt8.ofNat (Int.toNat (128+Int.tmod (Int.tdiv c 4096) 64)),UInt8.ofNat (Int.toNat (128+Int.tmod (Int.tdiv c 64) 64)),UInt8.ofNat (Int.toNat (128+Int.tmod c 64))]) (I.ak 34 [(31,ai.aq [.int .u8 (240+Int.tdiv c 262144),.int .u8 (128+Int.tmod (Int.tdiv c 4096) 64),.int .u8 (128+Int.tmod (Int.tdiv c 64) 64),.int .u8 (128+Int.tmod c 64)] 1 true)]))))) :
 bW 48 [.int .i32 c] (⟨0,.nil⟩) ad :=
 bZ cl (.ao (.val 1001 (.bool true)) (ah 3001 (.aO 4001 (ah 5001 .nil) (.aO 6001 (ah 7001 (ah 7002 (ah 7003 (ah 7005 (ah 7006 (ah 7007 .nil)))))) (.aO 8001 (ah 9001 (ah 9002 (ah 9003 (ah 9005 (ah 9006 (ah 9007 (ah 9008 (ah 9010 (ah 9011 (ah 9012 .nil)))))))))) (ah 10001 (ah 10002 (ah 10003 (ah 10005 (ah 10006 (ah 10007 (ah 10008 (ah 10010 (ah 10011 (ah 10012 (ah 10013 (ah 10015 (ah 10016 (ah 10017 .nil))))))))))))))))))) aP
theorem Cx(n:Int)(s:Bytes)(ad:ch→a'→I→Prop)(aP:((10:Int)=0→False)∧(-9223372036854775808≤48+Int.tmod n 10∧48+Int.tmod n 10≤9223372036854775807)∧(0≤48+Int.tmod n 10∧48+Int.tmod n 10≤255)∧Nat.le (Nat.succ (List.length [UInt8.ofNat (Int.toNat (48+Int.tmod n 10))]+List.length s)) (2^62)∧(((10:Int)=0→False)∧de .i64 (Int.tdiv n 10))∧(Int.tdiv n 10=0→ad .ret [(0,.int .i64 (Int.tdiv n 10)),(2,.str (UInt8.ofNat (Int.toNat (48+Int.tmod n 10))::s)),(3,.str (UInt8.ofNat (Int.toNat (48+Int.tmod n 10))::s))] (I.ak 18 [(6,ai.aq [.int .u8 (48+Int.tmod n 10)] 1 true)]))∧(¬Int.tdiv n 10=0→ad .normal [(0,.int .i64 (Int.tdiv n 10)),(3,.str (UInt8.ofNat (Int.toNat (48+Int.tmod n 10))::s))] (I.ak 16 [(6,ai.aq [.int .u8 (48+Int.tmod n 10)] 1 true)]))) :
 ∃e aA aa,bK 0 17 (bw 47 0) [(0,.int .i64 n),(3,.str s)] (I.ak 2 []) e aA aa∧ad e aA aa :=
 eB dB mixed cl (hs:=ah 2001 (ah 2002 (ah 2003 (ah 2007 (ah 3001 (.aO 4001 .nil .nil)))))) (keep:=[0,2,3]) aG aP
theorem La(H:I)(n:Int)(x:R)(s:Bytes)(ad:bT)(aP:bK 0 17 (Code.loop (bw 47 0)) [(0,.int .i64 n),(3,.str [])] (I.ak 2 []) .ret [(0,x),(2,.str s),(3,.str s)] H∧ad (.str s) H) :
 bW 47 [.int .i64 n] (⟨0,.nil⟩) ad :=
 bZ cl (.ao (.keep [0,3]) (.ao (.loop [(0,x),(2,.str s),(3,.str s)] H .ret) .nil)) aP
abbrev Cy(c m:Int)(s:Bytes):a':=[(7,.str ((27:UInt8)::(91:UInt8)::s)),(6,.str s),(5,.int .i64 c),(4,.str []),(0,.int .i64 c),(1,.int .u8 m)]
abbrev Cz(c m:Int)(s t u:Bytes):a':=[(13,.str (u++t)),(12,.str t),(11,.int .i64 (m+1)),(10,.int .i64 m),(9,.int .u8 m),(8,.str u),(7,.str ((27:UInt8)::(91:UInt8)::s)),(6,.str s),(5,.int .i64 c),(4,.str []),(0,.int .i64 c),(1,.int .u8 m)]
theorem Lb(c m:Int)(s t u w:Bytes)(ad:bT)(aP:bu 47 [.int .i64 c] (I.ak 12 []) (.str s) (I.ak 13 [])∧Nat.le (Nat.succ (List.length (Array.toList (ByteArray.data {data:= #[27,91]}))+List.length s)) (2^62)∧iS env.D (bq.fa env) (ik (Operand.tmp 7) || ik (Operand.const (Value.string {data:= #[59]}))) BinOp.add 9 (aY (Cy c m s) (Operand.tmp 7)) (aY (Cy c m s) (Operand.const (Value.string {data:= #[59]})))=some (R.str u)∧(-9223372036854775808≤m∧m≤9223372036854775807)∧(-9223372036854775808≤m+1∧m+1≤9223372036854775807)∧bu 47 [.int .i64 (m+1)] (I.ak 13 []) (.str t) (I.ak 14 [])∧Nat.le (Nat.succ (List.length u+List.length t)) (2^62)∧iS env.D (bq.fa env) (ik (Operand.tmp 13) || ik (Operand.const (Value.string {data:= #[117]}))) BinOp.add 9 (aY (Cz c m s t u) (Operand.tmp 13)) (aY (Cz c m s t u) (Operand.const (Value.string {data:= #[117]})))=some (R.str w)∧xx [.int .i64 c] [.int .i64 (m+1)] (I.ak 12 []) (I.ak 13 []) (.str s) (.str t) (I.ak 13 []) (I.ak 14 [])∧ad (.str w) (I.ak 14 [])) :
 bW 63 [.int .i64 c,.int .u8 m] (⟨0,.nil⟩) ad :=
 bZ cl (.ao (.act 1001 (.str s) fun h=>(I.mk (h.U+1) (I.aB h))) (ah 1002 (.ao (.val 1003 (.str u)) (ah 1005 (ah 1006 (.ao (.act 1007 (.str t) fun h=>(I.mk (h.U+1) (I.aB h))) (ah 1008 (.ao (.val 1009 (.str w)) .nil)))))))) aP
abbrev CA(k d g:Int):R:=R.agg [.int .i8 k,.int .i32 d,.int .u8 g,.int .i64 0,.int .i64 0,.str []]
abbrev nB(c m:Int):ai:=(ai.aq ([(eC c m)]) 6 true (some (42,6)))
abbrev r7(k d g:Int):ai:=(ai.aq ([(CA k d g)]) 6 true (some (42,6)))
theorem CB(i:Nat)(c m k d g:Int)(b:Bytes)(ad:ch→a'→I→Prop)(aP:((i:Int)<32→(0≤(i:Int)∧(i:Int)≤255)∧bu 62 [.int .u8 (i:Int)] (I.ak 38 [(0,(nB c m))]) ((CA k d g)) (I.ak 38 [(0,(nB c m))])∧((i:Int)=27→(-9223372036854775808≤(i:Int)+1∧(i:Int)+1≤9223372036854775807)∧ad .normal [(1,.ptr (aC 0)),(3,.str b),(4,.int .i64 ((i:Int)+1))] (I.ak 55 [(0,(nB c m)),(36,(r7 k d g))]))∧(¬(i:Int)=27→(k=1→(d=c→(0≤(i:Int)∧(i:Int)≤255)∧(m=4→ad .ret [(1,.ptr (aC 0)),(2,.str [UInt8.ofNat i]),(3,.str b),(4,.int .i64 (i:Int))] (I.ak 62 [(0,(nB c m)),(36,(r7 k d g)),(54,ai.aq [.int .u8 (i:Int)] 1 true)]))∧(¬m=4→ad .ret [(1,.ptr (aC 0)),(2,.str [27,UInt8.ofNat i]),(3,.str b),(4,.int .i64 (i:Int))] (I.ak 63 [(0,(nB c m)),(36,(r7 k d g)),(54,ai.aq [.int .u8 (i:Int)] 1 true)])))∧(¬d=c→(-9223372036854775808≤(i:Int)+1∧(i:Int)+1≤9223372036854775807)∧ad .normal [(1,.ptr (aC 0)),(3,.str b),(4,.int .i64 ((i:Int)+1))] (I.ak 55 [(0,(nB c m)),(36,(r7 k d g))])))∧(¬k=1→(-9223372036854775808≤(i:Int)+1∧(i:Int)+1≤9223372036854775807)∧ad .normal [(1,.ptr (aC 0)),(3,.str b),(4,.int .i64 ((i:Int)+1))] (I.ak 55 [(0,(nB c m)),(36,(r7 k d g))]))))∧(¬(i:Int)<32→ad (.exit 0) [(1,.ptr (aC 0)),(3,.str b),(4,.int .i64 (i:Int))] (I.ak 33 [(0,(nB c m))]))) :
 ∃e aA aa,bK 0 74 (bw 36 0) [(1,.ptr (aC 0)),(3,.str b),(4,.int .i64 (i:Nat))] (I.ak 31 [(0,bo (aU 1 c m 0 0 []))]) e aA aa∧ad e aA aa :=
 eB dB mixed cl (hs:= .aO 8001 (ah 10001 (.ao (.val 10002 (aU k d g 0 0 [])) (.aO 11001 (ah 9001 .nil) (.aO 11005 (.aO 11012 (ah 12001 (.aO 13002 .nil .nil)) (ah 9001 .nil)) (ah 9001 .nil))))) .nil) (keep:=[1,2,3,4]) aG aP
abbrev yy(c:Int):R:=R.agg [.int .i8 1,.int .i32 c,.int .u8 0,.int .i64 0,.int .i64 0,.str []]
theorem Lc(c:Int)(b:Bytes)(ad:bT)(aP:bu 48 [.int .i32 c] (I.ak 6 [(0,ai.aq [(yy c)] 6 true (some (42,6)))]) (.str b) (I.ak 6 [(0,ai.aq [(yy c)] 6 true (some (42,6)))])∧ad (.str b) (I.ak 11 [(0,ai.aq [(yy c)] 6 true (some (42,6)))])) :
 bW 36 [aU 1 c 0 0 0 []] (⟨0,.nil⟩) ad :=
 bZ cl (.ao (.val 1002 (.str b)) .nil) aP
abbrev uy(c:Int):R:=R.agg [.int .i8 1,.int .i32 c,.int .u8 2,.int .i64 0,.int .i64 0,.str []]
abbrev CC(c:Int)(s:Bytes)(H2:I):cv:=(.ao (.val 16001 (.int .i32 c)) (ah 16002 (.ao (.val 16004 (.int .u8 2)) (.ao (.act 16005 (.str s) fun x=>H2) .nil))))
abbrev ql(c:Int):I:=(I.ak 37 [(0,ai.aq [(uy c)] 6 true (some (42,6)))])
theorem Ld(c:Int)(b s:Bytes)(H2:I)(ad:bT)(aP:bu 48 [.int .i32 c] (I.ak 6 [(0,ai.aq [(uy c)] 6 true (some (42,6)))]) (.str b) (I.ak 6 [(0,ai.aq [(uy c)] 6 true (some (42,6)))])∧(c=91→bp env.D 21 ⟨0,0,0,1,6⟩ (ql c)=some (.int .i32 c)∧(-9223372036854775808≤c∧c≤9223372036854775807)∧bp env.D 5 ⟨0,0,0,2,6⟩ (ql c)=some (.int .u8 2)∧bu 63 [.int .i64 c,.int .u8 2] (ql c) (.str s) H2∧ad (.str s) H2)∧(¬c=91→(c=79→bp env.D 21 ⟨0,0,0,1,6⟩ (ql c)=some (.int .i32 c)∧(-9223372036854775808≤c∧c≤9223372036854775807)∧bp env.D 5 ⟨0,0,0,2,6⟩ (ql c)=some (.int .u8 2)∧bu 63 [.int .i64 c,.int .u8 2] (ql c) (.str s) H2∧ad (.str s) H2)∧(¬c=79→Nat.le (Nat.succ (List.length (Array.toList (ByteArray.data {data:= #[27]}))+List.length b)) (2^62)∧ad (.str ((27:UInt8)::b)) (I.ak 25 [(0,ai.aq [(uy c)] 6 true (some (42,6)))])))) :
 bW 36 [aU 1 c 2 0 0 []] (⟨0,.nil⟩) ad :=
 bZ cl (.ao (.val 1002 (.str b)) (.aO 4006 (CC c s H2) (.aO 4011 (CC c s H2) (ah 5001 .nil)))) aP
abbrev qm(c:Int):R:=R.agg [.int .i8 1,.int .i32 c,.int .u8 4,.int .i64 0,.int .i64 0,.str []]
theorem Le(c:Int)(b s:Bytes)(H1 H2:I)(v:R)(ad:bT)(aP:bu 48 [.int .i32 c] (I.ak 6 [(0,ai.aq [(qm c)] 6 true (some (42,6)))]) (.str b) (I.ak 6 [(0,ai.aq [(qm c)] 6 true (some (42,6)))])∧bK 0 74 (Code.loop (bw 36 0)) [(1,.ptr (aC 0)),(3,.str b),(4,.int .i64 0)] (I.ak 31 [(0,ai.aq [(qm c)] 6 true (some (42,6)))]) (.exit 0) [(1,.ptr (aC 0)),(3,.str b),(4,v)] H1∧bp env.D 21 ⟨0,0,0,1,6⟩ (I.mk (H1.U+7) (H1.2))=some (.int .i32 c)∧(-9223372036854775808≤c∧c≤9223372036854775807)∧bp env.D 5 ⟨0,0,0,2,6⟩ (I.mk (H1.U+7) (H1.2))=some (.int .u8 4)∧bu 63 [.int .i64 c,.int .u8 4] (I.mk (H1.U+7) (H1.2)) (.str s) H2∧ad (.str s) H2) :
 bW 36 [aU 1 c 4 0 0 []] (⟨0,.nil⟩) ad :=
 bZ cl (.ao (.val 1002 (.str b)) (.ao (.keep [1,3,4]) (.ao (.loop [(1,.ptr (aC 0)),(3,.str b),(4,v)] H1 (.exit 0)) (.ao (.val 16001 (.int .i32 c)) (ah 16002 (.ao (.val 16004 (.int .u8 4)) (.ao (.act 16005 (.str s) fun x=>H2) .nil))))))) aP
theorem Lf(c:Int)(b s:Bytes)(H1:I)(v:R)(ad:bT)(aP:bu 48 [.int .i32 c] (I.ak 6 [(0,ai.aq [(qm c)] 6 true (some (42,6)))]) (.str b) (I.ak 6 [(0,ai.aq [(qm c)] 6 true (some (42,6)))])∧bK 0 74 (Code.loop (bw 36 0)) [(1,.ptr (aC 0)),(3,.str b),(4,.int .i64 0)] (I.ak 31 [(0,ai.aq [(qm c)] 6 true (some (42,6)))]) .ret [(1,.ptr (aC 0)),(2,.str s),(3,.str b),(4,v)] H1∧ad (.str s) H1) :
 bW 36 [aU 1 c 4 0 0 []] (⟨0,.nil⟩) ad :=
 bZ cl (.ao (.val 1002 (.str b)) (.ao (.keep [1,3,4]) (.ao (.loop [(1,.ptr (aC 0)),(2,.str s),(3,.str b),(4,v)] H1 .ret) .nil))) aP
abbrev qn(c:Int):R:=R.agg [.int .i8 1,.int .i32 c,.int .u8 6,.int .i64 0,.int .i64 0,.str []]
theorem Lg(c:Int)(b s:Bytes)(H1 H2:I)(v:R)(ad:bT)(aP:bu 48 [.int .i32 c] (I.ak 6 [(0,ai.aq [(qn c)] 6 true (some (42,6)))]) (.str b) (I.ak 6 [(0,ai.aq [(qn c)] 6 true (some (42,6)))])∧bK 0 74 (Code.loop (bw 36 0)) [(1,.ptr (aC 0)),(3,.str b),(4,.int .i64 0)] (I.ak 31 [(0,ai.aq [(qn c)] 6 true (some (42,6)))]) (.exit 0) [(1,.ptr (aC 0)),(3,.str b),(4,v)] H1∧bp env.D 21 ⟨0,0,0,1,6⟩ (I.mk (H1.U+7) (H1.2))=some (.int .i32 c)∧(-9223372036854775808≤c∧c≤9223372036854775807)∧bp env.D 5 ⟨0,0,0,2,6⟩ (I.mk (H1.U+7) (H1.2))=some (.int .u8 6)∧bu 63 [.int .i64 c,.int .u8 6] (I.mk (H1.U+7) (H1.2)) (.str s) H2∧ad (.str s) H2) :
 bW 36 [aU 1 c 6 0 0 []] (⟨0,.nil⟩) ad :=
 bZ cl (.ao (.val 1002 (.str b)) (.ao (.keep [1,3,4]) (.ao (.loop [(1,.ptr (aC 0)),(3,.str b),(4,v)] H1 (.exit 0)) (.ao (.val 16001 (.int .i32 c)) (ah 16002 (.ao (.val 16004 (.int .u8 6)) (.ao (.act 16005 (.str s) fun x=>H2) .nil))))))) aP
theorem Lh(c:Int)(b s:Bytes)(H1:I)(v:R)(ad:bT)(aP:bu 48 [.int .i32 c] (I.ak 6 [(0,ai.aq [(qn c)] 6 true (some (42,6)))]) (.str b) (I.ak 6 [(0,ai.aq [(qn c)] 6 true (some (42,6)))])∧bK 0 74 (Code.loop (bw 36 0)) [(1,.ptr (aC 0)),(3,.str b),(4,.int .i64 0)] (I.ak 31 [(0,ai.aq [(qn c)] 6 true (some (42,6)))]) .ret [(1,.ptr (aC 0)),(2,.str s),(3,.str b),(4,v)] H1∧ad (.str s) H1) :
 bW 36 [aU 1 c 6 0 0 []] (⟨0,.nil⟩) ad :=
 bZ cl (.ao (.val 1002 (.str b)) (.ao (.keep [1,3,4]) (.ao (.loop [(1,.ptr (aC 0)),(2,.str s),(3,.str b),(4,v)] H1 .ret) .nil))) aP
abbrev yz(c m:Int):I:=(I.ak 37 [(0,ai.aq [(eC c m)] 6 true (some (42,6)))])
theorem Li(c m:Int)(b s:Bytes)(H2:I)(ad:bT)(aP:bu 48 [.int .i32 c] (I.ak 6 [(0,ai.aq [(eC c m)] 6 true (some (42,6)))]) (.str b) (I.ak 6 [(0,ai.aq [(eC c m)] 6 true (some (42,6)))])∧some (R.bool (m == 0))=some (R.bool false)∧some (R.bool (m == 2))=some (R.bool false)∧some (R.bool (m == 4))=some (R.bool false)∧some (R.bool (m == 6))=some (R.bool false)∧bp env.D 21 ⟨0,0,0,1,6⟩ (yz c m)=some (.int .i32 c)∧(-9223372036854775808≤c∧c≤9223372036854775807)∧bp env.D 5 ⟨0,0,0,2,6⟩ (yz c m)=some (.int .u8 m)∧bu 63 [.int .i64 c,.int .u8 m] (yz c m) (.str s) H2∧ad (.str s) H2) :
 bW 36 [aU 1 c m 0 0 []] (⟨0,.nil⟩) ad :=
 bZ cl (.ao (.val 1002 (.str b)) (.ao (.val 2002 (.bool false)) (.ao (.val 4002 (.bool false)) (.ao (.val 6002 (.bool false)) (.ao (.val 6006 (.bool false)) (.ao (.val 16001 (.int .i32 c)) (ah 16002 (.ao (.val 16004 (.int .u8 m)) (.ao (.act 16005 (.str s) fun x=>H2) .nil))))))))) aP
end Go.Proofs.YtddnafghiejcoaaGreatDoor
