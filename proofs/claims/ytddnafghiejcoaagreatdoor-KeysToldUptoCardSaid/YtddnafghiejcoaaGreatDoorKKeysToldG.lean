/-
  Parts of the proof of KeysTold.
-/
import Derived.Shelf.Strings.Search3
import Derived.ProofKit
import Derived.OpenShut
import Derived.ChangeOld
import Derived.HandedShaped
import Derived.Deep.Slices
import Derived.Test.YtddnafghiejcoaaGreatDoorKKeysToldF
set_option linter.unusedVariables false
set_option linter.unusedSimpArgs false
namespace Go.Proofs.YtddnafghiejcoaaGreatDoor
open Go.cH Go.Keys
set_option maxRecDepth 1000000
abbrev jY(y:Nat):o:=o.slice (some ⟨y,0,0,0,1⟩) 2 2
theorem PB(H H1 aH:j)(y:Nat)(es:Bytes)(v1:o)(ab:o→j→Prop)(aY:bF (H.next) (H.next) (bF (H.next) (H.next+1) (bX env eM (H.next+1) (bR [(4,.slice none 0 0),(0,.str es),(1,.slice none 0 0)]) (j.mk (H.next+4) (H.2)) (Op.buildSlice 34 2 {toList:=[(0,Operand.const (Value.int .u8 (27))),(1,Operand.const (Value.int .u8 (91)))]})=some ((jY y),H1)∧eB env (H.next+2) (bR [(8,(jY y)),(4,.slice none 0 0),(0,.str es),(1,.slice none 0 0)]) H1 (Op.convert 34 34 (Operand.tmp 8))=some ((jY y),H1)∧bF (H.next) (H1.next) (bF (H.next) (H1.next+3) (bF (H.next) (H1.next+4) (gn env Builtin.append {toList:=[34,9]} [(jY y),.str es] (H1.next+6) (j.mk (H1.next+8) (H1.2))=some (v1,aH)∧bN (H.next) (aH.next) (ab v1 aH))))))) :
 ∃v p,aI Tryz.prog aw 44 [.str es,.slice none 0 0] H v p∧ab v p :=
 cf bU mixed gL (aq:= .aA (.act 1000 ((jY y)) fun x=>H1) (.aA (.kt 1001 ((jY y)) fun h=>h) (.aA (.rounds 300) (.aA (.act 9002 v1 fun x=>aH) .nil)))) (by kernel_rfl) aY
theorem HX(H H1 aH aW:j)(B q lH y n c i:Nat)(x:Int)(es:Bytes)(bv v1 v2:o)(ab:dj→bT→j→Prop)(aY:bF B (H.next) (((i:Int)<(n:Int)→bF B (H.next+1) ((0≤(i:Int)∧(i:Int)<(n:Int))∧cj env.D 3 ⟨q,lH,0+Int.toNat (i:Int),0,1⟩ (j.mk (H.next+6) (H.2))=some (.int .i64 x)∧bF B (H.next+6) ((0<(i:Int)→bF B (H.next+8) (bX env eM (H.next+9) (bR [(19,bv),(18,.bool true),(17,.int .i64 (i:Int)),(7,.int .i64 x),(6,.int .i64 (i:Int)),(16,.int .i64 x),(15,.ptr (some ⟨q,lH,0+Int.toNat (i:Int),0,1⟩)),(14,.int .i64 (i:Int)),(13,.bool true),(0,.str es),(5,bv),(10,.slice (some ⟨q,lH,0,0,1⟩) n c),(11,.int .i64 (n:Int)),(12,.int .i64 (i:Int))]) (j.mk (H.next+12) (H.2)) (Op.buildSlice 34 1 {toList:=[(0,Operand.const (Value.int .u8 (59)))]})=some (o.slice (some ⟨y,0,0,0,1⟩) 1 1,H1)∧gn env Builtin.append {toList:=[34,34]} [bv,.slice (some ⟨y,0,0,0,1⟩) 1 1] (H.next+10) H1=some (v1,aH)∧bF B (aH.next) (cW Tryz.prog aw 73 [v1,.int .i64 x,.int .i64 10] (j.mk (aH.next+4) (aH.2)) v2 aW∧bF B (aW.next) ((-9223372036854775808≤(i:Int)+1∧(i:Int)+1≤9223372036854775807)∧ab .normal [(0,.str es),(5,v2),(10,.slice (some ⟨q,lH,0,0,1⟩) n c),(11,.int .i64 (n:Int)),(12,.int .i64 ((i:Int)+1))] (j.mk (aW.next+2) (j.aT aW))))))∧(¬0<(i:Int)→bF B (H.next+8) (cW Tryz.prog aw 73 [bv,.int .i64 x,.int .i64 10] (j.mk (H.next+12) (H.2)) v2 aW∧bF B (aW.next) ((-9223372036854775808≤(i:Int)+1∧(i:Int)+1≤9223372036854775807)∧ab .normal [(0,.str es),(5,v2),(10,.slice (some ⟨q,lH,0,0,1⟩) n c),(11,.int .i64 (n:Int)),(12,.int .i64 ((i:Int)+1))] (j.mk (aW.next+2) (j.aT aW))))))))∧(¬(i:Int)<(n:Int)→ab (.exit 0) [(0,.str es),(5,bv),(10,.slice (some ⟨q,lH,0,0,1⟩) n c),(11,.int .i64 (n:Int)),(12,.int .i64 (i:Int))] (j.mk (H.next+1) (j.aT H))))) :
 ∃e bb p,cP Tryz.prog aw B 29 (c4 Tryz.prog 44 0) [(0,.str es),(5,bv),(10,.slice (some ⟨q,lH,0,0,1⟩) n c),(11,.int .i64 n),(12,.int .i64 i)] H e bb p∧ab e bb p :=
 hI bU mixed gL (aq:= .aN 3000 (ah 4001 (.aA (.val 4002 (.int .i64 x)) (.aN 5001 (.aA (.act 6001 (.slice (some ⟨y,0,0,0,1⟩) 1 1) fun x=>H1) (.aA (.act 6002 v1 fun x=>aH) (.aA (.act 7002 v2 fun x=>aW) (ah 8000 .nil)))) (.aA (.act 7002 v2 fun x=>aW) (ah 8000 .nil))))) .nil) (cN:=[0,5,10,11,12]) (by kernel_rfl) aY
theorem abN(H H1 aH aW:j)(y q lH n c:Nat)(es:Bytes)(bv v1 e':o)(ab:o→j→Prop)(aY:bF (H.next) (H.next) (bF (H.next) (H.next+1) (bX env eM (H.next+1) (bR [(4,.slice none 0 0),(0,.str es),(1,.slice (some ⟨q,lH,0,0,1⟩) n c)]) (j.mk (H.next+4) (H.2)) (Op.buildSlice 34 2 {toList:=[(0,Operand.const (Value.int .u8 (27))),(1,Operand.const (Value.int .u8 (91)))]})=some ((jY y),H1)∧eB env (H.next+2) (bR [(8,(jY y)),(4,.slice none 0 0),(0,.str es),(1,.slice (some ⟨q,lH,0,0,1⟩) n c)]) H1 (Op.convert 34 34 (Operand.tmp 8))=some ((jY y),H1)∧bF (H.next) (H1.next) (cP Tryz.prog aw (H.next) 29 (Code.loop (c4 Tryz.prog 44 0)) [(0,.str es),(5,(jY y)),(10,.slice (some ⟨q,lH,0,0,1⟩) n c),(11,.int .i64 (n:Int)),(12,.int .i64 0)] (j.mk (H1.next+3) (j.aT H1)) (.exit 0) [(0,.str es),(5,bv),(10,.slice (some ⟨q,lH,0,0,1⟩) n c),(11,.int .i64 (n:Int)),(12,e')] aH∧bF (H.next) (aH.next) (gn env Builtin.append {toList:=[34,9]} [bv,.str es] (aH.next+2) (j.mk (aH.next+4) (aH.2))=some (v1,aW)∧bN (H.next) (aW.next) (ab v1 aW)))))) :
 ∃v p,aI Tryz.prog aw 44 [.str es,.slice (some ⟨q,lH,0,0,1⟩) n c] H v p∧ab v p :=
 cf bU mixed gL (aq:= .aA (.act 1000 ((jY y)) fun x=>H1) (.aA (.kt 1001 ((jY y)) fun h=>h) (.aA (.cN [0,5,10,11,12]) (.aA (.loop [(0,.str es),(5,bv),(10,.slice (some ⟨q,lH,0,0,1⟩) n c),(11,.int .i64 (n:Int)),(12,e')] aH (.exit 0)) (.aA (.act 9002 v1 fun x=>aW) .nil))))) (by kernel_rfl) aY
theorem HY:∀(l:List Nat)(n:Nat),hY (l++[n])=if l=[]then Lib.decDigits n else hY l++59::Lib.decDigits n
 |[],n=>rfl
 |[m],n=>rfl
 |m::k::r,n=>by have ih:=HY (k::r) n;rw [if_neg (by simp)]at ih⊢;show Lib.decDigits m++59::hY ((k::r)++[n])=_;rw [ih,hY];simp
theorem BS:∀(l:List Nat),(∀n∈l,n<10000000)→(hY l).length≤8*l.length
 |[],_=>by simp [hY]
 |[n],h=>by have:=HT (n:=n) (k:=6) (by have:=h n (by simp);simpa using this);simp only [hY,List.length_cons,List.length_nil];omega
 |n::m::r,h=>by
  have p:=HT (n:=n) (k:=6) (by have:=h n (by simp);simpa using this);have ae:=BS (m::r) fun x af=>h x (by simp [af])
  simp only [hY,List.length_append,List.length_cons]at ae⊢; omega
abbrev rE(l:List Nat):J:=J.made (l.map fun n=>o.int .i64 (n:Nat)) 1 true
theorem abO{h:j}{q i:Nat}{l:List Nat}(e:h.get q=some (rE l))(al:i<l.length):cj (b4.D env) 3 ⟨q,0,0+i,0,1⟩ h=some (.int .i64 (l[i]:Nat)):=by
 have b5:(b4.D env 3).map (fun d=>d.kind.isAgg)=some false:=by kernel_rfl
 obtain⟨x,p,ae⟩:=Option.map_eq_some_iff.1 b5;unfold cj;rw [p,e];simp [J.elem?,J.cE,iR,ae,J.made,al]
theorem yd{F:bT}{bh k n c:Nat}{H:j}{a:bH}{b:J}(a6:bR F (.tmp k)=.slice (some a) n c)(ah:H.get a.id=some b)(be:b.ro=false)(aS:a.bP=0)(ar:0<c):eB env bh (bR F) H (Op.convert 34 34 (Operand.tmp k))=some (.slice (some a) n c,H):=by
 have p:(b4.D env 34).map (fun d=>d.kind)=some (.slice 5):=by kernel_rfl
 have bg:(b4.D env 5).map (fun d=>d.kind)=some (.int .u8):=by kernel_rfl
 obtain⟨ko,d1,aL⟩:=Option.map_eq_some_iff.1 p;obtain⟨ps,d3,bq⟩:=Option.map_eq_some_iff.1 bg;simp only [eB,a6,oa,d1,aL,d3,bq,ah];simp [be,aS,ar]
abbrev n0(e:Bytes)(bv:o)(q n c i:Nat):bT:=[(0,.str e),(5,bv),(10,.slice (some ⟨q,0,0,0,1⟩) n c),(11,.int .i64 (n:Nat)),(12,.int .i64 (i:Nat))]
theorem abP{B q c : Nat}{l : List Nat}{e:Bytes}(aB:l.length<2^20)(aM:∀n∈l,n<10000000)(aC:q<B):∀(t i:Nat)(H:j)(bv:o)(C:Nat),l.length-i≤t→i≤l.length→B≤H.next→B≤C→eN H C bv (27::91::hY (l.take i))→H.get q=some (rE l) →
 ∃aR o3 gq,db Tryz.prog aw B 29 (c4 Tryz.prog 44 0) (n0 e bv q l.length c i) H (.exit 0) (n0 e o3 q l.length c l.length) aR∧eN aR gq o3 (27::91::hY l)∧B≤gq∧H.next≤aR.next∧∀x,x<B→aR.get x=H.get x:=by
 intro t
 have fin:∀(H:j)(bv:o)(C:Nat),B≤H.next→B≤C→eN H C bv (27::91::hY (l.take l.length)) →
  ∃aR o3 gq,db Tryz.prog aw B 29 (c4 Tryz.prog 44 0) (n0 e bv q l.length c l.length) H (.exit 0) (n0 e o3 q l.length c l.length) aR∧eN aR gq o3 (27::91::hY l)∧B≤gq∧H.next≤aR.next∧∀x,x<B→aR.get x=H.get x:=by
  intro H bv C c1 aX g;rw [List.take_length]at g;obtain⟨bu,bb,p,be,rfl,rfl,rfl⟩:=HX H H H H B q 0 0 l.length c l.length 0 e bv bv bv (fun bu bb p=>bu=.exit 0∧bb=n0 e bv q l.length c l.length∧p=⟨H.next+1,H.aT⟩) (bB c1 ⟨fun h=>by omega,fun _=>⟨rfl,rfl,rfl⟩⟩);exact⟨_,bv,C,db.last (by simp) be,g.cN rfl (by show H.next≤H.next+1;omega),aX,by show H.next≤H.next+1;omega,fun _ _=>rfl⟩
 induction t with
 |zero =>
  intro i H bv C b7 al c1 aX g _;obtain rfl:i=l.length:=by omega
  exact fin H bv C c1 aX g
 |succ t ih =>
  intro i H bv C b7 al c1 aX g ah;by_cases ar:i<l.length
  ·have af : l[i] < 10000000 := aM _ (List.getElem_mem ar)
   have mu:∀k,cj (b4.D env) 3 ⟨q,0,0+Int.toNat (i:Int),0,1⟩ ⟨H.next+k,H.aT⟩=some (.int .i64 (l[i]:Nat)):=fun k=>by rw [Int.toNat_natCast];exact abO (h:=⟨H.next+k,H.aT⟩) ah ar
   have PC:l.take (i+1)=l.take i++[l[i]]:=by rw [List.take_add_one,List.getElem?_eq_getElem ar];rfl
   have vW:(hY (l.take i)).length≤8*l.length:=by
    have:=BS (l.take i) fun n h=>aM n (List.mem_of_mem_take h)
    rw [List.length_take]at this;omega
   have step:∀(aW:j)(v2:o)(bk:Nat),eN aW bk v2 (27::91::hY (l.take (i+1)))→B≤bk→H.next≤aW.next→(∀x,x<B→aW.get x=H.get x)→cP Tryz.prog aw B 29 (c4 Tryz.prog 44 0) (n0 e bv q l.length c i) H .normal (n0 e v2 q l.length c (i+1)) ⟨aW.next+2,aW.aT⟩ →
    ∃aR o3 gq,db Tryz.prog aw B 29 (c4 Tryz.prog 44 0) (n0 e bv q l.length c i) H (.exit 0) (n0 e o3 q l.length c l.length) aR∧eN aR gq o3 (27::91::hY l)∧B≤gq∧H.next≤aR.next∧∀x,x<B→aR.get x=H.get x:=by
    intro aW v2 bk g2 u6 jf hv be;obtain⟨aR,o3,gq,dG,dA,rF,qR,gY⟩:=ih (i+1) ⟨aW.next+2,aW.aT⟩ v2 bk (by omega) (by omega) (by show B≤aW.next+2;omega) u6 (g2.cN rfl (by show aW.next≤aW.next+2;omega)) ((hv q aC).trans ah);have qR:aW.next+2≤aR.next:=qR
    exact⟨aR,o3,gq,db.step be dG,dA,rF,by omega,fun x af=>(gY x af).trans (hv x af)⟩
   have hF:((i:Int)+1)=((i+1:Nat):Int):=by omega
   by_cases bm:0<i
   ·
     have bZ:l.take i≠[]:=by intro h;have:=congrArg List.length h;rw [List.length_take,List.length_nil]at this;omega
     have qd:∀F,bX env eM (H.next+9) (bR F) ⟨H.next+12,H.aT⟩ (Op.buildSlice 34 1 {toList:=[(0,Operand.const (Value.int .u8 (59)))]})=some (o.slice (some ⟨H.next+9,0,0,0,1⟩) 1 1,(⟨H.next+12,H.aT⟩:j).set (H.next+9) (J.made (aJ [59]) 1 true)):=by intro F;kernel_rfl
     have iJ:((⟨H.next+12,H.aT⟩:j).set (H.next+9) (J.made (aJ [59]) 1 true)).get (H.next+9)=some (J.made (aJ [59]) 1 true):=j.gG _ _ _;have iL:∀x,x<H.next→((⟨H.next+12,H.aT⟩:j).set (H.next+9) (J.made (aJ [59]) 1 true)).get x=H.get x:=fun x af=>j.e1 _ _ (by omega)
     have kc:((⟨H.next+12,H.aT⟩:j).set (H.next+9) (J.made (aJ [59]) 1 true)).next=H.next+12:=rfl
     generalize (⟨H.next+12,H.aT⟩:j).set (H.next+9) (J.made (aJ [59]) 1 true)=H1 at qd iJ iL kc;have g1:=g.cN (iL C g.lt) (by omega);have ko:eN H1 (H.next+9) (.slice (some ⟨H.next+9,0,0,0,1⟩) 1 1) [59]:=eN.made iJ (by omega) (fun h=>by cases h);obtain⟨v1,aH,bt,aS,g2,abQ,iN,gP⟩:=g1.gy (bh:=H.next+10) ko.bi (by simp) (by simp only [List.length_cons,List.length_nil];omega) (by omega);obtain⟨v2,aW,bk,aD,g3,u6,jf,hv⟩:=PA (n:=l[i]) (g2.cN (aR:=⟨aH.next+4,aH.aT⟩) rfl (by show aH.next≤aH.next+4;omega)) (by simp only [List.length_append,List.length_cons,List.length_nil];omega) af;have jf:aH.next+4≤aW.next:=jf
     have afx:B≤bt:=by rcases abQ with h|h<;>omega
     obtain⟨bu,bb,p,be,rfl,rfl,rfl⟩:=HX H H1 aH aW B q 0 (H.next+9) l.length c i (l[i]:Nat) e bv v1 v2 (fun bu bb p=>bu=.normal∧bb=n0 e v2 q l.length c (i+1)∧p=⟨aW.next+2,aW.aT⟩)
      (bB c1 ⟨fun _=>bB (by omega) ⟨⟨by omega,by omega⟩,mu 6,bB (by omega) ⟨fun _=>bB (by omega) ⟨qd _,(BQ _ _ _ _).trans aS,bB (by omega) ⟨⟨aD⟩,bB (by omega) ⟨⟨by omega,by omega⟩,rfl,by rw [hF],rfl⟩⟩⟩,fun h=>absurd (by omega) h⟩⟩,fun h=>absurd (by omega) h⟩)
     refine step aW v2 bk ?_ (by rcases u6 with h|h; · omega
                                 ·have h:aH.next+4≤bk:=h
                                  omega) (by omega) (fun x af=> ?_) be
     ·have bC:(27::91::hY (l.take (i+1)):Bytes)=27::91::hY (l.take i)++[59]++Lib.decDigits l[i]:=by rw [PC,HY,if_neg bZ];simp
      rw [bC];exact g3
     ·rw [hv x (by show x<aH.next+4;omega) (by omega)];show aH.get x=_;rw [gP x (by omega) (by omega)];exact iL x (by omega)
   ·obtain rfl:i=0:=by omega
    obtain⟨v2,aW,bk,aD,g3,u6,jf,hv⟩:=PA (n:=l[0]) (g.cN (aR:=⟨H.next+12,H.aT⟩) rfl (by show H.next≤H.next+12;omega)) (by simp only [List.length_cons];omega) af;have jf:H.next+12≤aW.next:=jf
    obtain⟨bu,bb,p,be,rfl,rfl,rfl⟩:=HX H H H aW B q 0 0 l.length c 0 (l[0]:Nat) e bv bv v2 (fun bu bb p=>bu=.normal∧bb=n0 e v2 q l.length c 1∧p=⟨aW.next+2,aW.aT⟩)
     (bB c1 ⟨fun _=>bB (by omega) ⟨⟨by omega,by omega⟩,mu 6,bB (by omega) ⟨fun h=>absurd h (by omega),fun _=>bB (by omega) ⟨⟨aD⟩,bB (by omega) ⟨⟨by omega,by omega⟩,rfl,rfl,rfl⟩⟩⟩⟩,fun h=>absurd (by omega) h⟩)
    refine step aW v2 bk ?_ (by rcases u6 with h|h; · omega
                                ·have h:H.next+12≤bk:=h
                                 omega) (by omega) (fun x af=> ?_) be
    ·have bC:(27::91::hY (l.take (0+1)):Bytes)=27::91::hY (l.take 0)++Lib.decDigits l[0]:=by rw [PC,HY,if_pos (by simp)];rfl
     rw [bC];exact g3
    ·exact hv x (by show x<H.next+12;omega) (by omega)
  ·obtain rfl:i=l.length:=by omega
   exact fin H bv C c1 aX g
def PD(H:j)(args:List o)(bs:Bytes):Prop :=
 ∃v aR C,aI Tryz.prog aw 44 args H v aR∧eN aR C v bs∧H.next≤C∧∀x,x<H.next→aR.get x=H.get x
theorem HZ(H:j):∃H1,(∀F,bX env eM (H.next+1) (bR F) ⟨H.next+4,H.aT⟩ (Op.buildSlice 34 2 {toList:=[(0,Operand.const (Value.int .u8 (27))),(1,Operand.const (Value.int .u8 (91)))]})=some (o.slice (some ⟨H.next+1,0,0,0,1⟩) 2 2,H1))∧(∀F,bR F (.tmp 8)=o.slice (some ⟨H.next+1,0,0,0,1⟩) 2 2→eB env (H.next+2) (bR F) H1 (Op.convert 34 34 (Operand.tmp 8))=some (o.slice (some ⟨H.next+1,0,0,0,1⟩) 2 2,H1)) ∧
 eN H1 (H.next+1) (.slice (some ⟨H.next+1,0,0,0,1⟩) 2 2) [27,91]∧H1.next=H.next+4∧∀x,x<H.next→H1.get x=H.get x:=by
 have iJ:((⟨H.next+4,H.aT⟩:j).set (H.next+1) (J.made (aJ [27,91]) 1 true)).get (H.next+1)=some (J.made (aJ [27,91]) 1 true):=j.gG _ _ _;exact⟨(⟨H.next+4,H.aT⟩:j).set (H.next+1) (J.made (aJ [27,91]) 1 true),(fun F=>by kernel_rfl),fun F a6=>yd a6 iJ rfl rfl (by decide),eN.made (bs:=[27,91]) iJ (by show H.next+1<H.next+4;omega) (fun h=>by cases h),rfl,fun x af=>j.e1 _ _ (by omega)⟩
theorem abR(H:j){e:Bytes}(he:e≠[])(aB:e.length<2^30):PD H [.str e,.slice none 0 0] (27::91::e):=by
 have ga:∀{a b:Nat}{I:Prop},a≤b→I→_root_.cond (Nat.ble a b) I False:=fun h k=>by rw [Nat.ble_eq.mpr h];exact k
 obtain⟨H1,av,ar,g1,kc,iL⟩:=HZ H;obtain⟨v,aH,C,aS,g2,aX,iN,gP⟩:=(g1.cN (aR:=⟨H1.next+8,H1.aT⟩) rfl (by show H1.next≤H1.next+8;omega)).gy (bh:=H1.next+6) (x:= .str e) (by rfl) he (by simp only [List.length_cons,List.length_nil];omega) (by show H1.next+6<H1.next+8;omega);have iN:aH.next=H1.next+8:=iN
 obtain⟨w,aa,aD,rfl,rfl⟩:=PB H H1 aH (H.next+1) e v (fun w aa=>w=v∧aa=aH)
  (bB (Nat.le_refl _) (bB (by omega) ⟨av _,ar _ rfl,bB (by omega) (bB (by omega) (bB (by omega) ⟨(yc _ _ _ _).trans aS,ga (by omega) ⟨rfl,rfl⟩⟩))⟩))
 refine⟨_,_,C,aD,g2,by rcases aX with h|h<;>omega,fun x af=> ?_⟩;rw [gP x (by omega) (by omega)];exact iL x af
theorem H0{H:j}{q c:Nat}{l:List Nat}{e:Bytes}(ah:H.get q=some (rE l))(aC:q<H.next)(kl:l.length<2^20)(aM:∀n∈l,n<10000000)(he:e≠[])(aB:e.length<2^30):PD H [.str e,.slice (some ⟨q,0,0,0,1⟩) l.length c] (gE e l):=by
 have ga:∀{a b:Nat}{I:Prop},a≤b→I→_root_.cond (Nat.ble a b) I False:=fun h k=>by rw [Nat.ble_eq.mpr h];exact k
 obtain⟨H1,av,ar,g1,kc,iL⟩:=HZ H;obtain⟨aH,bv,bk,dG,g2,u6,iN,gP⟩:=abP (B:=H.next) (c:=c) (e:=e) kl aM aC l.length 0 ⟨H1.next+3,H1.aT⟩ _ (H.next+1) (by omega) (by omega) (by show H.next≤H1.next+3;omega) (by omega) (g1.cN rfl (by show H1.next≤H1.next+3;omega)) ((iL q aC).trans ah);have iN:H1.next+3≤aH.next:=iN
 have vW:=BS l aM;obtain⟨v,aW,C,aS,g3,aX,jf,hv⟩:=(g2.cN (aR:=⟨aH.next+4,aH.aT⟩) rfl (by show aH.next≤aH.next+4;omega)).gy (bh:=aH.next+2) (x:= .str e) (by rfl) he (by simp only [List.length_cons];omega) (by show aH.next+2<aH.next+4;omega);have jf:aW.next=aH.next+4:=jf
 obtain⟨w,aa,aD,rfl,rfl⟩:=abN H H1 aH aW (H.next+1) q 0 l.length c e bv v (.int .i64 (l.length:Nat)) (fun w aa=>w=v∧aa=aW)
  (bB (Nat.le_refl _) (bB (by omega) ⟨av _,ar _ rfl,bB (by omega) ⟨cP.h' dG,bB (by omega) ⟨(yc _ _ _ _).trans aS,ga (by omega) ⟨rfl,rfl⟩⟩⟩⟩))
 refine⟨_,_,C,aD,?_,by rcases aX with h|h<;>omega,fun x af=> ?_⟩
 ·have bC:gE e l=27::91::hY l++e:=rfl;rw [bC];exact g3
 ·rw [hv x (by omega) (by omega)];show aH.get x=_;rw [gP x af];exact iL x af
abbrev k4(x:Nat):J:=J.made [o.int .i32 (x:Nat)] 1 true
abbrev H2:dh:=(ah 19002 (ah 19003 (ah 20001 (ah 21001 (ah 21005 .nil)))))
theorem abS(x:Nat)(ab:o→j→Prop)(aY:some (o.bool (decide ((x:Int)≥55296)))=some (o.bool false)∧some (o.bool (decide ((x:Int)>1114111)))=some (o.bool false)∧((x:Int)<128→(0≤(x:Int)∧(x:Int)≤255)∧ab (.str [UInt8.ofNat x]) (j.au 43 [(0,(J.made ([.int .i32 (x:Int)]) 1 true)),(34,J.made [.int .u8 (x:Int)] 1 true),(35,J.made [.int .u8 (x:Int)] 1 false (some (5,0)))]))∧(¬(x:Int)<128→(2048≤(x:Int)→some (o.bool (decide ((x:Int)≥65536)))=some (o.bool false)∧True∧(0≤br .i32 (x:Int) (63)∧br .i32 (x:Int) (63)≤255)∧True∧Int.NonNeg (6-0)∧True∧(0≤br .i32 (bD .i32 (x:Int) (6)) (63)∧br .i32 (bD .i32 (x:Int) (6)) (63)≤255)∧True∧Int.NonNeg (6-0)∧(0≤bD .i32 (bD .i32 (x:Int) (6)) (6)∧bD .i32 (bD .i32 (x:Int) (6)) (6)≤255)∧True∧ab (.str [UInt8.ofNat (Int.toNat (cc .u8 (bD .i32 (bD .i32 (x:Int) 6) 6) 224)),UInt8.ofNat (Int.toNat (cc .u8 128 (br .i32 (bD .i32 (x:Int) 6) 63))),UInt8.ofNat (Int.toNat (cc .u8 128 (br .i32 (x:Int) 63)))]) (j.au 80 [(0,(J.made ([.int .i32 (x:Int)]) 1 true)),(37,(J.made ([.agg [.int .u8 (cc .u8 (bD .i32 (bD .i32 (x:Int) (6)) (6)) (224)),.int .u8 (cc .u8 (128) (br .i32 (bD .i32 (x:Int) (6)) (63))),.int .u8 (cc .u8 (128) (br .i32 (x:Int) (63))),.int .u8 0]]) 4 true (some (95,4)))),(72,J.made [.int .u8 (cc .u8 (bD .i32 (bD .i32 (x:Int) (6)) (6)) (224)),.int .u8 (cc .u8 (128) (br .i32 (bD .i32 (x:Int) (6)) (63))),.int .u8 (cc .u8 (128) (br .i32 (x:Int) (63)))] 1 false (some (5,0)))]))∧(¬2048≤(x:Int)→some (o.bool (decide ((x:Int)≥65536)))=some (o.bool false)∧True∧(0≤br .i32 (x:Int) (63)∧br .i32 (x:Int) (63)≤255)∧True∧Int.NonNeg (6-0)∧(0≤bD .i32 (x:Int) (6)∧bD .i32 (x:Int) (6)≤255)∧True∧ab (.str [UInt8.ofNat (Int.toNat (cc .u8 (bD .i32 (x:Int) 6) 192)),UInt8.ofNat (Int.toNat (cc .u8 128 (br .i32 (x:Int) 63)))]) (j.au 72 [(0,(J.made ([.int .i32 (x:Int)]) 1 true)),(36,(J.made ([.agg [.int .u8 (cc .u8 (bD .i32 (x:Int) (6)) (192)),.int .u8 (cc .u8 (128) (br .i32 (x:Int) (63))),.int .u8 0,.int .u8 0]]) 4 true (some (95,4)))),(64,J.made [.int .u8 (cc .u8 (bD .i32 (x:Int) (6)) (192)),.int .u8 (cc .u8 (128) (br .i32 (x:Int) (63)))] 1 false (some (5,0)))])))) :
 ∃v p,aI Tryz.prog aw 51 [.slice (some ⟨0,0,0,0,1⟩) 1 1] (j.rows 1 [(0,k4 x)]) v p∧ab v p :=
 cf bU mixed c7 (aq:= .aA (.rounds 300) (he 5002 (.aA (.val 1004 (.bool false)) (.aA (.val 1012 (.bool false)) (.aN 3001 (ah 4002 .nil) (.aN 6001 (.aA (.val 8001 (.bool false)) (ah 17001 (ah 17002 (ah 17003 (ah 18001 (ah 19001 H2)))))) (.aA (.val 8001 (.bool false)) (ah 19001 H2)))))))) (by kernel_rfl) aY
abbrev PE:dh:=(ah 17001 (ah 17002 (ah 17003 (ah 18001 (ah 19001 H2)))))
theorem abT(x:Nat)(ab:o→j→Prop)(aY:some (o.bool (decide ((x:Int)≥55296)))=some (o.bool true)∧some (o.bool (decide ((x:Int)≤57343)))=some (o.bool false)∧some (o.bool (decide ((x:Int)>1114111)))=some (o.bool false)∧some (o.bool (decide ((x:Int)<128)))=some (o.bool false)∧some (o.bool (decide ((x:Int)≥2048)))=some (o.bool true)∧(65536≤(x:Int)→True∧(0≤br .i32 (x:Int) (63)∧br .i32 (x:Int) (63)≤255)∧True∧Int.NonNeg (6-0)∧True∧(0≤br .i32 (bD .i32 (x:Int) (6)) (63)∧br .i32 (bD .i32 (x:Int) (6)) (63)≤255)∧True∧Int.NonNeg (6-0)∧True∧(0≤br .i32 (bD .i32 (bD .i32 (x:Int) (6)) (6)) (63)∧br .i32 (bD .i32 (bD .i32 (x:Int) (6)) (6)) (63)≤255)∧True∧Int.NonNeg (6-0)∧(0≤bD .i32 (bD .i32 (bD .i32 (x:Int) (6)) (6)) (6)∧bD .i32 (bD .i32 (bD .i32 (x:Int) (6)) (6)) (6)≤255)∧True∧ab (.str [UInt8.ofNat (Int.toNat (cc .u8 (bD .i32 (bD .i32 (bD .i32 (x:Int) 6) 6) 6) 240)),UInt8.ofNat (Int.toNat (cc .u8 128 (br .i32 (bD .i32 (bD .i32 (x:Int) 6) 6) 63))),UInt8.ofNat (Int.toNat (cc .u8 128 (br .i32 (bD .i32 (x:Int) 6) 63))),UInt8.ofNat (Int.toNat (cc .u8 128 (br .i32 (x:Int) 63)))]) (j.au 88 [(0,(J.made ([.int .i32 (x:Int)]) 1 true)),(38,(J.made ([.agg [.int .u8 (cc .u8 (bD .i32 (bD .i32 (bD .i32 (x:Int) (6)) (6)) (6)) (240)),.int .u8 (cc .u8 (128) (br .i32 (bD .i32 (bD .i32 (x:Int) (6)) (6)) (63))),.int .u8 (cc .u8 (128) (br .i32 (bD .i32 (x:Int) (6)) (63))),.int .u8 (cc .u8 (128) (br .i32 (x:Int) (63)))]]) 4 true (some (95,4)))),(80,J.made [.int .u8 (cc .u8 (bD .i32 (bD .i32 (bD .i32 (x:Int) (6)) (6)) (6)) (240)),.int .u8 (cc .u8 (128) (br .i32 (bD .i32 (bD .i32 (x:Int) (6)) (6)) (63))),.int .u8 (cc .u8 (128) (br .i32 (bD .i32 (x:Int) (6)) (63))),.int .u8 (cc .u8 (128) (br .i32 (x:Int) (63)))] 1 false (some (5,0)))]))∧(¬65536≤(x:Int)→True∧(0≤br .i32 (x:Int) (63)∧br .i32 (x:Int) (63)≤255)∧True∧Int.NonNeg (6-0)∧True∧(0≤br .i32 (bD .i32 (x:Int) (6)) (63)∧br .i32 (bD .i32 (x:Int) (6)) (63)≤255)∧True∧Int.NonNeg (6-0)∧(0≤bD .i32 (bD .i32 (x:Int) (6)) (6)∧bD .i32 (bD .i32 (x:Int) (6)) (6)≤255)∧True∧ab (.str [UInt8.ofNat (Int.toNat (cc .u8 (bD .i32 (bD .i32 (x:Int) 6) 6) 224)),UInt8.ofNat (Int.toNat (cc .u8 128 (br .i32 (bD .i32 (x:Int) 6) 63))),UInt8.ofNat (Int.toNat (cc .u8 128 (br .i32 (x:Int) 63)))]) (j.au 80 [(0,(J.made ([.int .i32 (x:Int)]) 1 true)),(37,(J.made ([.agg [.int .u8 (cc .u8 (bD .i32 (bD .i32 (x:Int) (6)) (6)) (224)),.int .u8 (cc .u8 (128) (br .i32 (bD .i32 (x:Int) (6)) (63))),.int .u8 (cc .u8 (128) (br .i32 (x:Int) (63))),.int .u8 0]]) 4 true (some (95,4)))),(72,J.made [.int .u8 (cc .u8 (bD .i32 (bD .i32 (x:Int) (6)) (6)) (224)),.int .u8 (cc .u8 (128) (br .i32 (bD .i32 (x:Int) (6)) (63))),.int .u8 (cc .u8 (128) (br .i32 (x:Int) (63)))] 1 false (some (5,0)))]))) :
 ∃v p,aI Tryz.prog aw 51 [.slice (some ⟨0,0,0,0,1⟩) 1 1] (j.rows 1 [(0,k4 x)]) v p∧ab v p :=
 cf bU mixed c7 (aq:= .aA (.rounds 300) (he 5002 (.aA (.val 1004 (.bool true)) (.aA (.val 1007 (.bool false)) (.aA (.val 1012 (.bool false)) (.aA (.val 3001 (.bool false)) (.aA (.val 6001 (.bool true)) (.aN 8001 (ah 15001 (ah 15002 (ah 15003 (ah 16001 PE)))) PE)))))))) (by kernel_rfl) aY
theorem abU(H H1 aH:j)(r q x k:Nat)(s:Bytes)(ab:o→j→Prop)(aY:bF (H.next) (H.next) (bF (H.next) (H.next+1) (bX env eM (H.next+2) (bR [(7,.int .i32 (r:Int)),(4,.slice none 0 0),(0,.int .i32 (r:Int)),(1,.int .u8 0)]) (j.mk (H.next+6) (H.2)) (Op.buildSlice 84 1 {toList:=[(0,Operand.tmp 7)]})=some (o.slice (some ⟨q,0,0,0,1⟩) 1 1,H1)∧cW Tryz.prog aw 51 [.slice (some ⟨q,0,0,0,1⟩) 1 1] H1 (.str s) H1∧eB env (H.next+4) (bR [(9,.str s),(8,.slice (some ⟨q,0,0,0,1⟩) 1 1),(7,.int .i32 (r:Int)),(4,.slice none 0 0),(0,.int .i32 (r:Int)),(1,.int .u8 0)]) H1 (Op.convert 9 34 (Operand.tmp 9))=some (o.slice (some ⟨x,0,0,0,1⟩) k k,aH)∧bF (H.next) (aH.next) (bF (H.next) (aH.next+3) (bN (H.next) (aH.next+5) (ab (.slice (some ⟨x,0,0,0,1⟩) k k) (j.mk (aH.next+3+2) (j.aT (j.mk (aH.next+3) (j.aT aH)))))))))) :
 ∃v p,aI Tryz.prog aw 42 [.int .i32 r,.int .u8 0] H v p∧ab v p :=
 cf bU mixed c7 (aq:= .aA (.act 1001 (.slice (some ⟨q,0,0,0,1⟩) 1 1) fun x=>H1) (.aA (.val 1002 (.str s)) (.aA (.kt 1003 (.slice (some ⟨x,0,0,0,1⟩) k k) fun x=>aH) .nil))) (by kernel_rfl) aY
abbrev k5(q:Nat):o:=o.slice (some ⟨q,0,0,0,1⟩) 1 1
theorem abV(H H1 aH aW bV:j)(r q x y k:Nat)(s:Bytes)(v:o)(ab:o→j→Prop)(aY:bF (H.next) (H.next) (bF (H.next) (H.next+1) (bX env eM (H.next+2) (bR [(7,.int .i32 (r:Int)),(4,.slice none 0 0),(0,.int .i32 (r:Int)),(1,.int .u8 2)]) (j.mk (H.next+6) (H.2)) (Op.buildSlice 84 1 {toList:=[(0,Operand.tmp 7)]})=some ((k5 q),H1)∧cW Tryz.prog aw 51 [(k5 q)] H1 (.str s) H1∧eB env (H.next+4) (bR [(9,.str s),(8,(k5 q)),(7,.int .i32 (r:Int)),(4,.slice none 0 0),(0,.int .i32 (r:Int)),(1,.int .u8 2)]) H1 (Op.convert 9 34 (Operand.tmp 9))=some (o.slice (some ⟨x,0,0,0,1⟩) k k,aH)∧bF (H.next) (aH.next) (bF (H.next) (aH.next+3) (some (o.bool ((r:Int) != 91))=some (o.bool true)∧some (o.bool ((r:Int) != 79))=some (o.bool true)∧bF (H.next) (aH.next+14) (bX env eM (aH.next+14) (bR [(15,.bool true),(25,.bool true),(24,.bool true),(23,.int .i32 (r:Int)),(22,.bool true),(21,.bool true),(20,.bool true),(19,.int .i32 (r:Int)),(18,.bool true),(17,.bool true),(16,.int .u8 2),(11,.bool false),(13,.bool false),(12,.int .u8 2),(5,.slice (some ⟨x,0,0,0,1⟩) k k),(10,.slice (some ⟨x,0,0,0,1⟩) k k),(9,.str s),(8,(k5 q)),(7,.int .i32 (r:Int)),(4,.slice none 0 0),(0,.int .i32 (r:Int)),(1,.int .u8 2)]) (j.mk (aH.next+18) (aH.2)) (Op.buildSlice 34 1 {toList:=[(0,Operand.const (Value.int .u8 (27)))]})=some (o.slice (some ⟨y,0,0,0,1⟩) 1 1,aW)∧gn env Builtin.append {toList:=[34,34]} [.slice (some ⟨y,0,0,0,1⟩) 1 1,.slice (some ⟨x,0,0,0,1⟩) k k] (aH.next+16) aW=some (v,bV)∧bN (H.next) (bV.next) (ab v bV))))))) :
 ∃v p,aI Tryz.prog aw 42 [.int .i32 r,.int .u8 2] H v p∧ab v p :=
 cf bU mixed c7 (aq:= .aA (.act 1001 ((k5 q)) fun x=>H1) (.aA (.val 1002 (.str s)) (.aA (.kt 1003 (.slice (some ⟨x,0,0,0,1⟩) k k) fun x=>aH) (.aA (.val 4004 (.bool true)) (.aA (.val 4008 (.bool true)) (.aA (.act 5000 (.slice (some ⟨y,0,0,0,1⟩) 1 1) fun x=>aW) (.aA (.act 5002 v fun x=>bV) .nil))))))) (by kernel_rfl) aY
theorem abW(H H1 aH aW bV:j)(r m q x y k:Nat)(s:Bytes)(v:o)(ab:o→j→Prop)(aY:bF (H.next) (H.next) (bF (H.next) (H.next+1) (bX env eM (H.next+2) (bR [(7,.int .i32 (r:Int)),(4,.slice none 0 0),(0,.int .i32 (r:Int)),(1,.int .u8 (m:Int))]) (j.mk (H.next+6) (H.2)) (Op.buildSlice 84 1 {toList:=[(0,Operand.tmp 7)]})=some ((k5 q),H1)∧cW Tryz.prog aw 51 [(k5 q)] H1 (.str s) H1∧eB env (H.next+4) (bR [(9,.str s),(8,(k5 q)),(7,.int .i32 (r:Int)),(4,.slice none 0 0),(0,.int .i32 (r:Int)),(1,.int .u8 (m:Int))]) H1 (Op.convert 9 34 (Operand.tmp 9))=some (o.slice (some ⟨x,0,0,0,1⟩) k k,aH)∧bF (H.next) (aH.next) (some (o.bool ((m:Int) == 0))=some (o.bool false)∧bF (H.next) (aH.next+3) (some (o.bool ((m:Int) == 2))=some (o.bool false)∧bF (H.next) (aH.next+14) (True∧some (o.bool (dO .u8 (m:Int) 2 == 4))=some (o.bool false)∧bF (H.next) (aH.next+18) ((-9223372036854775808≤(r:Int)∧(r:Int)≤9223372036854775807)∧(-9223372036854775808≤(m:Int)∧(m:Int)≤9223372036854775807)∧(-9223372036854775808≤(m:Int)+1∧(m:Int)+1≤9223372036854775807)∧bX env eM (aH.next+23) (bR [(81,.int .i64 ((m:Int)+1)),(80,.int .i64 (m:Int)),(79,.int .u8 (m:Int)),(78,.int .i64 (r:Int)),(77,.int .i32 (r:Int)),(29,.bool false),(32,.bool false),(31,.int .u8 (dO .u8 (m:Int) (2))),(30,.int .u8 (m:Int)),(15,.bool false),(25,.bool false),(24,.tuple []),(23,.tuple []),(22,.bool false),(21,.bool false),(20,.tuple []),(19,.tuple []),(18,.bool false),(17,.bool false),(16,.int .u8 (m:Int)),(11,.bool false),(13,.bool false),(12,.int .u8 (m:Int)),(5,.slice (some ⟨x,0,0,0,1⟩) k k),(10,.slice (some ⟨x,0,0,0,1⟩) k k),(9,.str s),(8,(k5 q)),(7,.int .i32 (r:Int)),(4,.slice none 0 0),(0,.int .i32 (r:Int)),(1,.int .u8 (m:Int))]) (j.mk (aH.next+26) (aH.2)) (Op.buildSlice 102 2 {toList:=[(0,Operand.tmp 78),(1,Operand.tmp 81)]})=some ((jY y),aW)∧cW Tryz.prog aw 44 [.str [117],(jY y)] aW v bV∧bN (H.next) (bV.next) (ab v bV)))))))) :
 ∃v p,aI Tryz.prog aw 42 [.int .i32 r,.int .u8 m] H v p∧ab v p :=
 cf bU mixed c7 (aq:= .aA (.act 1001 ((k5 q)) fun x=>H1) (.aA (.val 1002 (.str s)) (.aA (.kt 1003 (.slice (some ⟨x,0,0,0,1⟩) k k) fun x=>aH) (.aA (.val 2001 (.bool false)) (.aA (.val 4001 (.bool false)) (ah 6001 (.aA (.val 6002 (.bool false)) (ah 17001 (ah 17003 (ah 17004 (.aA (.act 17005 ((jY y)) fun x=>aW) (.aA (.act 17006 v fun x=>bV) .nil)))))))))))) (by kernel_rfl) aY
theorem abX(H H1 aH aW bV:j)(r m q x y k:Nat)(s:Bytes)(v:o)(ab:o→j→Prop)(aY:bF (H.next) (H.next) (bF (H.next) (H.next+1) (bX env eM (H.next+2) (bR [(7,.int .i32 (r:Int)),(4,.slice none 0 0),(0,.int .i32 (r:Int)),(1,.int .u8 (m:Int))]) (j.mk (H.next+6) (H.2)) (Op.buildSlice 84 1 {toList:=[(0,Operand.tmp 7)]})=some ((k5 q),H1)∧cW Tryz.prog aw 51 [(k5 q)] H1 (.str s) H1∧eB env (H.next+4) (bR [(9,.str s),(8,(k5 q)),(7,.int .i32 (r:Int)),(4,.slice none 0 0),(0,.int .i32 (r:Int)),(1,.int .u8 (m:Int))]) H1 (Op.convert 9 34 (Operand.tmp 9))=some (o.slice (some ⟨x,0,0,0,1⟩) k k,aH)∧bF (H.next) (aH.next) (some (o.bool ((m:Int) == 0))=some (o.bool false)∧bF (H.next) (aH.next+3) (some (o.bool ((m:Int) == 2))=some (o.bool false)∧bF (H.next) (aH.next+14) (True∧some (o.bool (dO .u8 (m:Int) 2 == 4))=some (o.bool true)∧bF (H.next) (aH.next+18) (bF (H.next) (aH.next+19) (some (o.bool ((r:Int) == 32))=some (o.bool false)∧bF (H.next) (aH.next+22) (some (o.bool (decide ((r:Int)≥97)))=some (o.bool true)∧some (o.bool (decide ((r:Int)≤122)))=some (o.bool false)∧bF (H.next) (aH.next+37) (some (o.bool (decide ((r:Int)≥92)))=some (o.bool true)∧some (o.bool (decide ((r:Int)≤95)))=some (o.bool false)∧bF (H.next) (aH.next+44) ((-9223372036854775808≤(r:Int)∧(r:Int)≤9223372036854775807)∧(-9223372036854775808≤(m:Int)∧(m:Int)≤9223372036854775807)∧(-9223372036854775808≤(m:Int)+1∧(m:Int)+1≤9223372036854775807)∧bX env eM (aH.next+49) (bR [(37,.int .i64 ((m:Int)+1)),(36,.int .i64 (m:Int)),(35,.int .u8 (m:Int)),(34,.int .i64 (r:Int)),(33,.int .i32 (r:Int)),(61,.bool false),(67,.bool false),(66,.bool false),(65,.int .i32 (r:Int)),(64,.bool true),(63,.bool true),(62,.int .i32 (r:Int)),(43,.bool false),(57,.bool false),(56,.tuple []),(55,.tuple []),(54,.bool false),(53,.bool false),(52,.tuple []),(51,.tuple []),(50,.bool false),(49,.bool false),(48,.bool false),(47,.int .i32 (r:Int)),(46,.bool true),(45,.bool true),(44,.int .i32 (r:Int)),(40,.bool false),(42,.bool false),(41,.int .i32 (r:Int)),(6,.int .u8 0),(29,.bool true),(32,.bool true),(31,.int .u8 (dO .u8 (m:Int) (2))),(30,.int .u8 (m:Int)),(15,.bool false),(25,.bool false),(24,.tuple []),(23,.tuple []),(22,.bool false),(21,.bool false),(20,.tuple []),(19,.tuple []),(18,.bool false),(17,.bool false),(16,.int .u8 (m:Int)),(11,.bool false),(13,.bool false),(12,.int .u8 (m:Int)),(5,.slice (some ⟨x,0,0,0,1⟩) k k),(10,.slice (some ⟨x,0,0,0,1⟩) k k),(9,.str s),(8,(k5 q)),(7,.int .i32 (r:Int)),(4,.slice none 0 0),(0,.int .i32 (r:Int)),(1,.int .u8 (m:Int))]) (j.mk (aH.next+52) (aH.2)) (Op.buildSlice 102 2 {toList:=[(0,Operand.tmp 34),(1,Operand.tmp 37)]})=some ((jY y),aW)∧cW Tryz.prog aw 44 [.str [117],(jY y)] aW v bV∧bN (H.next) (bV.next) (ab v bV)))))))))))) :
 ∃v p,aI Tryz.prog aw 42 [.int .i32 r,.int .u8 m] H v p∧ab v p :=
 cf bU mixed c7 (aq:= .aA (.act 1001 ((k5 q)) fun x=>H1) (.aA (.val 1002 (.str s)) (.aA (.kt 1003 (.slice (some ⟨x,0,0,0,1⟩) k k) fun x=>aH) (.aA (.val 2001 (.bool false)) (.aA (.val 4001 (.bool false)) (ah 6001 (.aA (.val 6002 (.bool true)) (.aA (.val 9001 (.bool false)) (.aA (.val 10001 (.bool true)) (.aA (.val 10004 (.bool false)) (.aA (.val 12001 (.bool true)) (.aA (.val 12004 (.bool false)) (ah 8001 (ah 8003 (ah 8004 (.aA (.act 8005 ((jY y)) fun x=>aW) (.aA (.act 8006 v fun x=>bV) .nil))))))))))))))))) (by kernel_rfl) aY
theorem PF(H:j)(B q i z:Nat)(k:Int)(m:Nat)(ab:dj→bT→j→Prop)(aY:bF B (H.next) (((i:Int)<6→bF B (H.next+1) ((0≤(i:Int)∧(i:Int)<6)∧cj env.D 5 ⟨q,0,0+Int.toNat (i:Int),0,1⟩ (j.mk (H.next+4) (H.2))=some (.int .u8 (z:Int))∧bF B (H.next+4) (some (o.bool (ha (z:Int) != k))=some (o.bool true)∧bF B (H.next+8) ((-9223372036854775808≤(i:Int)+1∧(i:Int)+1≤9223372036854775807)∧ab .normal [(0,.int .i32 k),(1,.int .u8 (m:Int)),(5,.int .i64 ((m:Int)+1)),(52,.slice (some ⟨q,0,0,0,1⟩) 6 6),(53,.int .i64 6),(54,.int .i64 ((i:Int)+1))] (j.mk (H.next+8+2) (j.aT (j.mk (H.next+4+4) (j.aT (j.mk (H.next+1+3) (j.aT (j.mk (H.next+1) (j.aT H))))))))))))∧(¬(i:Int)<6→ab (.exit 1) [(0,.int .i32 k),(1,.int .u8 (m:Int)),(5,.int .i64 ((m:Int)+1)),(52,.slice (some ⟨q,0,0,0,1⟩) 6 6),(53,.int .i64 6),(54,.int .i64 (i:Int))] (j.mk (H.next+1) (j.aT H))))) :
 ∃e bb p,cP Tryz.prog aw B 111 (c4 Tryz.prog 43 0) [(0,.int .i32 k),(1,.int .u8 m),(5,.int .i64 (m+1)),(52,.slice (some ⟨q,0,0,0,1⟩) 6 6),(53,.int .i64 6),(54,.int .i64 i)] H e bb p∧ab e bb p :=
 hI bU mixed c7 (aq:= .aN 12000 (ah 13000 (.aA (.val 13001 (.int .u8 (z:Int))) (.aA (.val 14003 (.bool true)) (ah 18000 .nil)))) .nil) (cN:=[0,1,5,52,53,54]) (by kernel_rfl) aY
abbrev PG(H:j):j:=(j.mk (H.next+10+3) (j.aT (j.mk (H.next+2+8) (j.aT (j.mk (H.next+2) (j.aT H))))))
theorem PH(H:j)(B i:Nat)(k:Int)(m:Nat)(ab:dj→bT→j→Prop)(aY:bF B (H.next) (((i:Int)≤24→bF B (H.next+2) ((0<k→some (o.bool (hL (i:Int) == k))=some (o.bool false)∧bF B (H.next+10) ((-9223372036854775808≤(i:Int)+1∧(i:Int)+1≤9223372036854775807)∧ab .normal [(0,.int .i32 k),(1,.int .u8 (m:Int)),(5,.int .i64 ((m:Int)+1)),(9,.int .i64 ((i:Int)+1))] (PG H)))∧(¬0<k→bF B (H.next+10) ((-9223372036854775808≤(i:Int)+1∧(i:Int)+1≤9223372036854775807)∧ab .normal [(0,.int .i32 k),(1,.int .u8 (m:Int)),(5,.int .i64 ((m:Int)+1)),(9,.int .i64 ((i:Int)+1))] (PG H)))))∧(¬(i:Int)≤24→ab (.exit 3) [(0,.int .i32 k),(1,.int .u8 (m:Int)),(5,.int .i64 ((m:Int)+1)),(9,.int .i64 (i:Int))] (j.mk (H.next+2) (j.aT H))))) :
 ∃e bb p,cP Tryz.prog aw B 111 (c4 Tryz.prog 43 1) [(0,.int .i32 k),(1,.int .u8 m),(5,.int .i64 (m+1)),(9,.int .i64 i)] H e bb p∧ab e bb p :=
 hI bU mixed c7 (aq:= .aN 22001 (.aN 24001 (.aA (.val 24006 (.bool false)) (ah 23001 .nil)) (ah 23001 .nil)) .nil) (cN:=[0,1,5,9]) (by kernel_rfl) aY
abbrev iy(q:Nat):o:=o.slice (some ⟨q,0,0,0,1⟩) 6 6
abbrev ye(aW:j)(m:Nat)(k:Int):dh:=(.aA (.loop [(0,.int .i32 k),(1,.int .u8 (m:Int)),(5,.int .i64 ((m:Int)+1)),(9,.int .i64 25)] aW (.exit 3)) .nil)
theorem abY(H H1 aH aW:j)(q m:Nat)(k:Int)(e':o)(ab:o→j→Prop)(aY:bF (H.next) (H.next) (bF (H.next) (H.next+1) ((-9223372036854775808≤(m:Int)∧(m:Int)≤9223372036854775807)∧(-9223372036854775808≤(m:Int)+1∧(m:Int)+1≤9223372036854775807)∧bF (H.next) (H.next+5) (some (o.bool (decide (k≥1)))=some (o.bool false)∧bF (H.next) (H.next+11) (bX env eM (H.next+11) (bR [(18,.bool false),(17,.tuple []),(16,.tuple []),(15,.bool false),(14,.bool false),(13,.int .i32 k),(5,.int .i64 ((m:Int)+1)),(12,.int .i64 ((m:Int)+1)),(11,.int .i64 (m:Int)),(10,.int .u8 (m:Int)),(4,.slice none 0 0),(0,.int .i32 k),(1,.int .u8 (m:Int))]) (j.mk (H.next+15) (H.2)) (Op.buildSlice 34 6 {toList:=[(0,Operand.const (Value.int .u8 (65))),(1,Operand.const (Value.int .u8 (66))),(2,Operand.const (Value.int .u8 (67))),(3,Operand.const (Value.int .u8 (68))),(4,Operand.const (Value.int .u8 (72))),(5,Operand.const (Value.int .u8 (70)))]})=some ((iy q),H1)∧eB env (H.next+12) (bR [(51,(iy q)),(18,.bool false),(17,.tuple []),(16,.tuple []),(15,.bool false),(14,.bool false),(13,.int .i32 k),(5,.int .i64 ((m:Int)+1)),(12,.int .i64 ((m:Int)+1)),(11,.int .i64 (m:Int)),(10,.int .u8 (m:Int)),(4,.slice none 0 0),(0,.int .i32 k),(1,.int .u8 (m:Int))]) H1 (Op.convert 34 34 (Operand.tmp 51))=some ((iy q),H1)∧cP Tryz.prog aw (H.next) 111 (Code.loop (c4 Tryz.prog 43 0)) [(0,.int .i32 k),(1,.int .u8 (m:Int)),(5,.int .i64 ((m:Int)+1)),(52,(iy q)),(53,.int .i64 6),(54,.int .i64 0)] H1 (.exit 1) [(0,.int .i32 k),(1,.int .u8 (m:Int)),(5,.int .i64 ((m:Int)+1)),(52,(iy q)),(53,.int .i64 6),(54,e')] aH∧bF (H.next) (aH.next) (((m:Int)=0→some (o.bool (decide (k≥21)))=some (o.bool false)∧bF (H.next) (aH.next+10) (cP Tryz.prog aw (H.next) 111 (Code.loop (c4 Tryz.prog 43 1)) [(0,.int .i32 k),(1,.int .u8 (m:Int)),(5,.int .i64 ((m:Int)+1)),(9,.int .i64 2)] (j.mk (aH.next+10+1) (j.aT (j.mk (aH.next+10) (j.aT aH)))) (.exit 3) [(0,.int .i32 k),(1,.int .u8 (m:Int)),(5,.int .i64 ((m:Int)+1)),(9,.int .i64 25)] aW∧bF (H.next) (aW.next) (bN (H.next) (aW.next+1) (ab (.slice none 0 0) (j.mk (aW.next+1) (j.aT aW))))))∧(¬(m:Int)=0→bF (H.next) (aH.next+10) (cP Tryz.prog aw (H.next) 111 (Code.loop (c4 Tryz.prog 43 1)) [(0,.int .i32 k),(1,.int .u8 (m:Int)),(5,.int .i64 ((m:Int)+1)),(9,.int .i64 2)] (j.mk (aH.next+10+1) (j.aT (j.mk (aH.next+10) (j.aT aH)))) (.exit 3) [(0,.int .i32 k),(1,.int .u8 (m:Int)),(5,.int .i64 ((m:Int)+1)),(9,.int .i64 25)] aW∧bF (H.next) (aW.next) (bN (H.next) (aW.next+1) (ab (.slice none 0 0) (j.mk (aW.next+1) (j.aT aW)))))))))))) :
 ∃v p,aI Tryz.prog aw 43 [.int .i32 k,.int .u8 m] H v p∧ab v p :=
 cf bU mixed c7 (aq:=ah 1001 (ah 1002 (.aA (.val 2001 (.bool false)) (.aA (.act 11000 ((iy q)) fun x=>H1) (.aA (.kt 11001 ((iy q)) fun h=>h) (.aA (.cN [0,1,5,52,53,54]) (.aA (.loop [(0,.int .i32 k),(1,.int .u8 (m:Int)),(5,.int .i64 ((m:Int)+1)),(52,(iy q)),(53,.int .i64 6),(54,e')] aH (.exit 1)) (.aN 19001 (.aA (.val 19004 (.bool false)) (.aA (.cN [0,1,5,9]) (ye aW m k))) (.aA (.cN [0,1,5,9]) (ye aW m k)))))))))) (by kernel_rfl) aY
abbrev H3(aH:j):j:=(j.mk (aH.next+10+1) (j.aT (j.mk (aH.next+10) (j.aT aH))))
theorem abZ(H H1 aH aW:j)(q m:Nat)(k:Int)(e':o)(ab:o→j→Prop)(aY:bF (H.next) (H.next) (bF (H.next) (H.next+1) ((-9223372036854775808≤(m:Int)∧(m:Int)≤9223372036854775807)∧(-9223372036854775808≤(m:Int)+1∧(m:Int)+1≤9223372036854775807)∧bF (H.next) (H.next+5) (some (o.bool (decide (k≥1)))=some (o.bool true)∧some (o.bool (decide (k≤4)))=some (o.bool false)∧bF (H.next) (H.next+11) (bX env eM (H.next+11) (bR [(18,.bool false),(17,.bool false),(16,.int .i32 k),(15,.bool true),(14,.bool true),(13,.int .i32 k),(5,.int .i64 ((m:Int)+1)),(12,.int .i64 ((m:Int)+1)),(11,.int .i64 (m:Int)),(10,.int .u8 (m:Int)),(4,.slice none 0 0),(0,.int .i32 k),(1,.int .u8 (m:Int))]) (j.mk (H.next+15) (H.2)) (Op.buildSlice 34 6 {toList:=[(0,Operand.const (Value.int .u8 (65))),(1,Operand.const (Value.int .u8 (66))),(2,Operand.const (Value.int .u8 (67))),(3,Operand.const (Value.int .u8 (68))),(4,Operand.const (Value.int .u8 (72))),(5,Operand.const (Value.int .u8 (70)))]})=some ((iy q),H1)∧eB env (H.next+12) (bR [(51,(iy q)),(18,.bool false),(17,.bool false),(16,.int .i32 k),(15,.bool true),(14,.bool true),(13,.int .i32 k),(5,.int .i64 ((m:Int)+1)),(12,.int .i64 ((m:Int)+1)),(11,.int .i64 (m:Int)),(10,.int .u8 (m:Int)),(4,.slice none 0 0),(0,.int .i32 k),(1,.int .u8 (m:Int))]) H1 (Op.convert 34 34 (Operand.tmp 51))=some ((iy q),H1)∧cP Tryz.prog aw (H.next) 111 (Code.loop (c4 Tryz.prog 43 0)) [(0,.int .i32 k),(1,.int .u8 (m:Int)),(5,.int .i64 ((m:Int)+1)),(52,(iy q)),(53,.int .i64 6),(54,.int .i64 0)] H1 (.exit 1) [(0,.int .i32 k),(1,.int .u8 (m:Int)),(5,.int .i64 ((m:Int)+1)),(52,(iy q)),(53,.int .i64 6),(54,e')] aH∧bF (H.next) (aH.next) (((m:Int)=0→(21≤k→some (o.bool (decide (k<25)))=some (o.bool false)∧bF (H.next) (aH.next+10) (cP Tryz.prog aw (H.next) 111 (Code.loop (c4 Tryz.prog 43 1)) [(0,.int .i32 k),(1,.int .u8 (m:Int)),(5,.int .i64 ((m:Int)+1)),(9,.int .i64 2)] (H3 aH) (.exit 3) [(0,.int .i32 k),(1,.int .u8 (m:Int)),(5,.int .i64 ((m:Int)+1)),(9,.int .i64 25)] aW∧bF (H.next) (aW.next) (bN (H.next) (aW.next+1) (ab (.slice none 0 0) (j.mk (aW.next+1) (j.aT aW))))))∧(¬21≤k→bF (H.next) (aH.next+10) (cP Tryz.prog aw (H.next) 111 (Code.loop (c4 Tryz.prog 43 1)) [(0,.int .i32 k),(1,.int .u8 (m:Int)),(5,.int .i64 ((m:Int)+1)),(9,.int .i64 2)] (H3 aH) (.exit 3) [(0,.int .i32 k),(1,.int .u8 (m:Int)),(5,.int .i64 ((m:Int)+1)),(9,.int .i64 25)] aW∧bF (H.next) (aW.next) (bN (H.next) (aW.next+1) (ab (.slice none 0 0) (j.mk (aW.next+1) (j.aT aW)))))))∧(¬(m:Int)=0→bF (H.next) (aH.next+10) (cP Tryz.prog aw (H.next) 111 (Code.loop (c4 Tryz.prog 43 1)) [(0,.int .i32 k),(1,.int .u8 (m:Int)),(5,.int .i64 ((m:Int)+1)),(9,.int .i64 2)] (H3 aH) (.exit 3) [(0,.int .i32 k),(1,.int .u8 (m:Int)),(5,.int .i64 ((m:Int)+1)),(9,.int .i64 25)] aW∧bF (H.next) (aW.next) (bN (H.next) (aW.next+1) (ab (.slice none 0 0) (j.mk (aW.next+1) (j.aT aW)))))))))))) :
 ∃v p,aI Tryz.prog aw 43 [.int .i32 k,.int .u8 m] H v p∧ab v p :=
 cf bU mixed c7 (aq:=ah 1001 (ah 1002 (.aA (.val 2001 (.bool true)) (.aA (.val 2004 (.bool false)) (.aA (.act 11000 ((iy q)) fun x=>H1) (.aA (.kt 11001 ((iy q)) fun h=>h) (.aA (.cN [0,1,5,52,53,54]) (.aA (.loop [(0,.int .i32 k),(1,.int .u8 (m:Int)),(5,.int .i64 ((m:Int)+1)),(52,(iy q)),(53,.int .i64 6),(54,e')] aH (.exit 1)) (.aN 19001 (.aN 19004 (.aA (.val 19008 (.bool false)) (.aA (.cN [0,1,5,9]) (ye aW m k))) (.aA (.cN [0,1,5,9]) (ye aW m k))) (.aA (.cN [0,1,5,9]) (ye aW m k))))))))))) (by kernel_rfl) aY
abbrev cU(k c m x y:Int)(t:Bytes):o:= .agg [.int .i8 k,.int .i32 c,.int .u8 m,.int .i64 x,.int .i64 y,.str t]
theorem ab0(H:j)(c m x y:Int)(t:Bytes)(a:bH)(n:Nat)(ab:o→j→Prop)(aY:cW Tryz.prog aw 40 [.agg [.int .i8 3,.int .i32 c,.int .u8 m,.int .i64 x,.int .i64 y,.str t]] (j.au 18 [(0,J.made [.agg [.int .i8 3,.int .i32 c,.int .u8 m,.int .i64 x,.int .i64 y,.str t]] 6 true (some (42,6))),(4,(J.made ([.agg [.int .i8 3,.int .i32 0,.int .u8 0,.int .i64 x,.int .i64 y,.str t]]) 6 true (some (42,6))))]) (.slice (some a) n n) H∧ab (.tuple [.slice (some a) n n,.int .i64 0]) (j.mk (H.next+2+3) (j.aT (j.mk (H.next+2) (j.aT H))))) :
 ∃v p,aI Tryz.prog aw 21 [cU 3 c m x y t] (⟨0,.nil⟩) v p∧ab v p :=
 cf bU mixed c7 (aq:= .aA (.act 5001 (.slice (some a) n n) fun x=>H) .nil) (by kernel_rfl) aY
theorem ab1(H:j)(c m x y:Int)(t:Bytes)(ab:o→j→Prop)(aY:cW Tryz.prog aw 40 [.agg [.int .i8 3,.int .i32 c,.int .u8 m,.int .i64 x,.int .i64 y,.str t]] (j.au 18 [(0,J.made [.agg [.int .i8 3,.int .i32 c,.int .u8 m,.int .i64 x,.int .i64 y,.str t]] 6 true (some (42,6))),(4,(J.made ([.agg [.int .i8 3,.int .i32 0,.int .u8 0,.int .i64 x,.int .i64 y,.str t]]) 6 true (some (42,6))))]) (.slice none 0 0) H∧ab (.tuple [.slice none 0 0,.int .i64 220]) (j.mk (H.next+2+2) (j.aT (j.mk (H.next+2) (j.aT H))))) :
 ∃v p,aI Tryz.prog aw 21 [cU 3 c m x y t] (⟨0,.nil⟩) v p∧ab v p :=
 cf bU mixed c7 (aq:= .aA (.act 5001 (.slice none 0 0) fun x=>H) .nil) (by kernel_rfl) aY
theorem ab2(k:Int)(c m x y:Int)(t:Bytes)(ab:o→j→Prop)(aY:some (o.bool (k == 3))=some (o.bool false)∧some (o.bool (decide (m>7)))=some (o.bool true)∧ab (.tuple [.slice none 0 0,.int .i64 220]) (j.au 23 [(0,J.made [.agg [.int .i8 k,.int .i32 c,.int .u8 m,.int .i64 x,.int .i64 y,.str t]] 6 true (some (42,6))),(4,(J.made ([.agg [.int .i8 k,.int .i32 0,.int .u8 0,.int .i64 x,.int .i64 y,.str t]]) 6 true (some (42,6))))])) :
 ∃v p,aI Tryz.prog aw 21 [cU k c m x y t] (⟨0,.nil⟩) v p∧ab v p :=
 cf bU mixed c7 (aq:= .aA (.val 4002 (.bool false)) (.aA (.val 6002 (.bool true)) .nil)) (by kernel_rfl) aY
abbrev H4(c:Int)(m:Int):o:=o.agg [.int .i8 1,.int .i32 c,.int .u8 m,.int .i64 0,.int .i64 0,.str []]
abbrev H5:o:=o.agg [.int .i8 1,.int .i32 0,.int .u8 0,.int .i64 0,.int .i64 0,.str []]
abbrev BT(c:Int)(m:Int):j:=(j.au 33 [(0,J.made [(H4 c m)] 6 true (some (42,6))),(4,(J.made ([H5]) 6 true (some (42,6))))])
theorem ab3(H:j)(c m:Int)(a:bH)(n:Nat)(ab:o→j→Prop)(aY:some (o.bool (decide (m>7)))=some (o.bool false)∧cW Tryz.prog aw 41 [.int .i32 c] (BT c m) (.bool true) (BT c m)∧cW Tryz.prog aw 42 [.int .i32 c,.int .u8 m] (j.au 39 [(0,J.made [(H4 c m)] 6 true (some (42,6))),(4,(J.made ([H5]) 6 true (some (42,6))))]) (.slice (some a) n n) H∧ab (.tuple [.slice (some a) n n,.int .i64 0]) (j.mk (H.next+2+3) (j.aT (j.mk (H.next+2) (j.aT H))))) :
 ∃v p,aI Tryz.prog aw 21 [cU 1 c m 0 0 []] (⟨0,.nil⟩) v p∧ab v p :=
 cf bU mixed c7 (aq:= .aA (.val 6002 (.bool false)) (.aA (.val 7011 (.bool true)) (.aA (.act 8004 (.slice (some a) n n) fun x=>H) .nil))) (by kernel_rfl) aY
theorem ab4(c m x y:Int)(t:Bytes)(ab:o→j→Prop)(aY:some (o.bool (decide (m>7)))=some (o.bool false)∧some (o.bool (1 == 1&&(0 == 0&&(0 == 0&&(x == 0&&(y == 0&&(t ==[]&&true)))))))=some (o.bool false)∧ab (.tuple [.slice none 0 0,.int .i64 220]) (j.au 84 [(0,J.made [.agg [.int .i8 1,.int .i32 c,.int .u8 m,.int .i64 x,.int .i64 y,.str t]] 6 true (some (42,6))),(4,(J.made ([.agg [.int .i8 1,.int .i32 0,.int .u8 0,.int .i64 x,.int .i64 y,.str t]]) 6 true (some (42,6))))])) :
 ∃v p,aI Tryz.prog aw 21 [cU 1 c m x y t] (⟨0,.nil⟩) v p∧ab v p :=
 cf bU mixed c7 (aq:= .aA (.val 6002 (.bool false)) (.aA (.val 7006 (.bool false)) .nil)) (by kernel_rfl) aY
theorem ab5(c m:Int)(ab:o→j→Prop)(aY:some (o.bool (decide (m>7)))=some (o.bool false)∧cW Tryz.prog aw 41 [.int .i32 c] (BT c m) (.bool false) (BT c m)∧ab (.tuple [.slice none 0 0,.int .i64 220]) (j.au 84 [(0,J.made [(H4 c m)] 6 true (some (42,6))),(4,(J.made ([H5]) 6 true (some (42,6))))])) :
 ∃v p,aI Tryz.prog aw 21 [cU 1 c m 0 0 []] (⟨0,.nil⟩) v p∧ab v p :=
 cf bU mixed c7 (aq:= .aA (.val 6002 (.bool false)) (.aA (.val 7011 (.bool false)) .nil)) (by kernel_rfl) aY
theorem ab6(H:j)(c m:Int)(a:bH)(n:Nat)(ab:o→j→Prop)(aY:some (o.bool (decide (m>7)))=some (o.bool false)∧cW Tryz.prog aw 43 [.int .i32 c,.int .u8 m] (j.au 48 [(0,J.made [.agg [.int .i8 2,.int .i32 c,.int .u8 m,.int .i64 0,.int .i64 0,.str []]] 6 true (some (42,6))),(4,(J.made ([.agg [.int .i8 2,.int .i32 0,.int .u8 0,.int .i64 0,.int .i64 0,.str []]]) 6 true (some (42,6))))]) (.slice (some a) n n) H∧ab (.tuple [.slice (some a) n n,.int .i64 0]) (j.mk (H.next+2+3) (j.aT (j.mk (H.next+2) (j.aT H))))) :
 ∃v p,aI Tryz.prog aw 21 [cU 2 c m 0 0 []] (⟨0,.nil⟩) v p∧ab v p :=
 cf bU mixed c7 (aq:= .aA (.val 6002 (.bool false)) (.aA (.act 10004 (.slice (some a) n n) fun x=>H) .nil)) (by kernel_rfl) aY
theorem ab7(H:j)(c m:Int)(ab:o→j→Prop)(aY:some (o.bool (decide (m>7)))=some (o.bool false)∧cW Tryz.prog aw 43 [.int .i32 c,.int .u8 m] (j.au 48 [(0,J.made [.agg [.int .i8 2,.int .i32 c,.int .u8 m,.int .i64 0,.int .i64 0,.str []]] 6 true (some (42,6))),(4,(J.made ([.agg [.int .i8 2,.int .i32 0,.int .u8 0,.int .i64 0,.int .i64 0,.str []]]) 6 true (some (42,6))))]) (.slice none 0 0) H∧ab (.tuple [.slice none 0 0,.int .i64 220]) (j.mk (H.next+2+2) (j.aT (j.mk (H.next+2) (j.aT H))))) :
 ∃v p,aI Tryz.prog aw 21 [cU 2 c m 0 0 []] (⟨0,.nil⟩) v p∧ab v p :=
 cf bU mixed c7 (aq:= .aA (.val 6002 (.bool false)) (.aA (.act 10004 (.slice none 0 0) fun x=>H) .nil)) (by kernel_rfl) aY
theorem ab8(c m x y:Int)(t:Bytes)(ab:o→j→Prop)(aY:some (o.bool (decide (m>7)))=some (o.bool false)∧some (o.bool (2 == 2&&(0 == 0&&(0 == 0&&(x == 0&&(y == 0&&(t ==[]&&true)))))))=some (o.bool false)∧ab (.tuple [.slice none 0 0,.int .i64 220]) (j.au 84 [(0,J.made [.agg [.int .i8 2,.int .i32 c,.int .u8 m,.int .i64 x,.int .i64 y,.str t]] 6 true (some (42,6))),(4,(J.made ([.agg [.int .i8 2,.int .i32 0,.int .u8 0,.int .i64 x,.int .i64 y,.str t]]) 6 true (some (42,6))))])) :
 ∃v p,aI Tryz.prog aw 21 [cU 2 c m x y t] (⟨0,.nil⟩) v p∧ab v p :=
 cf bU mixed c7 (aq:= .aA (.val 6002 (.bool false)) (.aA (.val 9006 (.bool false)) .nil)) (by kernel_rfl) aY
theorem ab9(H:j)(a:bH)(n:Nat)(ab:o→j→Prop)(aY:cW Tryz.prog aw 44 [.str [79],.slice none 0 0] (j.au 48 [(0,J.made [p4] 6 true (some (42,6))),(4,(J.made ([p4]) 6 true (some (42,6))))]) (.slice (some a) n n) H∧ab (.tuple [.slice (some a) n n,.int .i64 0]) (j.mk (H.next+2+3) (j.aT (j.mk (H.next+2) (j.aT H))))) :
 ∃v p,aI Tryz.prog aw 21 [cU 5 0 0 0 0 []] (⟨0,.nil⟩) v p∧ab v p :=
 cf bU mixed c7 (aq:= .aA (.act 12000 (.slice (some a) n n) fun x=>H) .nil) (by kernel_rfl) aY
theorem ab'(H:j)(a:bH)(n:Nat)(ab:o→j→Prop)(aY:cW Tryz.prog aw 44 [.str [73],.slice none 0 0] (j.au 52 [(0,J.made [sV] 6 true (some (42,6))),(4,(J.made ([p4]) 6 true (some (42,6))))]) (.slice (some a) n n) H∧ab (.tuple [.slice (some a) n n,.int .i64 0]) (j.mk (H.next+2+3) (j.aT (j.mk (H.next+2) (j.aT H))))) :
 ∃v p,aI Tryz.prog aw 21 [cU 5 1 0 0 0 []] (⟨0,.nil⟩) v p∧ab v p :=
 cf bU mixed c7 (aq:= .aA (.act 14000 (.slice (some a) n n) fun x=>H) .nil) (by kernel_rfl) aY
theorem aca(c m x y:Int)(t:Bytes)(ab:o→j→Prop)(aY:some (o.bool (decide (m>7)))=some (o.bool false)∧some (o.bool (5 == 5&&(c == 0&&(m == 0&&(x == 0&&(y == 0&&(t ==[]&&true)))))))=some (o.bool false)∧some (o.bool (5 == 5&&(c == 1&&(m == 0&&(x == 0&&(y == 0&&(t ==[]&&true)))))))=some (o.bool false)∧ab (.tuple [.slice none 0 0,.int .i64 220]) (j.au 84 [(0,J.made [.agg [.int .i8 5,.int .i32 c,.int .u8 m,.int .i64 x,.int .i64 y,.str t]] 6 true (some (42,6))),(4,(J.made ([.agg [.int .i8 5,.int .i32 0,.int .u8 0,.int .i64 x,.int .i64 y,.str t]]) 6 true (some (42,6))))])) :
 ∃v p,aI Tryz.prog aw 21 [cU 5 c m x y t] (⟨0,.nil⟩) v p∧ab v p :=
 cf bU mixed c7 (aq:= .aA (.val 6002 (.bool false)) (.aA (.val 11002 (.bool false)) (.aA (.val 13002 (.bool false)) .nil))) (by kernel_rfl) aY
abbrev rG(t:Bytes):o:=o.agg [.int .i8 4,.int .i32 0,.int .u8 0,.int .i64 0,.int .i64 0,.str t]
abbrev td(t:Bytes):J:=(J.made ([(rG t)]) 6 true (some (42,6)))
abbrev PI(t:Bytes):j:=(j.au 75 [(0,J.made [(rG t)] 6 true (some (42,6))),(4,(td t)),(68,J.made [.int .i64 200] 1 true)])
theorem acb(H H1:j)(t:Bytes)(a a2:bH)(n aP:Nat)(ab:o→j→Prop)(aY:some (o.bool (4 == 4&&(0 == 0&&(0 == 0&&(0 == 0&&(0 == 0&&(t == t&&true)))))))=some (o.bool true)∧some (o.bool (decide ((↑(List.length t):Int)≤65536)))=some (o.bool true)∧cW Tryz.prog aw 45 [.str t,.str [27,91,50,48,49,126]] (j.au 68 [(0,J.made [(rG t)] 6 true (some (42,6))),(4,(td t))]) (.bool false) (j.au 68 [(0,J.made [(rG t)] 6 true (some (42,6))),(4,(td t))])∧cW Tryz.prog aw 44 [.str [126],.slice (some ⟨68,0,0,0,1⟩) 1 1] (PI t) (.slice (some a) n n) H∧qo 75 (PI t) H=true∧cj env.D 9 ⟨0,0,0,5,6⟩ H=some (o.str t)∧Nat.le (Nat.succ (List.length t+List.length (Array.toList (ByteArray.data {data:= #[27,91,50,48,49,126]})))) (2^62)∧gn env Builtin.append {toList:=[34,9]} [.slice (some a) n n,.str (t++[(27:UInt8),(91:UInt8),(50:UInt8),(48:UInt8),(49:UInt8),(126:UInt8)])] 73 H=some (o.slice (some a2) aP aP,H1)∧(bH.id a<68∨75≤bH.id a)∧ab (.tuple [.slice (some a2) aP aP,.int .i64 0]) (j.mk (H1.next+2+3) (j.aT (j.mk (H1.next+2) (j.aT H1))))) :
 ∃v p,aI Tryz.prog aw 21 [cU 4 0 0 0 0 t] (⟨0,.nil⟩) v p∧ab v p :=
 cf bU mixed c7 (aq:= .aA (.val 15004 (.bool true)) (.aA (.val 15009 (.bool true)) (.aA (.val 15014 (.bool false)) (.aA (.act 16001 (.slice (some a) n n) fun x=>H) (.aA (.val 16003 (.str t)) (ah 16004 (.aA (.D8 16005 (.slice (some a2) aP aP) fun x=>H1) .nil))))))) (by kernel_rfl) aY
theorem acd(c m x y:Int)(t:Bytes)(ab:o→j→Prop)(aY:some (o.bool (decide (m>7)))=some (o.bool false)∧some (o.bool (4 == 4&&(c == 0&&(m == 0&&(x == 0&&(y == 0&&(t == t&&true)))))))=some (o.bool false)∧ab (.tuple [.slice none 0 0,.int .i64 220]) (j.au 84 [(0,J.made [.agg [.int .i8 4,.int .i32 c,.int .u8 m,.int .i64 x,.int .i64 y,.str t]] 6 true (some (42,6))),(4,(J.made ([.agg [.int .i8 4,.int .i32 0,.int .u8 0,.int .i64 x,.int .i64 y,.str t]]) 6 true (some (42,6))))])) :
 ∃v p,aI Tryz.prog aw 21 [cU 4 c m x y t] (⟨0,.nil⟩) v p∧ab v p :=
 cf bU mixed c7 (aq:= .aA (.val 6002 (.bool false)) (.aA (.val 15004 (.bool false)) .nil)) (by kernel_rfl) aY
theorem ace(t:Bytes)(ab:o→j→Prop)(aY:some (o.bool (4 == 4&&(0 == 0&&(0 == 0&&(0 == 0&&(0 == 0&&(t == t&&true)))))))=some (o.bool true)∧some (o.bool (decide ((↑(List.length t):Int)≤65536)))=some (o.bool false)∧ab (.tuple [.slice none 0 0,.int .i64 220]) (j.au 84 [(0,J.made [(rG t)] 6 true (some (42,6))),(4,(td t))])) :
 ∃v p,aI Tryz.prog aw 21 [cU 4 0 0 0 0 t] (⟨0,.nil⟩) v p∧ab v p :=
 cf bU mixed c7 (aq:= .aA (.val 15004 (.bool true)) (.aA (.val 15009 (.bool false)) .nil)) (by kernel_rfl) aY
theorem acf(t:Bytes)(ab:o→j→Prop)(aY:some (o.bool (4 == 4&&(0 == 0&&(0 == 0&&(0 == 0&&(0 == 0&&(t == t&&true)))))))=some (o.bool true)∧some (o.bool (decide ((↑(List.length t):Int)≤65536)))=some (o.bool true)∧cW Tryz.prog aw 45 [.str t,.str [27,91,50,48,49,126]] (j.au 68 [(0,J.made [(rG t)] 6 true (some (42,6))),(4,(td t))]) (.bool true) (j.au 68 [(0,J.made [(rG t)] 6 true (some (42,6))),(4,(td t))])∧ab (.tuple [.slice none 0 0,.int .i64 220]) (j.au 84 [(0,J.made [(rG t)] 6 true (some (42,6))),(4,(td t))])) :
 ∃v p,aI Tryz.prog aw 21 [cU 4 0 0 0 0 t] (⟨0,.nil⟩) v p∧ab v p :=
 cf bU mixed c7 (aq:= .aA (.val 15004 (.bool true)) (.aA (.val 15009 (.bool true)) (.aA (.val 15014 (.bool true)) .nil))) (by kernel_rfl) aY
abbrev k6(t:Bytes):o:=o.agg [.int .i8 6,.int .i32 0,.int .u8 0,.int .i64 0,.int .i64 0,.str t]
theorem acg(H1 aH aW bV eI:j)(t:Bytes)(d n yf:Nat)(a:bH)(a7:Option bH)(ab:o→j→Prop)(aY:some (o.bool (6 == 6&&(0 == 0&&(0 == 0&&(0 == 0&&(0 == 0&&(t == t&&true)))))))=some (o.bool true)∧some (o.bool (decide ((↑(List.length t):Int)≤62)))=some (o.bool true)∧cW Tryz.prog aw 14 [] (j.au 82 [(0,J.made [(k6 t)] 6 true (some (42,6))),(4,(J.made ([(k6 t)]) 6 true (some (42,6))))]) (.ptr (some ⟨d,0,0,0,6⟩)) H1∧cj env.D 9 ⟨0,0,0,5,6⟩ (j.mk (H1.next+6) (H1.2))=some (o.str t)∧cW Tryz.prog aw 44 [.str t,.slice none 0 0] (j.mk (H1.next+6) (H1.2)) (.slice (some a) n n) aH∧cW Tryz.prog aw 26 [.ptr (some ⟨d,0,0,0,6⟩),.slice (some a) n n] aH (.slice a7 yf yf) aW∧some (o.bool ((yf:Int) == 1))=some (o.bool false)∧ab (.tuple [.slice none 0 0,.int .i64 220]) (j.mk (aW.next+17+2) (j.aT (j.mk (aW.next+15+2) (j.aT (j.mk (aW.next+15) (j.aT aW))))))) :
 ∃v p,aI Tryz.prog aw 21 [cU 6 0 0 0 0 t] (⟨0,.nil⟩) v p∧ab v p :=
 cf bU mixed c7 (aq:= .aA (.val 17004 (.bool true)) (.aA (.val 17009 (.bool true)) (.aA (.act 18000 (.ptr (some ⟨d,0,0,0,6⟩)) fun x=>H1) (.aA (.val 19002 (.str t)) (.aA (.act 19003 (.slice (some a) n n) fun x=>aH) (.aA (.act 19004 (.slice a7 yf yf) fun x=>aW) (.aA (.val 20002 (.bool false)) .nil))))))) (by kernel_rfl) aY
theorem ach(H1 aH aW bV eI:j)(t:Bytes)(d n l dS:Nat)(a a2:bH)(aP:Nat)(k c m x y:Int)(t2:Bytes)(ab:o→j→Prop)(aY:some (o.bool (6 == 6&&(0 == 0&&(0 == 0&&(0 == 0&&(0 == 0&&(t == t&&true)))))))=some (o.bool true)∧some (o.bool (decide ((↑(List.length t):Int)≤62)))=some (o.bool true)∧cW Tryz.prog aw 14 [] (j.au 82 [(0,J.made [(k6 t)] 6 true (some (42,6))),(4,(J.made ([(k6 t)]) 6 true (some (42,6))))]) (.ptr (some ⟨d,0,0,0,6⟩)) H1∧cj env.D 9 ⟨0,0,0,5,6⟩ (j.mk (H1.next+6) (H1.2))=some (o.str t)∧cW Tryz.prog aw 44 [.str t,.slice none 0 0] (j.mk (H1.next+6) (H1.2)) (.slice (some a) n n) aH∧cW Tryz.prog aw 26 [.ptr (some ⟨d,0,0,0,6⟩),.slice (some a) n n] aH (.slice (some ⟨l,dS,0,0,6⟩) 1 1) aW∧cj env.D 42 ⟨l,dS,0,0,6⟩ (j.mk (aW.next+15) (aW.2))=some (o.agg [.int .i8 k,.int .i32 c,.int .u8 m,.int .i64 x,.int .i64 y,.str t2])∧l<aW.next∧cj env.D 42 ⟨0,0,0,0,6⟩ (j.mk (aW.next+15) (aW.2))=some ((k6 t))∧0<aW.next∧some (o.bool (k == 6&&(c == 0&&(m == 0&&(x == 0&&(y == 0&&(t2 == t&&true)))))))=some (o.bool false)∧ab (.tuple [.slice none 0 0,.int .i64 220]) (j.mk (aW.next+17+2) (j.aT (j.mk (aW.next+15+2) (j.aT (j.mk (aW.next+15) (j.aT aW))))))) :
 ∃v p,aI Tryz.prog aw 21 [cU 6 0 0 0 0 t] (⟨0,.nil⟩) v p∧ab v p :=
 cf bU mixed c7 (aq:= .aA (.val 17004 (.bool true)) (.aA (.val 17009 (.bool true)) (.aA (.act 18000 (.ptr (some ⟨d,0,0,0,6⟩)) fun x=>H1) (.aA (.val 19002 (.str t)) (.aA (.act 19003 (.slice (some a) n n) fun x=>aH) (.aA (.act 19004 (.slice (some ⟨l,dS,0,0,6⟩) 1 1) fun x=>aW) (.aA (.qP 20006 (cU k c m x y t2)) (.aA (.qP 20007 (cU 6 0 0 0 0 t)) (.aA (.val 20008 (.bool false)) .nil))))))))) (by kernel_rfl) aY
theorem aci(H1 aH aW bV eI:j)(t:Bytes)(d n l dS:Nat)(a a2:bH)(aP:Nat)(w:o)(a':Int)(ab:o→j→Prop)(aY:some (o.bool (6 == 6&&(0 == 0&&(0 == 0&&(0 == 0&&(0 == 0&&(t == t&&true)))))))=some (o.bool true)∧some (o.bool (decide ((↑(List.length t):Int)≤62)))=some (o.bool true)∧cW Tryz.prog aw 14 [] (j.au 82 [(0,J.made [(k6 t)] 6 true (some (42,6))),(4,(J.made ([(k6 t)]) 6 true (some (42,6))))]) (.ptr (some ⟨d,0,0,0,6⟩)) H1∧cj env.D 9 ⟨0,0,0,5,6⟩ (j.mk (H1.next+6) (H1.2))=some (o.str t)∧cW Tryz.prog aw 44 [.str t,.slice none 0 0] (j.mk (H1.next+6) (H1.2)) (.slice (some a) n n) aH∧cW Tryz.prog aw 26 [.ptr (some ⟨d,0,0,0,6⟩),.slice (some a) n n] aH (.slice (some ⟨l,dS,0,0,6⟩) 1 1) aW∧cj env.D 42 ⟨l,dS,0,0,6⟩ (j.mk (aW.next+15) (aW.2))=some ((k6 t))∧l<aW.next∧cj env.D 42 ⟨0,0,0,0,6⟩ (j.mk (aW.next+15) (aW.2))=some ((k6 t))∧0<aW.next∧some (o.bool (6 == 6&&(0 == 0&&(0 == 0&&(0 == 0&&(0 == 0&&(t == t&&true)))))))=some (o.bool true)∧cW Tryz.prog aw 16 [.ptr (some ⟨d,0,0,0,6⟩)] (j.mk (aW.next+15) (aW.2)) (.int .i64 a') bV∧some (o.bool (a' == 0))=some (o.bool false)∧ab (.tuple [.slice none 0 0,.int .i64 220]) (j.mk (bV.next+2+2) (j.aT (xZ bV)))) :
 ∃v p,aI Tryz.prog aw 21 [cU 6 0 0 0 0 t] (⟨0,.nil⟩) v p∧ab v p :=
 cf bU mixed c7 (aq:= .aA (.val 17004 (.bool true)) (.aA (.val 17009 (.bool true)) (.aA (.act 18000 (.ptr (some ⟨d,0,0,0,6⟩)) fun x=>H1) (.aA (.val 19002 (.str t)) (.aA (.act 19003 (.slice (some a) n n) fun x=>aH) (.aA (.act 19004 (.slice (some ⟨l,dS,0,0,6⟩) 1 1) fun x=>aW) (.aA (.qP 20006 (cU 6 0 0 0 0 t)) (.aA (.qP 20007 (cU 6 0 0 0 0 t)) (.aA (.val 20008 (.bool true)) (.aA (.act 20012 (.int .i64 a') fun x=>bV) (.aA (.val 20013 (.bool false)) .nil))))))))))) (by kernel_rfl) aY
theorem acj(H1 aH aW bV eI:j)(t:Bytes)(d n l dS:Nat)(a a2:bH)(aP:Nat)(w:o)(a':Int)(ab:o→j→Prop)(aY:some (o.bool (6 == 6&&(0 == 0&&(0 == 0&&(0 == 0&&(0 == 0&&(t == t&&true)))))))=some (o.bool true)∧some (o.bool (decide ((↑(List.length t):Int)≤62)))=some (o.bool true)∧cW Tryz.prog aw 14 [] (j.au 82 [(0,J.made [(k6 t)] 6 true (some (42,6))),(4,(J.made ([(k6 t)]) 6 true (some (42,6))))]) (.ptr (some ⟨d,0,0,0,6⟩)) H1∧cj env.D 9 ⟨0,0,0,5,6⟩ (j.mk (H1.next+6) (H1.2))=some (o.str t)∧cW Tryz.prog aw 44 [.str t,.slice none 0 0] (j.mk (H1.next+6) (H1.2)) (.slice (some a) n n) aH∧cW Tryz.prog aw 26 [.ptr (some ⟨d,0,0,0,6⟩),.slice (some a) n n] aH (.slice (some ⟨l,dS,0,0,6⟩) 1 1) aW∧cj env.D 42 ⟨l,dS,0,0,6⟩ (j.mk (aW.next+15) (aW.2))=some ((k6 t))∧l<aW.next∧cj env.D 42 ⟨0,0,0,0,6⟩ (j.mk (aW.next+15) (aW.2))=some ((k6 t))∧0<aW.next∧some (o.bool (6 == 6&&(0 == 0&&(0 == 0&&(0 == 0&&(0 == 0&&(t == t&&true)))))))=some (o.bool true)∧cW Tryz.prog aw 16 [.ptr (some ⟨d,0,0,0,6⟩)] (j.mk (aW.next+15) (aW.2)) (.int .i64 0) bV∧cj env.D 9 ⟨0,0,0,5,6⟩ (j.mk (bV.next+4) (bV.2))=some (o.str t)∧cW Tryz.prog aw 44 [.str t,.slice none 0 0] (j.mk (bV.next+4) (bV.2)) (.slice (some a2) aP aP) eI∧ab (.tuple [.slice (some a2) aP aP,.int .i64 0]) (j.mk (eI.next+2+3) (j.aT (j.mk (eI.next+2) (j.aT eI))))) :
 ∃v p,aI Tryz.prog aw 21 [cU 6 0 0 0 0 t] (⟨0,.nil⟩) v p∧ab v p :=
 cf bU mixed c7 (aq:= .aA (.val 17004 (.bool true)) (.aA (.val 17009 (.bool true)) (.aA (.act 18000 (.ptr (some ⟨d,0,0,0,6⟩)) fun x=>H1) (.aA (.val 19002 (.str t)) (.aA (.act 19003 (.slice (some a) n n) fun x=>aH) (.aA (.act 19004 (.slice (some ⟨l,dS,0,0,6⟩) 1 1) fun x=>aW) (.aA (.qP 20006 (cU 6 0 0 0 0 t)) (.aA (.qP 20007 (cU 6 0 0 0 0 t)) (.aA (.val 20008 (.bool true)) (.aA (.act 20012 (.int .i64 0) fun x=>bV) (.aA (.val 21001 (.str t)) (.aA (.act 21002 (.slice (some a2) aP aP) fun x=>eI) .nil)))))))))))) (by kernel_rfl) aY
theorem ack(c m x y:Int)(t:Bytes)(ab:o→j→Prop)(aY:some (o.bool (decide (m>7)))=some (o.bool false)∧some (o.bool (6 == 6&&(c == 0&&(m == 0&&(x == 0&&(y == 0&&(t == t&&true)))))))=some (o.bool false)∧ab (.tuple [.slice none 0 0,.int .i64 220]) (j.au 84 [(0,J.made [.agg [.int .i8 6,.int .i32 c,.int .u8 m,.int .i64 x,.int .i64 y,.str t]] 6 true (some (42,6))),(4,(J.made ([.agg [.int .i8 6,.int .i32 0,.int .u8 0,.int .i64 x,.int .i64 y,.str t]]) 6 true (some (42,6))))])) :
 ∃v p,aI Tryz.prog aw 21 [cU 6 c m x y t] (⟨0,.nil⟩) v p∧ab v p :=
 cf bU mixed c7 (aq:= .aA (.val 6002 (.bool false)) (.aA (.val 17004 (.bool false)) .nil)) (by kernel_rfl) aY
theorem acm(t:Bytes)(ab:o→j→Prop)(aY:some (o.bool (6 == 6&&(0 == 0&&(0 == 0&&(0 == 0&&(0 == 0&&(t == t&&true)))))))=some (o.bool true)∧some (o.bool (decide ((↑(List.length t):Int)≤62)))=some (o.bool false)∧ab (.tuple [.slice none 0 0,.int .i64 220]) (j.au 84 [(0,J.made [(k6 t)] 6 true (some (42,6))),(4,(J.made ([(k6 t)]) 6 true (some (42,6))))])) :
 ∃v p,aI Tryz.prog aw 21 [cU 6 0 0 0 0 t] (⟨0,.nil⟩) v p∧ab v p :=
 cf bU mixed c7 (aq:= .aA (.val 17004 (.bool true)) (.aA (.val 17009 (.bool false)) .nil)) (by kernel_rfl) aY
theorem acn(k:Int)(c m x y:Int)(t:Bytes)(ab:o→j→Prop)(aY:some (o.bool (k == 3))=some (o.bool false)∧some (o.bool (decide (m>7)))=some (o.bool false)∧some (o.bool (k == 1))=some (o.bool false)∧some (o.bool (k == 2))=some (o.bool false)∧some (o.bool (k == 5&&(c == 0&&(m == 0&&(x == 0&&(y == 0&&(t ==[]&&true)))))))=some (o.bool false)∧some (o.bool (k == 5&&(c == 1&&(m == 0&&(x == 0&&(y == 0&&(t ==[]&&true)))))))=some (o.bool false)∧some (o.bool (k == 4&&(c == 0&&(m == 0&&(x == 0&&(y == 0&&(t == t&&true)))))))=some (o.bool false)∧some (o.bool (k == 6&&(c == 0&&(m == 0&&(x == 0&&(y == 0&&(t == t&&true)))))))=some (o.bool false)∧ab (.tuple [.slice none 0 0,.int .i64 220]) (j.au 84 [(0,J.made [.agg [.int .i8 k,.int .i32 c,.int .u8 m,.int .i64 x,.int .i64 y,.str t]] 6 true (some (42,6))),(4,(J.made ([.agg [.int .i8 k,.int .i32 0,.int .u8 0,.int .i64 x,.int .i64 y,.str t]]) 6 true (some (42,6))))])) :
 ∃v p,aI Tryz.prog aw 21 [cU k c m x y t] (⟨0,.nil⟩) v p∧ab v p :=
 cf bU mixed c7 (aq:= .aA (.val 4002 (.bool false)) (.aA (.val 6002 (.bool false)) (.aA (.val 7002 (.bool false)) (.aA (.val 9002 (.bool false)) (.aA (.val 11002 (.bool false)) (.aA (.val 13002 (.bool false)) (.aA (.val 15004 (.bool false)) (.aA (.val 17004 (.bool false)) .nil)))))))) (by kernel_rfl) aY
theorem aco(c m x y:Int)(t:Bytes)(ab:o→j→Prop)(aY:some (o.bool (decide (c<0)))=some (o.bool true)∧ab (.slice none 0 0) (j.au 41 [(0,J.made [.agg [.int .i8 3,.int .i32 c,.int .u8 m,.int .i64 x,.int .i64 y,.str t]] 6 true (some (42,6)))])) :
 ∃v p,aI Tryz.prog aw 40 [cU 3 c m x y t] (⟨0,.nil⟩) v p∧ab v p :=
 cf bU mixed c7 (aq:= .aA (.val 1002 (.bool true)) .nil) (by kernel_rfl) aY
theorem acp(c m x y:Int)(t:Bytes)(ab:o→j→Prop)(aY:some (o.bool (decide (c<0)))=some (o.bool false)∧some (o.bool (decide (c>6)))=some (o.bool true)∧ab (.slice none 0 0) (j.au 41 [(0,J.made [.agg [.int .i8 3,.int .i32 c,.int .u8 m,.int .i64 x,.int .i64 y,.str t]] 6 true (some (42,6)))])) :
 ∃v p,aI Tryz.prog aw 40 [cU 3 c m x y t] (⟨0,.nil⟩) v p∧ab v p :=
 cf bU mixed c7 (aq:= .aA (.val 1002 (.bool false)) (.aA (.val 1006 (.bool true)) .nil)) (by kernel_rfl) aY
theorem acq(c m x y:Int)(t:Bytes)(ab:o→j→Prop)(aY:some (o.bool (decide (c<0)))=some (o.bool false)∧some (o.bool (decide (c>6)))=some (o.bool false)∧some (o.bool (decide (m>7)))=some (o.bool true)∧ab (.slice none 0 0) (j.au 41 [(0,J.made [.agg [.int .i8 3,.int .i32 c,.int .u8 m,.int .i64 x,.int .i64 y,.str t]] 6 true (some (42,6)))])) :
 ∃v p,aI Tryz.prog aw 40 [cU 3 c m x y t] (⟨0,.nil⟩) v p∧ab v p :=
 cf bU mixed c7 (aq:= .aA (.val 1002 (.bool false)) (.aA (.val 1006 (.bool false)) (.aA (.val 1011 (.bool true)) .nil))) (by kernel_rfl) aY
theorem acr(c m x y:Int)(t:Bytes)(ab:o→j→Prop)(aY:some (o.bool (decide (c<0)))=some (o.bool false)∧some (o.bool (decide (c>6)))=some (o.bool false)∧some (o.bool (decide (m>7)))=some (o.bool false)∧some (o.bool (decide (x<0)))=some (o.bool true)∧ab (.slice none 0 0) (j.au 41 [(0,J.made [.agg [.int .i8 3,.int .i32 c,.int .u8 m,.int .i64 x,.int .i64 y,.str t]] 6 true (some (42,6)))])) :
 ∃v p,aI Tryz.prog aw 40 [cU 3 c m x y t] (⟨0,.nil⟩) v p∧ab v p :=
 cf bU mixed c7 (aq:= .aA (.val 1002 (.bool false)) (.aA (.val 1006 (.bool false)) (.aA (.val 1011 (.bool false)) (.aA (.val 1016 (.bool true)) .nil)))) (by kernel_rfl) aY
theorem acs(c m x y:Int)(t:Bytes)(ab:o→j→Prop)(aY:some (o.bool (decide (c<0)))=some (o.bool false)∧some (o.bool (decide (c>6)))=some (o.bool false)∧some (o.bool (decide (m>7)))=some (o.bool false)∧some (o.bool (decide (x<0)))=some (o.bool false)∧some (o.bool (decide (x≥4096)))=some (o.bool true)∧ab (.slice none 0 0) (j.au 41 [(0,J.made [.agg [.int .i8 3,.int .i32 c,.int .u8 m,.int .i64 x,.int .i64 y,.str t]] 6 true (some (42,6)))])) :
 ∃v p,aI Tryz.prog aw 40 [cU 3 c m x y t] (⟨0,.nil⟩) v p∧ab v p :=
 cf bU mixed c7 (aq:= .aA (.val 1002 (.bool false)) (.aA (.val 1006 (.bool false)) (.aA (.val 1011 (.bool false)) (.aA (.val 1016 (.bool false)) (.aA (.val 1021 (.bool true)) .nil))))) (by kernel_rfl) aY
theorem acu(c m x y:Int)(t:Bytes)(ab:o→j→Prop)(aY:some (o.bool (decide (c<0)))=some (o.bool false)∧some (o.bool (decide (c>6)))=some (o.bool false)∧some (o.bool (decide (m>7)))=some (o.bool false)∧some (o.bool (decide (x<0)))=some (o.bool false)∧some (o.bool (decide (x≥4096)))=some (o.bool false)∧some (o.bool (decide (y<0)))=some (o.bool true)∧ab (.slice none 0 0) (j.au 41 [(0,J.made [.agg [.int .i8 3,.int .i32 c,.int .u8 m,.int .i64 x,.int .i64 y,.str t]] 6 true (some (42,6)))])) :
 ∃v p,aI Tryz.prog aw 40 [cU 3 c m x y t] (⟨0,.nil⟩) v p∧ab v p :=
 cf bU mixed c7 (aq:= .aA (.val 1002 (.bool false)) (.aA (.val 1006 (.bool false)) (.aA (.val 1011 (.bool false)) (.aA (.val 1016 (.bool false)) (.aA (.val 1021 (.bool false)) (.aA (.val 1026 (.bool true)) .nil)))))) (by kernel_rfl) aY
theorem acv(c m x y:Int)(t:Bytes)(ab:o→j→Prop)(aY:some (o.bool (decide (c<0)))=some (o.bool false)∧some (o.bool (decide (c>6)))=some (o.bool false)∧some (o.bool (decide (m>7)))=some (o.bool false)∧some (o.bool (decide (x<0)))=some (o.bool false)∧some (o.bool (decide (x≥4096)))=some (o.bool false)∧some (o.bool (decide (y<0)))=some (o.bool false)∧some (o.bool (decide (y≥4096)))=some (o.bool true)∧ab (.slice none 0 0) (j.au 41 [(0,J.made [.agg [.int .i8 3,.int .i32 c,.int .u8 m,.int .i64 x,.int .i64 y,.str t]] 6 true (some (42,6)))])) :
 ∃v p,aI Tryz.prog aw 40 [cU 3 c m x y t] (⟨0,.nil⟩) v p∧ab v p :=
 cf bU mixed c7 (aq:= .aA (.val 1002 (.bool false)) (.aA (.val 1006 (.bool false)) (.aA (.val 1011 (.bool false)) (.aA (.val 1016 (.bool false)) (.aA (.val 1021 (.bool false)) (.aA (.val 1026 (.bool false)) (.aA (.val 1031 (.bool true)) .nil))))))) (by kernel_rfl) aY
theorem acw(c m x y:Int)(t:Bytes)(ab:o→j→Prop)(aY:some (o.bool (decide (c<0)))=some (o.bool false)∧some (o.bool (decide (c>6)))=some (o.bool false)∧some (o.bool (decide (m>7)))=some (o.bool false)∧some (o.bool (decide (x<0)))=some (o.bool false)∧some (o.bool (decide (x≥4096)))=some (o.bool false)∧some (o.bool (decide (y<0)))=some (o.bool false)∧some (o.bool (decide (y≥4096)))=some (o.bool false)∧some (o.bool !t == Array.toList #[])=some (o.bool true)∧ab (.slice none 0 0) (j.au 41 [(0,J.made [.agg [.int .i8 3,.int .i32 c,.int .u8 m,.int .i64 x,.int .i64 y,.str t]] 6 true (some (42,6)))])) :
 ∃v p,aI Tryz.prog aw 40 [cU 3 c m x y t] (⟨0,.nil⟩) v p∧ab v p :=
 cf bU mixed c7 (aq:= .aA (.val 1002 (.bool false)) (.aA (.val 1006 (.bool false)) (.aA (.val 1011 (.bool false)) (.aA (.val 1016 (.bool false)) (.aA (.val 1021 (.bool false)) (.aA (.val 1026 (.bool false)) (.aA (.val 1031 (.bool false)) (.aA (.val 1036 (.bool true)) .nil)))))))) (by kernel_rfl) aY
abbrev nb(q:Nat):o:=o.slice (some ⟨q,0,0,0,1⟩) 3 3
abbrev o4(c:Nat)(m:Nat)(x:Nat)(y:Nat):o:=o.agg [.int .i8 3,.int .i32 (c:Int),.int .u8 (m:Int),.int .i64 (x:Int),.int .i64 (y:Int),.str []]
abbrev o5:o:=o.agg [.int .i64 0,.int .i64 1,.int .i64 2,.int .i64 0,.int .i64 64,.int .i64 65,.int .i64 35]
theorem acx(H H1 aH:j)(c m x y gv C iz n q:Nat)(v:o)(ab:o→j→Prop)(aY:some (o.bool false)=some (o.bool false)∧some (o.bool (decide ((c:Int)>6)))=some (o.bool false)∧some (o.bool (decide ((m:Int)>7)))=some (o.bool false)∧some (o.bool false)=some (o.bool false)∧some (o.bool (decide ((x:Int)≥4096)))=some (o.bool false)∧some (o.bool false)=some (o.bool false)∧some (o.bool (decide ((y:Int)≥4096)))=some (o.bool false)∧some (o.bool false)=some (o.bool false)∧some (o.bool ((c:Int) == 3))=some (o.bool false)∧qo 63 (j.au 63 [(0,J.made [(o4 c m x y)] 6 true (some (42,6)))]) (j.au 66 [(0,J.made [(o4 c m x y)] 6 true (some (42,6))),(63,(J.made ([o5]) 7 true (some (106,7))))])=true∧n7 env.D 106 (o5) (.int .i32 (c:Int))=some (.int .i64 (gv:Int))∧(-9223372036854775808≤(m:Int)∧(m:Int)≤9223372036854775807)∧Int.NonNeg (2-0)∧True∧(-9223372036854775808≤(x:Int)+1∧(x:Int)+1≤9223372036854775807)∧(-9223372036854775808≤(y:Int)+1∧(y:Int)+1≤9223372036854775807)∧cW Tryz.prog aw 44 [.str [77],.slice (some ⟨60,0,0,0,1⟩) 3 3] (j.au 66 [(0,J.made [(o4 c m x y)] 6 true (some (42,6))),(60,J.made [.int .i64 (cc .i64 (gv:Int) (e3 .i64 (m:Int) (2))),.int .i64 ((x:Int)+1),.int .i64 ((y:Int)+1)] 1 true),(63,(J.made ([o5]) 7 true (some (106,7))))]) (.slice (some ⟨C,iz,0,0,1⟩) n n) H∧bX env eM (H.next+0) (bR [(4,.slice (some ⟨C,iz,0,0,1⟩) n n),(63,.slice (some ⟨C,iz,0,0,1⟩) n n),(62,.slice (some ⟨60,0,0,0,1⟩) 3 3),(61,.int .i64 ((y:Int)+1)),(60,.int .i64 (y:Int)),(59,.ptr (some ⟨0,0,0,4,6⟩)),(58,.int .i64 ((x:Int)+1)),(57,.int .i64 (x:Int)),(56,.ptr (some ⟨0,0,0,3,6⟩)),(55,.int .i64 (cc .i64 (gv:Int) (e3 .i64 (m:Int) (2)))),(54,.int .i64 (e3 .i64 (m:Int) (2))),(53,.int .i64 (m:Int)),(52,.int .u8 (m:Int)),(51,.ptr (some ⟨0,0,0,2,6⟩)),(50,.int .i64 (gv:Int)),(49,.int .i32 (c:Int)),(48,.ptr (some ⟨0,0,0,1,6⟩)),(47,o5),(46,.str [77]),(45,.bool false),(44,.int .i32 (c:Int)),(43,.ptr (some ⟨0,0,0,1,6⟩)),(3,.str [77]),(42,.bool false),(41,.bool false),(40,.str []),(39,.ptr (some ⟨0,0,0,5,6⟩)),(38,.bool false),(37,.bool false),(36,.bool false),(35,.int .i64 (y:Int)),(34,.ptr (some ⟨0,0,0,4,6⟩)),(33,.bool false),(32,.bool false),(31,.bool false),(30,.int .i64 (y:Int)),(29,.ptr (some ⟨0,0,0,4,6⟩)),(28,.bool false),(27,.bool false),(26,.bool false),(25,.int .i64 (x:Int)),(24,.ptr (some ⟨0,0,0,3,6⟩)),(23,.bool false),(22,.bool false),(21,.bool false),(20,.int .i64 (x:Int)),(19,.ptr (some ⟨0,0,0,3,6⟩)),(18,.bool false),(17,.bool false),(16,.bool false),(15,.int .u8 (m:Int)),(14,.ptr (some ⟨0,0,0,2,6⟩)),(13,.bool false),(12,.bool false),(11,.bool false),(10,.int .i32 (c:Int)),(9,.ptr (some ⟨0,0,0,1,6⟩)),(8,.bool false),(7,.bool false),(6,.int .i32 (c:Int)),(5,.ptr (some ⟨0,0,0,1,6⟩)),(2,.slice none 0 0),(1,.ptr (some ⟨0,0,0,0,6⟩)),(0,(o4 c m x y))]) (j.mk (H.next+6) (H.2)) (Op.buildSlice 34 3 {toList:=[(0,Operand.const (Value.int .u8 (27))),(1,Operand.const (Value.int .u8 (91))),(2,Operand.const (Value.int .u8 (60)))]})=some ((nb q),H1)∧eB env (H.next+1) (bR [(64,(nb q)),(4,.slice (some ⟨C,iz,0,0,1⟩) n n),(63,.slice (some ⟨C,iz,0,0,1⟩) n n),(62,.slice (some ⟨60,0,0,0,1⟩) 3 3),(61,.int .i64 ((y:Int)+1)),(60,.int .i64 (y:Int)),(59,.ptr (some ⟨0,0,0,4,6⟩)),(58,.int .i64 ((x:Int)+1)),(57,.int .i64 (x:Int)),(56,.ptr (some ⟨0,0,0,3,6⟩)),(55,.int .i64 (cc .i64 (gv:Int) (e3 .i64 (m:Int) (2)))),(54,.int .i64 (e3 .i64 (m:Int) (2))),(53,.int .i64 (m:Int)),(52,.int .u8 (m:Int)),(51,.ptr (some ⟨0,0,0,2,6⟩)),(50,.int .i64 (gv:Int)),(49,.int .i32 (c:Int)),(48,.ptr (some ⟨0,0,0,1,6⟩)),(47,o5),(46,.str [77]),(45,.bool false),(44,.int .i32 (c:Int)),(43,.ptr (some ⟨0,0,0,1,6⟩)),(3,.str [77]),(42,.bool false),(41,.bool false),(40,.str []),(39,.ptr (some ⟨0,0,0,5,6⟩)),(38,.bool false),(37,.bool false),(36,.bool false),(35,.int .i64 (y:Int)),(34,.ptr (some ⟨0,0,0,4,6⟩)),(33,.bool false),(32,.bool false),(31,.bool false),(30,.int .i64 (y:Int)),(29,.ptr (some ⟨0,0,0,4,6⟩)),(28,.bool false),(27,.bool false),(26,.bool false),(25,.int .i64 (x:Int)),(24,.ptr (some ⟨0,0,0,3,6⟩)),(23,.bool false),(22,.bool false),(21,.bool false),(20,.int .i64 (x:Int)),(19,.ptr (some ⟨0,0,0,3,6⟩)),(18,.bool false),(17,.bool false),(16,.bool false),(15,.int .u8 (m:Int)),(14,.ptr (some ⟨0,0,0,2,6⟩)),(13,.bool false),(12,.bool false),(11,.bool false),(10,.int .i32 (c:Int)),(9,.ptr (some ⟨0,0,0,1,6⟩)),(8,.bool false),(7,.bool false),(6,.int .i32 (c:Int)),(5,.ptr (some ⟨0,0,0,1,6⟩)),(2,.slice none 0 0),(1,.ptr (some ⟨0,0,0,0,6⟩)),(0,(o4 c m x y))]) H1 (Op.convert 34 34 (Operand.tmp 64))=some ((nb q),H1)∧((0:Int)≤2∧2≤(n:Int)∧n≤n)∧gn env Builtin.append {toList:=[34,34]} [(nb q),.slice (some ⟨C,iz,2,0,1⟩) (n-2) (n-2)] (H.next+4) H1=some (v,aH)∧ab v aH) :
 ∃v p,aI Tryz.prog aw 40 [cU 3 c m x y []] (⟨0,.nil⟩) v p∧ab v p :=
 cf bU mixed c7 (aq:= .aA (.val 1002 (.bool false)) (.aA (.val 1006 (.bool false)) (.aA (.val 1011 (.bool false)) (.aA (.val 1016 (.bool false)) (.aA (.val 1021 (.bool false)) (.aA (.val 1026 (.bool false)) (.aA (.val 1031 (.bool false)) (.aA (.val 1036 (.bool false)) (.aA (.val 4002 (.bool false)) (he 6001 (.aA (.val 6004 (.int .i64 (gv:Int))) (ah 6007 (ah 6008 (ah 6009 (ah 6012 (ah 6015 (.aA (.act 6017 (.slice (some ⟨C,iz,0,0,1⟩) n n) fun x=>H) (.aA (.act 7000 ((nb q)) fun x=>H1) (.aA (.kt 7001 ((nb q)) fun h=>h) (ah 7003 (.aA (.act 7004 v fun x=>aH) .nil))))))))))))))))))))) (by kernel_rfl) aY
theorem acy(H H1 aH:j)(c m x y gv C iz n q:Nat)(v:o)(ab:o→j→Prop)(aY:some (o.bool false)=some (o.bool false)∧some (o.bool (decide ((c:Int)>6)))=some (o.bool false)∧some (o.bool (decide ((m:Int)>7)))=some (o.bool false)∧some (o.bool false)=some (o.bool false)∧some (o.bool (decide ((x:Int)≥4096)))=some (o.bool false)∧some (o.bool false)=some (o.bool false)∧some (o.bool (decide ((y:Int)≥4096)))=some (o.bool false)∧some (o.bool false)=some (o.bool false)∧some (o.bool ((c:Int) == 3))=some (o.bool true)∧qo 64 (j.au 64 [(0,J.made [(o4 c m x y)] 6 true (some (42,6)))]) (j.au 67 [(0,J.made [(o4 c m x y)] 6 true (some (42,6))),(64,(J.made ([o5]) 7 true (some (106,7))))])=true∧n7 env.D 106 (o5) (.int .i32 (c:Int))=some (.int .i64 (gv:Int))∧(-9223372036854775808≤(m:Int)∧(m:Int)≤9223372036854775807)∧Int.NonNeg (2-0)∧True∧(-9223372036854775808≤(x:Int)+1∧(x:Int)+1≤9223372036854775807)∧(-9223372036854775808≤(y:Int)+1∧(y:Int)+1≤9223372036854775807)∧cW Tryz.prog aw 44 [.str [109],.slice (some ⟨61,0,0,0,1⟩) 3 3] (j.au 67 [(0,J.made [(o4 c m x y)] 6 true (some (42,6))),(61,J.made [.int .i64 (cc .i64 (gv:Int) (e3 .i64 (m:Int) (2))),.int .i64 ((x:Int)+1),.int .i64 ((y:Int)+1)] 1 true),(64,(J.made ([o5]) 7 true (some (106,7))))]) (.slice (some ⟨C,iz,0,0,1⟩) n n) H∧bX env eM (H.next+0) (bR [(4,.slice (some ⟨C,iz,0,0,1⟩) n n),(63,.slice (some ⟨C,iz,0,0,1⟩) n n),(62,.slice (some ⟨61,0,0,0,1⟩) 3 3),(61,.int .i64 ((y:Int)+1)),(60,.int .i64 (y:Int)),(59,.ptr (some ⟨0,0,0,4,6⟩)),(58,.int .i64 ((x:Int)+1)),(57,.int .i64 (x:Int)),(56,.ptr (some ⟨0,0,0,3,6⟩)),(55,.int .i64 (cc .i64 (gv:Int) (e3 .i64 (m:Int) (2)))),(54,.int .i64 (e3 .i64 (m:Int) (2))),(53,.int .i64 (m:Int)),(52,.int .u8 (m:Int)),(51,.ptr (some ⟨0,0,0,2,6⟩)),(50,.int .i64 (gv:Int)),(49,.int .i32 (c:Int)),(48,.ptr (some ⟨0,0,0,1,6⟩)),(47,o5),(46,.str [109]),(3,.str [109]),(45,.bool true),(44,.int .i32 (c:Int)),(43,.ptr (some ⟨0,0,0,1,6⟩)),(42,.bool false),(41,.bool false),(40,.str []),(39,.ptr (some ⟨0,0,0,5,6⟩)),(38,.bool false),(37,.bool false),(36,.bool false),(35,.int .i64 (y:Int)),(34,.ptr (some ⟨0,0,0,4,6⟩)),(33,.bool false),(32,.bool false),(31,.bool false),(30,.int .i64 (y:Int)),(29,.ptr (some ⟨0,0,0,4,6⟩)),(28,.bool false),(27,.bool false),(26,.bool false),(25,.int .i64 (x:Int)),(24,.ptr (some ⟨0,0,0,3,6⟩)),(23,.bool false),(22,.bool false),(21,.bool false),(20,.int .i64 (x:Int)),(19,.ptr (some ⟨0,0,0,3,6⟩)),(18,.bool false),(17,.bool false),(16,.bool false),(15,.int .u8 (m:Int)),(14,.ptr (some ⟨0,0,0,2,6⟩)),(13,.bool false),(12,.bool false),(11,.bool false),(10,.int .i32 (c:Int)),(9,.ptr (some ⟨0,0,0,1,6⟩)),(8,.bool false),(7,.bool false),(6,.int .i32 (c:Int)),(5,.ptr (some ⟨0,0,0,1,6⟩)),(2,.slice none 0 0),(1,.ptr (some ⟨0,0,0,0,6⟩)),(0,(o4 c m x y))]) (j.mk (H.next+6) (H.2)) (Op.buildSlice 34 3 {toList:=[(0,Operand.const (Value.int .u8 (27))),(1,Operand.const (Value.int .u8 (91))),(2,Operand.const (Value.int .u8 (60)))]})=some ((nb q),H1)∧eB env (H.next+1) (bR [(64,(nb q)),(4,.slice (some ⟨C,iz,0,0,1⟩) n n),(63,.slice (some ⟨C,iz,0,0,1⟩) n n),(62,.slice (some ⟨61,0,0,0,1⟩) 3 3),(61,.int .i64 ((y:Int)+1)),(60,.int .i64 (y:Int)),(59,.ptr (some ⟨0,0,0,4,6⟩)),(58,.int .i64 ((x:Int)+1)),(57,.int .i64 (x:Int)),(56,.ptr (some ⟨0,0,0,3,6⟩)),(55,.int .i64 (cc .i64 (gv:Int) (e3 .i64 (m:Int) (2)))),(54,.int .i64 (e3 .i64 (m:Int) (2))),(53,.int .i64 (m:Int)),(52,.int .u8 (m:Int)),(51,.ptr (some ⟨0,0,0,2,6⟩)),(50,.int .i64 (gv:Int)),(49,.int .i32 (c:Int)),(48,.ptr (some ⟨0,0,0,1,6⟩)),(47,o5),(46,.str [109]),(3,.str [109]),(45,.bool true),(44,.int .i32 (c:Int)),(43,.ptr (some ⟨0,0,0,1,6⟩)),(42,.bool false),(41,.bool false),(40,.str []),(39,.ptr (some ⟨0,0,0,5,6⟩)),(38,.bool false),(37,.bool false),(36,.bool false),(35,.int .i64 (y:Int)),(34,.ptr (some ⟨0,0,0,4,6⟩)),(33,.bool false),(32,.bool false),(31,.bool false),(30,.int .i64 (y:Int)),(29,.ptr (some ⟨0,0,0,4,6⟩)),(28,.bool false),(27,.bool false),(26,.bool false),(25,.int .i64 (x:Int)),(24,.ptr (some ⟨0,0,0,3,6⟩)),(23,.bool false),(22,.bool false),(21,.bool false),(20,.int .i64 (x:Int)),(19,.ptr (some ⟨0,0,0,3,6⟩)),(18,.bool false),(17,.bool false),(16,.bool false),(15,.int .u8 (m:Int)),(14,.ptr (some ⟨0,0,0,2,6⟩)),(13,.bool false),(12,.bool false),(11,.bool false),(10,.int .i32 (c:Int)),(9,.ptr (some ⟨0,0,0,1,6⟩)),(8,.bool false),(7,.bool false),(6,.int .i32 (c:Int)),(5,.ptr (some ⟨0,0,0,1,6⟩)),(2,.slice none 0 0),(1,.ptr (some ⟨0,0,0,0,6⟩)),(0,(o4 c m x y))]) H1 (Op.convert 34 34 (Operand.tmp 64))=some ((nb q),H1)∧((0:Int)≤2∧2≤(n:Int)∧n≤n)∧gn env Builtin.append {toList:=[34,34]} [(nb q),.slice (some ⟨C,iz,2,0,1⟩) (n-2) (n-2)] (H.next+4) H1=some (v,aH)∧ab v aH) :
 ∃v p,aI Tryz.prog aw 40 [cU 3 c m x y []] (⟨0,.nil⟩) v p∧ab v p :=
 cf bU mixed c7 (aq:= .aA (.val 1002 (.bool false)) (.aA (.val 1006 (.bool false)) (.aA (.val 1011 (.bool false)) (.aA (.val 1016 (.bool false)) (.aA (.val 1021 (.bool false)) (.aA (.val 1026 (.bool false)) (.aA (.val 1031 (.bool false)) (.aA (.val 1036 (.bool false)) (.aA (.val 4002 (.bool true)) (he 6001 (.aA (.val 6004 (.int .i64 (gv:Int))) (ah 6007 (ah 6008 (ah 6009 (ah 6012 (ah 6015 (.aA (.act 6017 (.slice (some ⟨C,iz,0,0,1⟩) n n) fun x=>H) (.aA (.act 7000 ((nb q)) fun x=>H1) (.aA (.kt 7001 ((nb q)) fun h=>h) (ah 7003 (.aA (.act 7004 v fun x=>aH) .nil))))))))))))))))))))) (by kernel_rfl) aY
theorem yg{x:Nat}{l:List o}{s:Bytes}(h:l=aJ (put x))(aq:s=strOf l):s=put x:=by rw [aq,h,iZ]
def uM(x:Nat)(v:o)(aa:j):Prop:=v=.str (put x)∧aa.get 0=some (k4 x)
theorem acz{x:Nat}(aq:Keys.Scalar x):∃v aa,aI Tryz.prog aw 51 [.slice (some ⟨0,0,0,0,1⟩) 1 1] (j.of [k4 x]) v aa∧uM x v aa:=by
 have e:j.of [k4 x]=j.rows 1 [(0,k4 x)]:=by kernel_rfl
 rw [e];unfold Keys.Scalar at aq;by_cases h:x<55296
 ·refine abS x (uM x) ?_;have af:x<2^31:=by omega
  refine⟨by simp;omega,by simp;omega,?_⟩
  repeat' (first|exact True.intro|apply And.intro|intro _)
  all_goals first
   |omega
   |(simp only [Option.some.injEq,o.bool.injEq,decide_eq_false_iff_not];omega)
   |exact hW
   |exact(q4 af).1|exact(q4 af).2|exact(q5 af).1|exact(q5 af).2
   |exact(uu (by omega)).1|exact(uu (by omega)).2|exact(q6 (by omega)).1|exact(q6 (by omega)).2
   |exact congrArg o.str (yg (wL (by omega)) rfl)
   |exact congrArg o.str (yg (Fi (by omega) (by omega)) rfl)
   |exact congrArg o.str (yg (At (by omega) (by omega) (by omega)) rfl)
   |rfl
 ·refine abT x (uM x) ?_;have af:x<2^31:=by omega
  refine⟨by simp;omega,by simp;omega,by simp;omega,by simp;omega,by simp;omega,?_⟩
  repeat' (first|exact True.intro|apply And.intro|intro _)
  all_goals first
   |omega
   |exact hW
   |exact(q4 af).1|exact(q4 af).2|exact(q5 af).1|exact(q5 af).2|exact(us af).1|exact(us af).2
   |exact(q6 (by omega)).1|exact(q6 (by omega)).2|exact(uv (by omega)).1|exact(uv (by omega)).2
   |exact congrArg o.str (yg (At (by omega) (by omega) (by omega)) rfl)
   |exact congrArg o.str (yg (Fj (by omega) (by omega)) rfl)
   |rfl
theorem acA{x q:Nat}{H:j}(aq:Keys.Scalar x)(ah:H.get q=some (k4 x))(aC:q<H.next):aI Tryz.prog aw 51 [.slice (some ⟨q,0,0,0,1⟩) 1 1] H (.str (put x)) H:=by
 obtain⟨v,aa,aD,rfl,bm⟩:=acz aq
 have av:dt (k4 x):=by intro e he;simp only [k4,J.made,List.mem_singleton]at he;subst he;exact cT.int _ _
 have:=aI.pure (l:=[k4 x]) aD (fun b fw=>by rw [List.mem_singleton.1 fw];exact av) (by show [aa.get 0]=_;rw [bm];rfl) (cT.str _) (by exact⟨by show 0<1;decide,trivial⟩) (H:=H) [q] (by simp) (by intro C aX;rw [List.mem_singleton.1 aX];exact aC) (by simp [ah]);simpa [o.bc,bH.bc,dH]using this
noncomputable def okB(r:Option (o×j))(bs:Bytes):Bool :=
 match r with
 |some (.slice (some a) n c,h) =>
  decide (n=bs.length)&&decide (c=bs.length)&&decide (a.bP=0)&&decide (a.es=1)&&decide (a.idx=0)&&Nat.blt a.id h.next &&
   (match h.get a.id with|some b=>decide (a.R=b.R)&&!b.ro&&rP b.bi&&decide (bytesOf b.bi=some bs)&&(b.exact || decide (b.an=none) || decide (b.an=some (5,0)))|none=>false)
 |_=>false
theorem PJ:∀{l:List o}{bs:Bytes},rP l=true→bytesOf l=some bs→l=aJ bs
 |[],bs,_,h=>by simp only [bytesOf,Option.some.injEq]at h;subst h;rfl
 |a ::r,bs,al,h=>by
  unfold rP at al;split at al
  ·rename_i he;cases he
  ·rename_i n fG he;simp only [List.cons.injEq]at he;obtain⟨rfl,rfl⟩:=he;simp only [Bool.and_eq_true,decide_eq_true_eq]at al;simp only [bytesOf,Option.map_eq_some_iff]at h;obtain⟨l,p,rfl⟩:=h;rw [PJ al.2 p];show _=o.int .u8 ((UInt8.ofNat n.toNat).toNat:Int)::aJ l;rw [UInt8.toNat_ofNat',show((n.toNat%2^8:Nat):Int)=n by omega]
  ·cases al
theorem PK{f:FuncId}{args:List o}{k:Nat}{bs:Bytes}(h:okB (oy Tryz.prog env k f args ⟨0,.nil⟩) bs=true)(aS:∀a∈args,cT a)(H:j) :
 ∃v aR C,aI Tryz.prog aw f args H v aR∧eN aR C v bs∧H.next≤C∧∀x,x<H.next→aR.get x=H.get x:=by
 unfold okB at h;split at h
 ·rename_i a n c p be;simp only [Bool.and_eq_true,decide_eq_true_eq,Bool.or_eq_true,Bool.not_eq_true']at h;obtain⟨⟨⟨⟨⟨⟨rfl,rfl⟩,dK⟩,dL⟩,gd⟩,bm⟩,bO⟩:=h;have bm:=Nat.blt_eq.mp bm;split at bO
  ·rename_i b av;simp only [Bool.and_eq_true,decide_eq_true_eq,Bool.or_eq_true,Bool.not_eq_true']at bO;obtain⟨⟨⟨⟨aL,aQ⟩,bq⟩,hk⟩,ij⟩:=bO;have fC:=PJ bq hk
   have lU:dt b:=by intro e he;rw [fC]at he;exact ly bs e he
   rw [wk]at be;have aD:aI Tryz.prog aw f args (j.of []) _ p:=aI.tO bU mixed be;obtain⟨aR,hH,ky,eT,jr⟩:=aD.place (by simp) (fun b av=>by cases av) (qK.2 fun a h=>(aS a h).e2 _) (H:=H) [] List.nodup_nil (fun C aX=>by cases aX) rfl (fun i b h=>by simp at h);have r:∀i,dH [] H.next i=H.next+i:=fun i=>by rw [mF (by simp)];simp
   have g:=eT a.id b av;rw [lU.bc,r]at g
   have gx:args.map (o.bc (dH [] H.next))=args:=by
    conv=>rhs;rw [←List.map_id args]
    exact List.map_congr_left fun e he=>(aS e he).1 _
   rw [gx]at hH;obtain⟨acB,afy,afz,afA,afB⟩:=a;simp only at dK dL gd aL g bm;subst dK dL gd aL;refine⟨_,aR,H.next+acB,hH,⟨⟨b,?_,g,aQ,fC,fun he=> ?_⟩,?_⟩,by omega,fun x af=>jr x af (by simp)⟩
   ·simp only [o.bc,bH.bc,r]
   ·rcases ij with (h|h)|h
    ·rw [he]at h;cases h
    ·exact .inl h
    ·exact .inr h
   ·rw [ky];simp only [List.length_nil,Nat.sub_zero];omega
  ·cases bO
 ·cases h
def acC(r:Option (o×j)):Bool:=match r with|some (.slice none n c,_)=>decide (n=0)&&decide (c=0)|_=>false
def yh(n:Nat):Bytes:=if n<10 then [u8 (48+n)]else if n<100 then [u8 (48+n/10),u8 (48+n%10)]else [u8 (48+n/100),u8 (48+n/10%10),u8 (48+n%10)]
theorem H6{n:Nat}(h:n<1000):yh n=Lib.decDigits n:=by
 unfold yh;split
 ·exact(tb ‹_›).symm
 ·split
  ·rw [ta (by omega),tb (by omega)];rfl
  ·rw [ta (by omega),ta (by omega),tb (by omega),Nat.div_div_eq_div_mul];rfl
def H7(e:UInt8)(a:Nat):Bytes:=27::91::(yh a++[e])
def u7(e:UInt8)(a b:Nat):Bytes:=27::91::(yh a++59::yh b++[e])
theorem acD{e:UInt8}{a:Nat}(h:a<1000):H7 e a=gE [e] [a]:=by unfold H7;rw [H6 h];rfl
theorem yi{e:UInt8}{a b:Nat}(h:a<1000)(ae:b<1000):u7 e a b=gE [e] [a,b]:=by unfold u7;rw [H6 h,H6 ae];rfl
def H8(r m:Nat):Bytes :=
 match (if m=2 then none else x8 r)with
 |some c=>if m=4 then [c]else [27,c]
 |none=>u7 117 r (m+1)
noncomputable def te(r m:Nat):Bool:=okB (oy Tryz.prog env 400 42 [.int .i32 (r:Nat),.int .u8 (m:Nat)] ⟨0,.nil⟩) (H8 r m)
def H9(k m:Nat):Option Bytes :=
 if 1≤k∧k≤4 then
  if m=0 then some [u8 (rC k)]
  else if m=2∧k≠4 then some [27,u8 (rC k)]
  else if m=1∧k=2 then some [27,91,90]
  else some (u7 117 (rC k) (m+1))
 else match x9 k with
 |some c=>if m=0 then some [27,91,c]else some (u7 c 1 (m+1))
 |none =>
  if m=0∧21≤k∧k≤24 then some [27,79,u8 (80+(k-21))]
  else match rD k with
  |some n=>if m=0 then some (H7 126 n)else some (u7 126 n (m+1))
  |none=>none
noncomputable def yj(k m:Nat):Bool :=
 match H9 k m with
 |some bs=>okB (oy Tryz.prog env 400 43 [.int .i32 (k:Nat),.int .u8 (m:Nat)] ⟨0,.nil⟩) bs
 |none=>acC (oy Tryz.prog env 400 43 [.int .i32 (k:Nat),.int .u8 (m:Nat)] ⟨0,.nil⟩)
theorem acE:∀k:Fin 14,∀m:Fin 8,yj (k.val+1) m.val=true:=by decide+kernel
theorem acF:∀k:Fin 6,∀m:Fin 8,yj (k.val+21) m.val=true:=by decide+kernel
theorem acG:∀k:Fin 6,∀m:Fin 8,yj (k.val+27) m.val=true:=by decide+kernel
theorem PL:∀r:Fin 48,te (r.val+32) 4=true∧te (r.val+32) 6=true:=by decide+kernel
theorem PM:∀r:Fin 47,te (r.val+80) 4=true∧te (r.val+80) 6=true:=by decide+kernel
theorem PN:te 91 2=true∧te 79 2=true:=by decide+kernel
def o6(f:FuncId)(H:j)(args:List o)(bs:Bytes):Prop :=
 ∃v aR C,aI Tryz.prog aw f args H v aR∧eN aR C v bs∧H.next≤C∧∀x,x<H.next→aR.get x=H.get x
theorem BU{H:j}{y:Nat}(b:J)(k:Nat)(bY:y<H.next+k):((⟨H.next+k,H.aT⟩:j).set y b).get y=some b:=j.gG _ _ _
theorem acH(H:j)(r:Nat)(aq:Keys.Scalar r):∃H1 aH,(∀F,bR F (.tmp 7)=.int .i32 (r:Nat)→bX env eM (H.next+2) (bR F) ⟨H.next+6,H.aT⟩ (Op.buildSlice 84 1 {toList:=[(0,Operand.tmp 7)]})=some (o.slice (some ⟨H.next+2,0,0,0,1⟩) 1 1,H1)) ∧
 aI Tryz.prog aw 51 [.slice (some ⟨H.next+2,0,0,0,1⟩) 1 1] H1 (.str (put r)) H1 ∧
 (∀F,bR F (.tmp 9)=.str (put r)→eB env (H.next+4) (bR F) H1 (Op.convert 9 34 (Operand.tmp 9))=some (.slice (some ⟨H.next+4,0,0,0,1⟩) (put r).length (put r).length,aH)) ∧
 eN aH (H.next+4) (.slice (some ⟨H.next+4,0,0,0,1⟩) (put r).length (put r).length) (put r)∧aH.next=H.next+6∧∀x,x<H.next→aH.get x=H.get x:=by
 have iJ:((⟨H.next+6,H.aT⟩:j).set (H.next+2) (k4 r)).get (H.next+2)=some (k4 r):=j.gG _ _ _;have jt:(((⟨H.next+6,H.aT⟩:j).set (H.next+2) (k4 r)).set (H.next+4) (J.made (aJ (put r)) 1 false)).get (H.next+4)=some (J.made (aJ (put r)) 1 false):=j.gG _ _ _;refine⟨(⟨H.next+6,H.aT⟩:j).set (H.next+2) (k4 r),((⟨H.next+6,H.aT⟩:j).set (H.next+2) (k4 r)).set (H.next+4) (J.made (aJ (put r)) 1 false),fun F fE=> ?_,acA aq iJ (by show H.next+2<H.next+6;omega),fun F fE=> ?_,eN.made (bs:=put r) jt (by show H.next+4<H.next+6;omega) (fun _=> .inl rfl),rfl,fun x af=> ?_⟩
 ·have av:∀(K:j)(y:Nat)(z:Int),qm (b4.D env) 84 1 [(0,.int .i32 z)] y K=some (.slice (some ⟨y,0,0,0,1⟩) 1 1,K.set y (J.made [.int .i32 z] 1 true)):=by intro K y z;kernel_rfl
  show qm (b4.D env) 84 1 [(0,bR F (.tmp 7))] _ _=_;rw [fE];exact av _ _ _
 ·have p:(b4.D env 9).map (fun d=>d.kind)=some .string:=by kernel_rfl
  have ae:(b4.D env 34).map (fun d=>d.kind)=some (.slice 5):=by kernel_rfl
  have bg:(b4.D env 5).map (fun d=>d.kind)=some (.int .u8):=by kernel_rfl
  obtain⟨ko,d1,aL⟩:=Option.map_eq_some_iff.1 p;obtain⟨qz,d2,aQ⟩:=Option.map_eq_some_iff.1 ae;obtain⟨ps,d3,bq⟩:=Option.map_eq_some_iff.1 bg;simp only [eB,fE,oa,d1,aL,d2,aQ,d3,bq];rfl
 ·rw [j.e1 _ _ (by omega),j.e1 _ _ (by omega)];rfl
theorem PO{F:bT}{bh a b:Nat}{H:j}{x y:Nat}(aS:bR F (.tmp a)=.int .i64 (x:Nat))(av:bR F (.tmp b)=.int .i64 (y:Nat)):bX env eM bh (bR F) H (Op.buildSlice 102 2 {toList:=[(0,Operand.tmp a),(1,Operand.tmp b)]})=some (.slice (some ⟨bh,0,0,0,1⟩) 2 2,H.set bh (rE [x,y])):=by
 have fw:∀(K:j)(y:Nat)(z w:Int),qm (b4.D env) 102 2 [(0,.int .i64 z),(1,.int .i64 w)] y K=some (.slice (some ⟨y,0,0,0,1⟩) 2 2,K.set y (J.made [.int .i64 z,.int .i64 w] 1 true)):=by intro K y z w;kernel_rfl
 show qm (b4.D env) 102 2 [(0,bR F (.tmp a)),(1,bR F (.tmp b))] _ _=_;rw [aS,av];exact fw _ _ _ _
theorem PP{aH:j}{r m k:Nat}(be:r<10000000)(hm:m≤7):∃v bV C,aI Tryz.prog aw 44 [.str [117],.slice (some ⟨k,0,0,0,1⟩) 2 2] ((⟨k+3,aH.aT⟩:j).set k (rE [r,m+1])) v bV∧eN bV C v (gE [117] [r,m+1])∧k+3≤C∧∀x,x<k→bV.get x=aH.get x:=by obtain⟨v,bV,C,aD,g,aX,ai⟩:=H0 (H:=(⟨k+3,aH.aT⟩:j).set k (rE [r,m+1])) (q:=k) (c:=2) (l:=[r,m+1]) (e:=[117]) (j.gG _ _ _) (by show k<k+3;omega) (by simp) (by intro n aM;simp only [List.mem_cons,List.not_mem_nil,or_false]at aM;rcases aM with rfl|rfl<;>omega) (by simp) (by simp);refine⟨v,bV,C,aD,g,aX,fun x af=> ?_⟩;rw [ai x (by show x<k+3;omega),j.e1 _ _ (by omega)];rfl
theorem acI{r m:Nat}(hm:m≤7)(be:r<1000)(h:m=4∨m=6∨(m=2∧(r=91∨r=79))):H8 r m=lG r m:=by
 unfold H8 lG;rw [if_neg (show ¬m=0 by omega)];by_cases ae:m=2
 ·rw [if_pos ae,if_neg (by omega),if_neg (by omega)];exact yi be (by omega)
 ·rw [if_neg ae,if_neg (by omega),if_pos (show m=4∨m=6 by omega)];cases x8 r with
  |none=>exact yi be (by omega)
  |some c=>rfl
theorem acJ(H:j){r m:Nat}(be:shown r=true)(hm:m≤7):o6 42 H [.int .i32 (r:Nat),.int .u8 (m:Nat)] (lG r m):=by
 have ga:∀{a b:Nat}{I:Prop},a≤b→I→_root_.cond (Nat.ble a b) I False:=fun h k=>by rw [Nat.ble_eq.mpr h];exact k
 obtain⟨aq,H',acK,_⟩:=Pv be;rw [show(r:Int).toNat=r by omega]at aq H' acK;have eK:=aq;unfold Keys.Scalar at eK;have afC:=Fl r;by_cases ar:r<127∧(m=4∨m=6∨(m=2∧(r=91∨r=79)))
 ·
   have k:te r m=true:=by
    rcases ar.2 with rfl|rfl|⟨rfl,rfl|rfl⟩
    ·rcases Nat.lt_or_ge r 80 with h|h
     ·have:=(PL ⟨r-32,by omega⟩).1;simpa [Nat.sub_add_cancel H']using this
     ·have:=(PM ⟨r-80,by omega⟩).1;simpa [Nat.sub_add_cancel h]using this
    ·rcases Nat.lt_or_ge r 80 with h|h
     ·have:=(PL ⟨r-32,by omega⟩).2;simpa [Nat.sub_add_cancel H']using this
     ·have:=(PM ⟨r-80,by omega⟩).2;simpa [Nat.sub_add_cancel h]using this
    ·exact PN.1
    ·exact PN.2
   have:=PK k (fun a aS=>by
    simp only [List.mem_cons,List.not_mem_nil,or_false]at aS
    rcases aS with rfl|rfl<;>exact cT.int _ _) H
   rw [acI hm (by omega) ar.2]at this;exact this
 obtain⟨H1,aH,av,b7,uY,g2,iN,gP⟩:=acH H r aq;by_cases bm:m=0
 ·subst bm
  obtain⟨v,aa,aD,rfl,rfl⟩:=abU H H1 aH r (H.next+2) (H.next+4) (put r).length (put r) (fun v aa=>v=.slice (some ⟨H.next+4,0,0,0,1⟩) (put r).length (put r).length∧aa=⟨aH.next+5,aH.aT⟩)
   (bB (Nat.le_refl _) (bB (by omega) ⟨av _ rfl,⟨b7⟩,uY _ rfl,bB (by omega) (bB (by omega) (ga (by omega) ⟨rfl,rfl⟩))⟩))
  exact⟨_,_,_,aD,g2.cN rfl (by show aH.next≤aH.next+5;omega),by omega,gP⟩
 ·by_cases ae:m=2∧r≠91∧r≠79
  ·obtain⟨rfl,acL,acM⟩:=ae;have jJ:∀F,bX env eM (aH.next+14) (bR F) ⟨aH.next+18,aH.aT⟩ (Op.buildSlice 34 1 {toList:=[(0,Operand.const (Value.int .u8 (27)))]})=some (o.slice (some ⟨aH.next+14,0,0,0,1⟩) 1 1,(⟨aH.next+18,aH.aT⟩:j).set (aH.next+14) (J.made (aJ [27]) 1 true)):=by intro F;kernel_rfl
   have nP:=BU (H:=aH) (y:=aH.next+14) (J.made (aJ [27]) 1 true) 18 (by omega);have hv:∀x,x<aH.next→((⟨aH.next+18,aH.aT⟩:j).set (aH.next+14) (J.made (aJ [27]) 1 true)).get x=aH.get x:=fun x af=>j.e1 _ _ (by omega)
   have jf:((⟨aH.next+18,aH.aT⟩:j).set (aH.next+14) (J.made (aJ [27]) 1 true)).next=aH.next+18:=rfl
   generalize (⟨aH.next+18,aH.aT⟩:j).set (aH.next+14) (J.made (aJ [27]) 1 true)=aW at jJ nP hv jf;have g3:=g2.cN (hv _ g2.lt) (by omega);obtain⟨v,bV,C,aS,g4,aX,aaD,yk⟩:=(eN.made (bs:=[27]) nP (by omega) (fun h=>by cases h)).gy (bh:=aH.next+16) g3.bi (abt r) (by simp only [List.length_cons,List.length_nil];omega) (by omega)
   obtain⟨w,aa,aD,rfl,rfl⟩:=abV H H1 aH aW bV r (H.next+2) (H.next+4) (aH.next+14) (put r).length (put r) v (fun w aa=>w=v∧aa=bV)
    (bB (Nat.le_refl _) (bB (by omega) ⟨av _ rfl,⟨b7⟩,uY _ rfl,bB (by omega) (bB (by omega) ⟨by simp;omega,by simp;omega,bB (by omega) ⟨jJ _,(BQ _ _ _ _).trans aS,ga (by omega) ⟨rfl,rfl⟩⟩⟩)⟩))
   refine⟨_,_,C,aD,?_,by rcases aX with h|h<;>omega,fun x af=> ?_⟩
   ·have:lG r 2=[27]++put r:=by unfold lG;rw [if_neg (by decide),if_pos ⟨rfl,acL,acM⟩];rfl
    rw [this];exact g4
   ·rw [yk x (by omega) (by omega),hv x (by omega)];exact gP x af
  ·by_cases Ia:m=4∨m=6
   ·have afD:127<r:=by omega
    obtain⟨v,bV,C,dV,g4,aX,yk⟩:=PP (aH:=aH) (r:=r) (m:=m) (k:=aH.next+49) (by omega) hm;have sB:dO .u8 (m:Int) 2=4:=by rcases Ia with rfl|rfl<;>decide+kernel
    obtain⟨w,aa,aD,rfl,rfl⟩:=abX H H1 aH _ bV r m (H.next+2) (H.next+4) (aH.next+49) (put r).length (put r) v (fun w aa=>w=v∧aa=bV)
     (bB (Nat.le_refl _) (bB (by omega) ⟨av _ rfl,⟨b7⟩,uY _ rfl,bB (by omega) ⟨by simp;omega,bB (by omega) ⟨by simp;omega,bB (by omega) ⟨trivial,by rw [sB];rfl,bB (by omega) (bB (by omega) ⟨by simp;omega,bB (by omega) ⟨by simp;omega,by simp;omega,bB (by omega) ⟨by simp;omega,by simp;omega,bB (by omega) ⟨by omega,by omega,by omega,PO (x:=r) (y:=m+1) rfl (by rfl),⟨dV⟩,ga (by have:=g4.lt;omega) ⟨rfl,rfl⟩⟩⟩⟩⟩)⟩⟩⟩⟩))
    refine⟨_,_,C,aD,?_,by omega,fun x af=> ?_⟩
    ·have:lG r m=gE [117] [r,m+1]:=by
      unfold lG;rw [if_neg bm,if_neg (by omega),if_pos Ia];have:x8 r=none:=by unfold x8;rw [if_neg (by omega),if_neg (by omega),if_neg (by omega)]
      rw [this]
     rw [this];exact g4
    ·rw [yk x (by omega)];exact gP x af
   ·have yQ:m≠2:=by omega
    obtain⟨v,bV,C,dV,g4,aX,yk⟩:=PP (aH:=aH) (r:=r) (m:=m) (k:=aH.next+23) (by omega) hm
    have sB:dO .u8 (m:Int) 2≠4:=by
     have:m=1∨m=3∨m=5∨m=7:=by omega
     rcases this with rfl|rfl|rfl|rfl<;>decide+kernel
    obtain⟨w,aa,aD,rfl,rfl⟩:=abW H H1 aH _ bV r m (H.next+2) (H.next+4) (aH.next+23) (put r).length (put r) v (fun w aa=>w=v∧aa=bV)
     (bB (Nat.le_refl _) (bB (by omega) ⟨av _ rfl,⟨b7⟩,uY _ rfl,bB (by omega) ⟨by simp;omega,bB (by omega) ⟨by simp;omega,bB (by omega) ⟨trivial,by simp [sB],bB (by omega) ⟨by omega,by omega,by omega,PO (x:=r) (y:=m+1) rfl (by rfl),⟨dV⟩,ga (by have:=g4.lt;omega) ⟨rfl,rfl⟩⟩⟩⟩⟩⟩))
    refine⟨_,_,C,aD,?_,by omega,fun x af=> ?_⟩
    ·have:lG r m=gE [117] [r,m+1]:=by unfold lG;rw [if_neg bm,if_neg (by omega),if_neg Ia]
     rw [this];exact g4
    ·rw [yk x (by omega)];exact gP x af
def u9(f:FuncId)(H:j)(args:List o):Prop :=
 ∃aR,aI Tryz.prog aw f args H (.slice none 0 0) aR∧H.next≤aR.next∧∀x,x<H.next→aR.get x=H.get x
theorem Ib{f:FuncId}{args:List o}{v:o}{aa:j}(aD:aI Tryz.prog aw f args (j.of []) v aa)(aS:∀a∈args,cT a)(H:j) :
 ∃aR,aI Tryz.prog aw f args H (v.bc (fun i=>H.next+i)) aR∧aR.next=H.next+aa.next∧(∀i b,aa.get i=some b→aR.get (H.next+i)=some (b.bc (fun i=>H.next+i)))∧∀x,x<H.next→aR.get x=H.get x:=by
 obtain⟨aR,hH,ky,eT,jr⟩:=aD.place (by simp) (fun b av=>by cases av) (qK.2 fun a h=>(aS a h).e2 _) (H:=H) [] List.nodup_nil (fun C aX=>by cases aX) rfl (fun i b h=>by simp at h);have r:(dH [] H.next)=fun i=>H.next+i:=by funext i;rw [mF (by simp)];simp
 have gx:args.map (o.bc (dH [] H.next))=args:=by
  conv=>rhs;rw [←List.map_id args]
  exact List.map_congr_left fun e he=>(aS e he).1 _
 rw [gx,r]at hH;rw [r]at eT;refine⟨aR,hH,by rw [ky];simp,?_,fun x af=>jr x af (by simp)⟩;intro i b av;have:=eT i b av;exact this
theorem eN.place{aa aR:j}{C n:Nat}{v:o}{bs:Bytes}(g:eN aa C v bs)(aM:aR.next=n+aa.next)(ah:∀i b,aa.get i=some b→aR.get (n+i)=some (b.bc (fun i=>n+i))):eN aR (n+C) (v.bc (fun i=>n+i)) bs:=by
 obtain⟨b,rfl,ae,bg,bO,bJ⟩:=g.ex
 have lU:dt b:=by intro e he;rw [bO]at he;exact ly bs e he
 have aB:=g.lt;have k:=ah C b ae;rw [lU.bc]at k;exact⟨⟨b,rfl,k,bg,bO,bJ⟩,by omega⟩
theorem o6.of{f:FuncId}{args:List o}{v:o}{aa:j}{C:Nat}{bs:Bytes}(aD:aI Tryz.prog aw f args (j.of []) v aa)(g:eN aa C v bs)(aS:∀a∈args,cT a)(H:j):o6 f H args bs:=by obtain⟨aR,hH,aM,ah,ai⟩:=Ib aD aS H;exact⟨_,aR,H.next+C,hH,g.place aM ah,by omega,ai⟩
theorem u9.of{f:FuncId}{args:List o}{aa:j}(aD:aI Tryz.prog aw f args (j.of []) (.slice none 0 0) aa)(aS:∀a∈args,cT a)(H:j):u9 f H args:=by obtain⟨aR,hH,aM,ah,ai⟩:=Ib aD aS H;exact⟨aR,hH,by omega,ai⟩
theorem eN.drop{H:j}{C iz n k:Nat}{bs:Bytes}(g:eN H C (.slice (some ⟨C,iz,0,0,1⟩) n n) bs)(ao:k≤bs.length):eW 1 (.slice (some ⟨C,iz,k,0,1⟩) (n-k) (n-k)) H=some (aJ (bs.drop k)):=by
 obtain⟨b,he,ae,bg,bO,bJ⟩:=g.ex;simp only [o.slice.injEq,Option.some.injEq,bH.mk.injEq,true_and,and_true]at he;obtain⟨rfl,rfl,_⟩:=he;simp only [eW,if_true,ae];split
 ·rename_i h;rw [List.drop_eq_nil_of_le (by omega)];rfl
 ·rw [if_pos ⟨by simp [J.cE,bO,aJ];omega,by simp [bO,aJ];omega⟩,bO]
  congr 1
  rw [List.take_of_length_le (by simp [aJ])];simp [aJ,List.map_drop]
end Go.Proofs.YtddnafghiejcoaaGreatDoor
namespace Go.Keys
open Go.Lib
theorem acN{k n:Nat}(h:rD k=some n):j8 n=k∧0<k∧n≤24:=by
 have go:∀k:Fin 33,∀n:Fin 25,rD k.val=some n.val→j8 n.val=k.val∧0<k.val:=by decide
 have ao:k<33∧n<25:=by
  unfold rD at h
  repeat' split at h
  all_goals first|(cases h;done)|(simp only [Option.some.injEq]at h;omega)
 have:=go ⟨k,ao.1⟩ ⟨n,ao.2⟩ h;exact⟨this.1,this.2,by omega⟩
theorem acO:∀c:Fin 7,∀m:Fin 8,(ix c.val+4*m.val)/4%8=m.val∧ix c.val+4*m.val-4*m.val=ix c.val∧ix c.val+4*m.val<1000:=by decide
end Go.Keys
namespace Go.Keys
def Div(x:Bytes):Prop:= ¬x <+: dE∧¬dE <+: x
theorem acP{x:Bytes}(h:Div x)(t:Bytes):Div (x++t):=by
 refine⟨fun q=>h.1 ((List.prefix_append x t).trans q),fun q=> ?_⟩;rcases List.prefix_append_right_inj x |>.1 (List.prefix_refl _)with _
 rcases Nat.le_total x.length dE.length with aB|aB
 ·exact h.1 (List.prefix_of_prefix_length_le (List.prefix_append x t) q aB)
 ·exact h.2 (List.prefix_of_prefix_length_le q (List.prefix_append x t) aB)
theorem acQ(P:Bytes)(b:UInt8)(M:Nat):(P++[b]).take M=if(P.take M).length<M then P.take M++[b]else P.take M:=by
 rw [List.length_take];split
 ·rename_i h;rw [List.take_append,List.take_of_length_le (l:=[b]) (by simp;omega)]
 ·rename_i h;rw [List.take_append,show M-P.length=0 by omega];simp
theorem Ic(P x:Bytes):(P++x).drop P.length=x:=by simp
theorem PQ:∀(n:Nat)(k P:Bytes),k.length≤n→k.length≤6→(∀i,i<P.length→Div ((P++k).drop i)) →
 ∃h0,h0++(shift n k (P.take 65536)).1=P++k∧(shift n k (P.take 65536)).2=h0.take 65536∧(shift n k (P.take 65536)).1 <+: dE∧∀i,i<h0.length→Div ((P++k).drop i)
 |0,k,P,h,_,aD=>by have:k=[]:=List.eq_nil_of_length_eq_zero (by omega);subst this;exact⟨P,by simp [shift],by simp [shift],by simp [shift],aD⟩
 |n+1,[],P,h,_,aD=>⟨P,by simp [shift],by simp [shift],by simp [shift],aD⟩
 |n + 1,b::r,P,h,du,aD=>by
  rw [shift];split
  ·rename_i ac;exact⟨P,rfl,rfl,List.isPrefixOf_iff_prefix.1 ac,aD⟩
  ·rename_i ac;rw [←acQ];have e:P++b::r=(P++[b])++r:=by simp
   rw [e]
   have hdiv:Div (b::r):=by refine⟨fun q=>ac (List.isPrefixOf_iff_prefix.2 q),fun q=> ?_⟩;have:=q.eq_of_length_le (by simpa [dE]using du);exact ac (List.isPrefixOf_iff_prefix.2 (by rw [this];exact List.prefix_refl _))
   refine PQ n r (P++[b]) (by simp only [List.length_cons]at h;omega) (by simp only [List.length_cons]at du;omega) fun i al=> ?_
   rw [←e];simp only [List.length_append,List.length_cons,List.length_nil]at al;rcases Nat.lt_or_ge i P.length with p|p
   ·exact aD i p
   ·rw [show i=P.length by omega,Ic];exact hdiv
structure yl(S:Bytes)(P:Bytes)(s:bI):Prop where
 b8:s.b8=.cC
 hold:s.hold=[]
 all:S=P++s.kept
 az:s.az=P.take 65536
 short:s.kept.length<6
 pre:s.kept <+: dE
 div:∀i,i<P.length→Div (S.drop i)
def qe(t:Bytes):bw:=⟨4,0,0,0,0,t⟩
theorem BV{S P:Bytes}{s:bI}(h:yl S P s)(c:UInt8) :
 ((step s c).2=[]∧∃h0,yl (S++[c]) h0 (step s c).1)∨(∃h0,S++[c]=h0++dE∧step s c=(zero,[qe (h0.take 65536)])∧∀i,i<h0.length→Div ((S++[c]).drop i)):=by
 obtain⟨b8,kept,hold,az⟩:=s;obtain⟨p,ae,bg,bO,bJ,du,cI⟩:=h;simp only at p ae bg bO bJ du;subst p ae bg bO;have e:P++kept++[c]=P++(kept++[c]):=by simp
 have k:=PQ (kept.length+1) (kept++[c]) P (by simp) (by simp;omega) fun i al=>by rw [←e,List.drop_append_of_le_length (by simp;omega)];exact acP (cI i al) _
 obtain⟨h0,ap,a2,a3,a4⟩:=k;show((cC _ c).2=[]∧∃h0,yl _ h0 (cC _ c).1)∨(∃h0,_∧cC _ c=_∧_);unfold cC;simp only;split
 ·rename_i aB;refine .inr ⟨h0,?_,?_,?_⟩
  ·rw [e,←ap]
   congr 1
   exact a3.eq_of_length_le (by rw [aB];decide)
  ·rw [a2];rfl
  ·rw [e];exact a4
 ·rename_i aB;have hlen:=a3.length_le;have II:dE.length=6:=rfl;refine .inl ⟨rfl,h0,rfl,rfl,by rw [e,←ap],a2,by show(shift _ _ _).1.length<6;omega,a3,by rw [e];exact a4⟩
theorem PR:∀(t:Bytes),hasEnd t=false↔ ∀i,¬dE <+: t.drop i
 |[]=>by simp [hasEnd];decide
 |b ::r=>by
  rw [hasEnd,Bool.or_eq_false_iff,PR r];constructor
  ·rintro ⟨p,ae⟩ i;cases i with
   |zero=>intro q;rw [List.drop_zero]at q;rw [List.isPrefixOf_iff_prefix.2 q]at p;cases p
   |succ i=>rw [List.drop_succ_cons];exact ae i
  ·intro h;refine⟨?_,fun i=>by have:=h (i+1);rwa [List.drop_succ_cons]at this⟩;cases q:dE.isPrefixOf (b::r)with
   |false=>rfl
   |true=>exact absurd (List.isPrefixOf_iff_prefix.1 q) (h 0)
theorem acR{S P:Bytes}(cq:P <+: S)(aD:∀i,i<P.length→Div (S.drop i))(k:Nat):hasEnd (P.take k)=false:=by
 rw [PR];intro i q;have aB:=q.length_le;rw [List.length_drop,List.length_take]at aB;have du:dE.length=6:=rfl
 have:dE <+: S.drop i:=by
  obtain⟨t,rfl⟩:=cq
  have:((P.take k).drop i) <+: (P++t).drop i:=by
   obtain⟨u,hu⟩:=List.take_prefix k P;have e:P++t=P.take k++(u++t):=by rw [←List.append_assoc,hu]
   rw [e,List.drop_append_of_le_length (by rw [List.length_take];omega)];exact List.prefix_append _ _
  exact q.trans this
 exact(aD i (by omega)).2 this
theorem PS:∀(t S P:Bytes)(s:bI),yl S P s→t≠[]→(∀i,i+6<(S++t).length→ ¬dE <+: (S++t).drop i)→ ∀Q,S++t=Q++dE→ej s t=(zero,[qe (Q.take 65536)])
 |[],_,_,_,_,h,_,_,_=>absurd rfl h
 |[c],S,P,s,al,_,ai,Q,eF=>by
  rw [BL];rcases BV al c with ⟨_,h0,h⟩|⟨h0,e,h,_⟩
  ·exfalso;have aS:=h.all;rw [eF]at aS;have aq:=h.short;have aB:=congrArg List.length aS;have du:dE.length=6:=rfl;simp only [List.length_append]at aB;have:=h.div Q.length (by omega);rw [eF,Ic]at this;exact this.1 (List.prefix_refl _)
  ·rw [h];rw [eF]at e;have:=List.append_cancel_right e;rw [this]
 |c ::d::r,S,P,s,al,_,ai,Q,eF=>by
  rw [ej];have b':S++c::d::r=(S++[c])++(d::r):=by simp
  rcases BV al c with ⟨ae,h0,h⟩|⟨h0,e,h,_⟩
  ·rw [ae,List.nil_append,PS (d::r) (S++[c]) h0 _ h (by simp) (by rw [←b'];exact ai) Q (by rw [←b'];exact eF)]
  ·exfalso;have aB:=congrArg List.length e;have du:dE.length=6:=rfl;simp only [List.length_append,List.length_cons,List.length_nil]at aB;refine ai h0.length (by simp only [List.length_append,List.length_cons];omega) ?_;rw [b',e,List.append_assoc,Ic];exact List.prefix_append _ _
end Go.Keys
namespace Go.Keys
theorem Ie(c m:Int):(gk c m).kind≠6:=fun h=>absurd (show(1:Int)=6 from h) (by decide)
theorem ym(c m:Int):(e4 c m).kind≠6:=fun h=>absurd (show(2:Int)=6 from h) (by decide)
theorem yn(t:Bytes):(gM t).kind≠6:=fun h=>absurd (show(7:Int)=6 from h) (by decide)
theorem acS(t:Bytes):(qe t).kind≠6:=fun h=>absurd (show(4:Int)=6 from h) (by decide)
def PT(s:bI)(c:UInt8)(r:bI×List bw):Prop:= ∀e∈r.2,e.kind=6→s.b8=.sequence∧r.2=[e]∧r.1.b8=.ground∧e=⟨6,0,0,0,0,s.kept.drop 2++[c]⟩
theorem qf{s:bI}{c:UInt8}{r:bI×List bw}(h:∀e∈r.2,e.kind≠6):PT s c r:=fun e he ao=>absurd ao (h e he)
theorem PU(c:Nat):(control c).kind≠6:=by
 unfold control
 repeat' split
 all_goals first|exact Ie _ _|exact ym _ _
theorem PV{s:bI}{c:UInt8}{no:bI→bI×List bw}(h:∀s1,∀e∈(no s1).2,e.kind≠6):∀e∈(hJ s c no).2,e.kind≠6:=by
 unfold hJ;simp only;split
 ·intro e he;cases he
 ·split
  ·split
   ·intro e he;simp only [tell,List.mem_singleton]at he;subst he;exact Ie _ _
   ·intro e he;simp only [tell,List.mem_singleton]at he;subst he;exact yn _
  ·exact h _
theorem PW{s:bI}{c:UInt8}{no:bI→bI×List bw}(h:∀s1,∀e∈(no s1).2,e.kind≠6):∀e∈(iq s c no).2,e.kind≠6:=by
 unfold iq;split
 ·intro e he;simp only [tell,List.mem_singleton]at he;subst he;split
  ·exact PU _
  ·exact PU _
 ·exact PV h
theorem BW(s:bI)(c:UInt8):∀e∈(ground s c).2,e.kind≠6:=by
 unfold ground;split
 ·intro e he;cases he
 ·refine PW fun s1 e he=> ?_
  simp only [tell,List.mem_singleton]at he;subst he;exact yn _
theorem BX{a:bw}{l:List bw}(aS:a.kind≠6)(h:∀e∈l,e.kind≠6):∀e∈a::l,e.kind≠6:=by
 intro e he;rcases List.mem_cons.1 he with rfl|he
 ·exact aS
 ·exact h e he
theorem If(s:bI)(c:UInt8):∀e∈(bad s c).2,e.kind≠6:=BX (yn _) (BW _ _)
theorem yo{a:bw}(aS:a.kind≠6):∀e∈ [a],e.kind≠6:=BX aS (by simp)
theorem acT(s:bI)(c:UInt8):PT s c (step s c):=by
 unfold step;split
 ·exact qf (BW _ _)
 ·unfold dw;refine qf ?_;split
  ·exact BX (ym _ _) (BW _ _)
  ·split
   ·intro e he;cases he
   ·split
    ·intro e he;cases he
    ·exact PW fun s1=>If _ _
 ·exact qf (PV fun s1=>If _ _)
 ·rename_i aM;unfold sequence;split
  ·unfold done;split
   ·exact qf (by intro e he;cases he)
   ·intro e he ao;simp only [tell,List.mem_singleton]at he;refine⟨aM,by simp only [tell,he],rfl,?_⟩;cases b7:told (s.kept.drop 2) c with
    |none=>rw [b7]at he;subst he;exact absurd ao (yn _)
    |some x =>
     rw [b7]at he;simp only [Option.getD_some]at he;subst he;rcases Pt b7 with h|h
     ·rcases h with h|h|h|h<;>(rw [h.1]at ao;exact absurd ao (by decide))
     ·exact h
  ·split
   ·exact qf (If _ _)
   ·split
    ·exact qf (yo (yn _))
    ·exact qf (by intro e he;cases he)
 ·unfold single;refine qf ?_;split
  ·exact yo (ym _ _)
  ·split
   ·exact yo (ym _ _)
   ·split
    ·exact yo (ym _ _)
    ·exact BX (Ie _ _) (BW _ _)
 ·unfold cC;simp only;refine qf ?_;split
  ·exact yo (acS _)
  ·intro e he;cases he
theorem Ig(c:UInt8){s:bI}{no:bI→bI×List bw}(h:∀s1,(no s1).1.b8≠ .cC):(hJ s c no).1.b8≠ .cC:=by
 unfold hJ;simp only;split
 ·intro h;cases h
 ·split
  ·split<;>(intro h;cases h)
  ·exact h _
theorem u'(c:UInt8)(s:bI):(ground s c).1.b8≠ .cC:=by
 unfold ground;split
 ·intro h;cases h
 ·unfold iq;split
  ·intro h;cases h
  ·exact Ig c fun s1=>by intro h;cases h
theorem acU{s:bI}{c:UInt8}(ac:s.b8≠ .cC)(p:(step s c).1.b8=.cC):(step s c).1=⟨.cC,[],s.hold,s.az⟩∧(step s c).2=[]:=by
 revert p
 unfold step;split
 ·exact fun h=>absurd h (u' c s)
 ·unfold dw;split
  ·exact fun h=>absurd h (u' c _)
  ·split
   ·intro h;cases h
   ·split
    ·intro h;cases h
    ·unfold plain iq;split
     ·intro h;cases h
     ·exact fun h=>absurd h (Ig c fun s1=>u' c _)
 ·exact fun h=>absurd h (Ig c fun s1=>u' c _)
 ·rename_i aM;unfold sequence;split
  ·unfold done;split
   ·intro _;exact⟨rfl,rfl⟩
   ·intro h;cases h
  ·split
   ·exact fun h=>absurd h (u' c _)
   ·split
    ·intro h;cases h
    ·exact fun h=>absurd h ac
 ·unfold single;split
  ·intro h;cases h
  ·split
   ·intro h;cases h
   ·split
    ·intro h;cases h
    ·exact fun h=>absurd h (u' c _)
 ·rename_i aM;exact absurd aM ac
theorem acV:Good zero:=⟨rfl,rfl,rfl⟩
end Go.Keys
namespace Go.Keys
def hQ(e:bw):Prop:=0≤e.dX∧((∃t,e=gM t∧1≤t.length∧t.length≤64)∨(e.kind≠7∧(ds e).isSome=true))
theorem PX:∀k:Fin 33,∀m:Fin 8,(1≤k.val∧k.val≤14∨21≤k.val)→(qb k.val m.val).isSome=true:=by decide
theorem tf{e:bw}(h:o0 e):hQ e:=by
 have hm:0≤e.dX:=by
  rcases h with h|h|h|h
  ·exact h.2.1
  ·exact h.2.1
  ·exact h.2.1
  ·rw [h.2.1];exact Int.le_refl _
 refine⟨hm,.inr ?_⟩;obtain⟨kind,code,dX,x,y,text⟩:=e;rcases h with ⟨ao,m0,m7,aq,ac⟩|⟨ao,m0,m7,aq,ac⟩|⟨ao,m0,m7,n4,kp,jB,ko,PY,pn,b7⟩|⟨ao,hm,ar,ac⟩
 ·obtain⟨eU,ik,oz⟩:=ac;simp only at *;subst ao eU ik oz;refine⟨by decide,?_⟩;unfold ds;rw [if_neg (by simp),if_neg (by simp only;omega),if_pos ⟨rfl,rfl,aq⟩];rfl
 ·obtain⟨eU,ik,oz⟩:=ac;simp only at *;subst ao eU ik oz;refine⟨by decide,?_⟩;unfold kd at aq;unfold ds;rw [if_neg (by simp),if_neg (by simp only;omega),if_neg (fun q=>absurd q.1 (by simp)),if_pos ⟨rfl,rfl⟩,if_pos (by simp only;omega)];exact PX ⟨code.toNat,by omega⟩ ⟨dX.toNat,by omega⟩ (by simp only;omega)
 ·simp only at *;subst ao b7;refine⟨by decide,?_⟩;unfold ds;rw [if_pos rfl,if_pos (by simp [s'];omega)];rfl
 ·obtain⟨eU,ik,oz⟩:=ac;simp only at *;subst ao eU ik oz hm;refine⟨by decide,?_⟩;rcases ar with rfl|rfl<;>rfl
theorem acW{t:Bytes}(aB:t.length≤65536)(h:hasEnd t=false):hQ (qe t):=by refine⟨Int.le_refl _,.inr ⟨fun h=>absurd (show(4:Int)=7 from h) (by decide),?_⟩⟩;unfold ds qe;rw [if_neg (by simp),if_neg (by simp),if_neg (fun q=>absurd q.1 (by simp)),if_neg (fun q=>absurd q.1 (by simp)),if_neg (by simp),if_neg (by simp),if_pos ⟨rfl,aB,h⟩];rfl
theorem acX{t:Bytes}(aB:t.length≤62)(h:ej zero (27::91::t)=(zero,[⟨6,0,0,0,0,t⟩])):hQ ⟨6,0,0,0,0,t⟩:=by refine⟨Int.le_refl _,.inr ⟨fun h=>absurd (show(6:Int)=7 from h) (by decide),?_⟩⟩;unfold ds;rw [if_neg (by simp),if_neg (by simp),if_neg (fun q=>absurd q.1 (by simp)),if_neg (fun q=>absurd q.1 (by simp)),if_neg (by simp),if_neg (by simp),if_neg (by simp),if_pos ⟨rfl,aB⟩,h,if_pos ⟨rfl,rfl⟩];rfl
theorem yp{t:Bytes}(p:1≤t.length)(ae:t.length≤64):hQ (gM t):=⟨Int.le_refl _,.inl ⟨t,rfl,p,ae⟩⟩
structure Holds(s:bI):Prop where
 hN:Good s
 path:Path s
 seq:Seq s
 az:s.b8=.cC→ ∃S P,yl S P s
theorem acY:Holds zero:=⟨acV,abd,(fun h=>by cases h),(fun h=>by cases h)⟩
theorem Ih{s:bI}(h:Good s):s.kept.length≤63:=by
 obtain⟨b8,kept,hold,az⟩:=s;cases b8 with
 |ground=>obtain⟨p,_⟩:=h;simp only at p;subst p;simp
 |dw=>obtain⟨p,_⟩:=h;simp only at p;subst p;simp
 |dc =>
  obtain⟨_,ae,_,bO,_⟩:=h;simp only at ae bO⊢;have aB:=congrArg List.length ae;rw [List.length_drop]at aB;have:=Lm kept;omega
 |sequence=>obtain⟨_,_,_,bO⟩:=h;simp only at bO⊢; omega
 |single=>obtain⟨_,_,p⟩:=h;simp only at p;subst p;simp
 |cC=>obtain⟨_,p,_⟩:=h;simp only at p⊢; omega
theorem acZ{c:UInt8}{r:Nat}(h:cg [] c=([r],[]))(a':valid [c]=true):r=c.toNat∧c.toNat<128:=by
 by_cases bm:(lead c.toNat).1=0
 ·exfalso
  have e:ew [c]=[65533]:=by show iI 1 [c]=_;simp [iI,first,bm]
  unfold valid at a';rw [e]at a';simp only [fX,List.flatMap_cons,List.flatMap_nil,List.append_nil,ET,beq_iff_eq]at a';have:=congrArg List.length a';simp at this
 ·by_cases p:(lead c.toNat).1=1
  ·have ar:c.toNat<128:=by
    unfold lead at p
    repeat' split at p
    all_goals first|assumption|(simp at p;done)
   refine⟨?_,ar⟩;unfold cg at h;rw [List.nil_append,HU (by simp)]at h;simp only [first,abr ar]at h;simp at h;exact h.1.1.symm
  ·exfalso;unfold cg at h;rw [List.nil_append,HU (by simp)]at h
   have:(first [c]).2.2=true:=by
    simp only [first];rw [if_neg bm,if_neg p];obtain⟨k,ao⟩:∃k,(lead c.toNat).1-1=k+1:=⟨(lead c.toNat).1-2,by omega⟩
    rw [ao];rfl
   rw [this,if_pos rfl]at h;simp at h
theorem ac0{h:Bytes}{c:UInt8}{r:Nat}(ai:(first h).2.2=true)(e:cg h c=([r],[]))(a':valid (h++[c])=true):Scalar r∧128≤r:=by
 have aM:h≠[]:=by rintro rfl;simp [first]at ai
 have hw:first (h++[c])=(r,h.length+1,false):=by
  unfold cg at e;rw [HU (by simp)]at e;rcases Li ai c with U|⟨U,n⟩|bC
  ·rw [U,if_pos rfl]at e;simp at e
  ·rw [U,if_neg (by simp),n,Lj,uk]at e;simp only [Prod.mk.injEq,List.cons.injEq,and_true]at e;rw [←e,←n,←U]
  ·rw [EU ai bC]at a';cases a'
 have be:ew (h++[c])=[r]:=by
  unfold ew;cases ac:h++[c]with
  |nil=>simp at ac
  |cons b t =>
   rw [ac]at hw;show iI (t.length+1) (b::t)=_;unfold iI;simp only [hw];have aB:=congrArg List.length ac;simp only [List.length_append,List.length_cons,List.length_nil]at aB;rw [show(b::t).drop (h.length+1)=[]by rw [List.drop_eq_nil_iff];simp only [List.length_cons];omega];cases t.length<;>rfl
 have Ii:put r=h++[c]:=by unfold valid at a';rw [be]at a';simpa [fX]using a'
 have aq:Scalar r:=by
  by_cases q:55296≤r∧r≤57343∨1114111<r
  ·exfalso
   have b2:put r=put 65533:=by unfold put;simp only;rw [if_pos q,if_neg (show ¬(55296≤65533∧65533≤57343∨1114111<65533)by omega)]
   rw [←Ii,b2,ET]at hw
   have:r=65533:=by
    have bO:(first [239,191,189]).1=65533:=by decide
    rw [hw]at bO;exact bO
   omega
  ·unfold Scalar;omega
 refine⟨aq,?_⟩;rcases Nat.lt_or_ge r 128 with p|p
 ·exfalso;rw [wL p]at Ii;have aB:=congrArg List.length Ii;simp only [List.length_append,List.length_cons,List.length_nil]at aB;exact aM (List.eq_nil_of_length_eq_zero (by omega))
 ·exact p
theorem Ij{s:bI}{c:UInt8}{no:bI→bI×List bw}(bQ:s.hold=s.kept.drop (at' s.kept))(ai:s.hold=[]∧32≤c.toNat∧c.toNat≠127∨(first s.hold).2.2=true)(ao:s.kept≠[]∨c≠27)(aB:s.kept.length≤63)(h7:s.hold≠[]→ ∀s1:bI,s1.kept=s.kept→s1.hold=[]→ ∀e∈(no s1).2,hQ e):∀e∈(hJ s c no).2,hQ e:=by
 have gY:s.hold=[]∨(first s.hold).2.2=true:=ai.imp (fun h=>h.1) id;have key:=Lk s.hold c gY;have oo:(s.kept++[c]).drop (at' s.kept)=s.hold++[c]:=by rw [bQ,List.drop_append_of_le_length (EV _)]
 have hm:(0:Int)≤2* (at' s.kept:Nat)∧(2* (at' s.kept:Nat):Int)≤7:=by have:=Lm s.kept;omega
 unfold hJ;simp only;cases key with
 |more e U =>
  rw [e];simp only [ne_eq,List.append_eq_nil_iff,List.cons_ne_self,and_false,not_false_eq_true,and_self,if_true];intro e he;cases he
 |whole r e =>
  rw [e];simp only [ne_eq,not_true_eq_false,false_and,if_false];by_cases a':valid (s.hold++[c])=true
  ·rw [if_pos (.inr (by rw [←bQ];exact a')),oo,if_pos a'];intro x af;simp only [tell,List.mem_singleton,List.headD_cons]at af;subst af;refine tf (s9 ?_ hm.1 hm.2);rcases ai with ⟨bm,p,ae⟩|bm
   ·rw [bm]at e a';obtain⟨a,b⟩:=acZ e (by simpa using a');simp only [shown,Bool.and_eq_true,Bool.or_eq_true,decide_eq_true_eq];omega
   ·obtain⟨a,b⟩:=ac0 bm e a';unfold Scalar at a;simp only [shown,Bool.and_eq_true,Bool.or_eq_true,decide_eq_true_eq];omega
  ·by_cases hw: [r].length=1∧s.kept.length=at' s.kept∨valid (s.kept.drop (at' s.kept)++[c])=true
   ·rw [if_pos hw,oo,if_neg a'];intro x af;simp only [tell,List.mem_singleton]at af;subst af;exact yp (by simp) (by simp;omega)
   ·rw [if_neg hw];refine h7 ?_ _ rfl rfl;intro bm;apply hw;refine .inl ⟨rfl,?_⟩;rw [bm]at bQ;have:=congrArg List.length bQ;rw [List.length_drop]at this;have:=EV s.kept;simp only [List.length_nil]at *;omega
 |broken l t e bm bC =>
  rw [e]
  have a':valid (s.kept.drop (at' s.kept)++[c])=false:=by
   rw [←bQ];rcases ai with ai|ai
   ·exact absurd ai.1 bm
   ·exact EU ai bC
  have jC:¬s.kept.length=at' s.kept:=by intro q;apply bm;rw [bQ,List.drop_eq_nil_iff];omega
  rw [if_neg (by simp),if_neg (by simp [a',jC])];exact h7 bm _ rfl rfl
theorem BY{a:bw}{l:List bw}(aS:hQ a)(h:∀e∈l,hQ e):∀e∈a::l,hQ e:=by
 intro e he;rcases List.mem_cons.1 he with rfl|he
 ·exact aS
 ·exact h e he
theorem nc{a:bw}(aS:hQ a):∀e∈ [a],hQ e:=BY aS (by simp)
theorem yq{k m:Int}(h:kd k)(bm:0≤m)(cI:m≤7):hQ (e4 k m):=tf (qa h bm cI)
theorem ac1{c:Nat}(h:c<32∨c=127)(js:c≠27):o0 {control c with dX:=(control c).dX+2} :=by
 have p:=Pu h js
 have hm:(control c).dX=0∨(control c).dX=4:=by
  unfold control
  repeat' split
  all_goals first|exact .inl rfl|exact .inr rfl
 have ao:(control c).kind=1∨(control c).kind=2:=by
  unfold control
  repeat' split
  all_goals first|exact .inl rfl|exact .inr rfl
 rcases p with ⟨a,b,d,e,f⟩|⟨a,b,d,e,f⟩|⟨a,_⟩|⟨a,_⟩
 ·exact .inl ⟨a,by show 0≤(control c).dX+2;omega,by show(control c).dX+2≤7;omega,e,f⟩
 ·exact .inr (.inl ⟨a,by show 0≤(control c).dX+2;omega,by show(control c).dX+2≤7;omega,e,f⟩)
 ·omega
 ·omega
theorem PZ{c:UInt8}(h:c≠27):c.toNat≠27:=fun q=>h (UInt8.toNat_inj.1 q)
theorem BZ{s:bI}{c:UInt8}(ao:s.kept=[])(bQ:s.hold=[]):∀e∈(ground s c).2,hQ e:=by
 unfold ground;split
 ·intro e he;cases he
 ·rename_i ar;unfold iq;split
  ·rename_i aC;first|rw [if_pos ao]|skip
   exact nc (tf (Pu aC (PZ ar)))
  ·rename_i aC;exact Ij (by rw [bQ,ao];rfl) (.inl ⟨bQ,by omega,by omega⟩) (.inr ar) (by rw [ao];simp) fun h=>absurd bQ h
theorem P0{s:bI}{c:UInt8}(bQ:s.hold=[])(p:1≤s.kept.length)(ae:s.kept.length≤64):∀e∈(bad s c).2,hQ e:=BY (yp p ae) (BZ rfl bQ)
theorem ac2{s:bI}{c:UInt8}(s1:bI)(ao:s1.kept=s.kept)(bQ:s1.hold=[])(p:1≤s.kept.length)(ae:s.kept.length≤64):∀e∈(bad s1 c).2,hQ e:=P0 bQ (by rw [ao];exact p) (by rw [ao];exact ae)
end Go.Keys
namespace Go.Proofs.YtddnafghiejcoaaGreatDoor
open Go.cH Go.Keys
set_option maxRecDepth 1000000
theorem ac3(k:Nat):rC k<1000:=by unfold rC;split<;>(try split)<;>(try split)<;>omega
theorem ac4{k m:Nat}(hm:m≤7):H9 k m=qb k m:=by
 unfold H9 qb;by_cases h:1≤k∧k≤4
 ·rw [if_pos h,if_pos h,yi (ac3 k) (by omega)];rfl
 ·rw [if_neg h,if_neg h];cases aS:x9 k with
  |some c=>simp only;rw [yi (by decide) (by omega)];rfl
  |none =>
   simp only;cases aM:rD k with
   |none=>rfl
   |some n =>
    have:=(acN aM).2.2;simp only;rw [acD (by omega),yi (by omega) (by omega)]
theorem ac5{h:j}{q i:Nat}{l:Bytes}{e:Bool}{an:Option (TypeId×Nat)}(ah:h.get q=some (J.made (aJ l) 1 e an))(al:i<l.length):cj (b4.D env) 5 ⟨q,0,0+i,0,1⟩ h=some (.int .u8 (l[i].toNat:Nat)):=by
 have b5:(b4.D env 5).map (fun d=>d.kind.isAgg)=some false:=by kernel_rfl
 obtain⟨x,p,ae⟩:=Option.map_eq_some_iff.1 b5;unfold cj;rw [p,ah];simp [J.elem?,J.cE,iR,ae,J.made,al,aJ]
def nd:Bytes:=[65,66,67,68,72,70]
theorem ac6:∀i:Fin 6,5≤ha ((nd[i.val]'(by exact i.isLt)).toNat:Int)∧ha ((nd[i.val]'(by exact i.isLt)).toNat:Int)≤10:=by decide
theorem ac7:∀i:Fin 25,hL (i.val:Int)=0∨(9≤hL (i.val:Int)∧hL (i.val:Int)≤14)∨(21≤hL (i.val:Int)∧hL (i.val:Int)≤32):=by decide
def me(k:Int):Prop:= ¬(1≤k∧k≤14)∧¬(21≤k∧k≤32)
abbrev B0(k:Int)(m q i:Nat):bT:=[(0,.int .i32 k),(1,.int .u8 (m:Nat)),(5,.int .i64 ((m:Int)+1)),(52,.slice (some ⟨q,0,0,0,1⟩) 6 6),(53,.int .i64 6),(54,.int .i64 (i:Nat))]
theorem ac8{B q m:Nat}{k:Int}(ao:me k):∀(t i:Nat)(H:j),6-i≤t→i≤6→B≤H.next→H.get q=some (J.made (aJ nd) 1 true) →
 ∃n e',db Tryz.prog aw B 111 (c4 Tryz.prog 43 0) (B0 k m q i) H (.exit 1) [(0,.int .i32 k),(1,.int .u8 (m:Nat)),(5,.int .i64 ((m:Int)+1)),(52,.slice (some ⟨q,0,0,0,1⟩) 6 6),(53,.int .i64 6),(54,e')] ⟨H.next+n,H.aT⟩:=by
 intro t
 have fin:∀(H:j),B≤H.next→ ∃n e',db Tryz.prog aw B 111 (c4 Tryz.prog 43 0) (B0 k m q 6) H (.exit 1) [(0,.int .i32 k),(1,.int .u8 (m:Nat)),(5,.int .i64 ((m:Int)+1)),(52,.slice (some ⟨q,0,0,0,1⟩) 6 6),(53,.int .i64 6),(54,e')] ⟨H.next+n,H.aT⟩:=by intro H c1;obtain⟨e,bb,p,be,rfl,rfl,rfl⟩:=PF H B q 6 0 k m (fun e bb p=>e=.exit 1∧bb=B0 k m q 6∧p=⟨H.next+1,H.aT⟩) (bB c1 ⟨fun h=>absurd h (by omega),fun _=>⟨rfl,rfl,rfl⟩⟩);exact⟨1,_,db.last (by simp) be⟩
 induction t with
 |zero =>
  intro i H b7 al c1 _;obtain rfl:i=6:=by omega
  exact fin H c1
 |succ t ih =>
  intro i H b7 al c1 ah;by_cases du:i<6
  ·have hlen:nd.length=6:=rfl;have aS:=ac6 ⟨i,du⟩;simp only at aS
   have mu:cj (b4.D env) 5 ⟨q,0,0+Int.toNat (i:Int),0,1⟩ ⟨H.next+4,H.aT⟩=some (.int .u8 ((nd[i]'(by omega)).toNat:Nat)):=by rw [Int.toNat_natCast];exact ac5 (h:=⟨H.next+4,H.aT⟩) ah (by omega)
   have bZ:(ha ((nd[i]'(by omega)).toNat:Int) != k)=true:=by unfold me at ao;simp only [bne_iff_ne,ne_eq];omega
   obtain⟨e,bb,p,be,rfl,rfl,rfl⟩:=PF H B q i (nd[i]'(by omega)).toNat k m (fun e bb p=>e=.normal∧bb=B0 k m q (i+1)∧p=⟨H.next+10,H.aT⟩)
    (bB c1 ⟨fun _=>bB (by omega) ⟨⟨by omega,by omega⟩,mu,bB (by omega) ⟨by rw [bZ],bB (by omega) ⟨⟨by omega,by omega⟩,rfl,by rw [show((i:Int)+1)=((i+1:Nat):Int)by omega],rfl⟩⟩⟩,fun h=>absurd h (by omega)⟩)
   obtain⟨n,e',dG⟩:=ih (i+1) ⟨H.next+10,H.aT⟩ (by omega) (by omega) (by show B≤H.next+10;omega) ah;exact⟨10+n,e',by rw [←Nat.add_assoc];exact db.step be dG⟩
  ·obtain rfl:i=6:=by omega
   exact fin H c1
abbrev va(k:Int)(m i:Nat):bT:=[(0,.int .i32 k),(1,.int .u8 (m:Nat)),(5,.int .i64 ((m:Int)+1)),(9,.int .i64 (i:Nat))]
theorem ac9{B m:Nat}{k:Int}(ao:me k):∀(t i:Nat)(H:j),25-i≤t→i≤25→B≤H.next →
 ∃n,db Tryz.prog aw B 111 (c4 Tryz.prog 43 1) (va k m i) H (.exit 3) (va k m 25) ⟨H.next+n,H.aT⟩:=by
 intro t
 have fin:∀(H:j),B≤H.next→ ∃n,db Tryz.prog aw B 111 (c4 Tryz.prog 43 1) (va k m 25) H (.exit 3) (va k m 25) ⟨H.next+n,H.aT⟩:=by intro H c1;obtain⟨e,bb,p,be,rfl,rfl,rfl⟩:=PH H B 25 k m (fun e bb p=>e=.exit 3∧bb=va k m 25∧p=⟨H.next+2,H.aT⟩) (bB c1 ⟨fun h=>absurd h (by omega),fun _=>⟨rfl,rfl,rfl⟩⟩);exact⟨2,db.last (by simp) be⟩
 induction t with
 |zero =>
  intro i H b7 al c1;obtain rfl:i=25:=by omega
  exact fin H c1
 |succ t ih =>
  intro i H b7 al c1;by_cases du:i<25
  ·have aS:=ac7 ⟨i,du⟩;simp only at aS;have hF:((i:Int)+1)=((i+1:Nat):Int):=by omega
   obtain⟨e,bb,p,be,rfl,rfl,rfl⟩:=PH H B i k m (fun e bb p=>e=.normal∧bb=va k m (i+1)∧p=⟨H.next+13,H.aT⟩)
    (bB c1 ⟨fun _=>bB (by omega) ⟨fun bm=>⟨by
     have:(hL (i:Int) == k)=false:=by unfold me at ao;rw [beq_eq_false_iff_ne];omega
     rw [this],bB (by omega) ⟨⟨by omega,by omega⟩,rfl,by rw [hF],rfl⟩⟩,fun bm=>bB (by omega) ⟨⟨by omega,by omega⟩,rfl,by rw [hF],rfl⟩⟩,fun h=>absurd (by omega) h⟩)
   obtain⟨n,dG⟩:=ih (i+1) ⟨H.next+13,H.aT⟩ (by omega) (by omega) (by show B≤H.next+13;omega);exact⟨13+n,by rw [←Nat.add_assoc];exact db.step be dG⟩
  ·obtain rfl:i=25:=by omega
   exact fin H c1
theorem ac'(H:j){k:Int}{m:Nat}(ao:me k)(hm:m≤7):u9 43 H [.int .i32 k,.int .u8 (m:Nat)]:=by
 have ga:∀{a b:Nat}{I:Prop},a≤b→I→_root_.cond (Nat.ble a b) I False:=fun h k=>by rw [Nat.ble_eq.mpr h];exact k
 have qd:∀F,bX env eM (H.next+11) (bR F) ⟨H.next+15,H.aT⟩ (Op.buildSlice 34 6 {toList:=[(0,Operand.const (Value.int .u8 (65))),(1,Operand.const (Value.int .u8 (66))),(2,Operand.const (Value.int .u8 (67))),(3,Operand.const (Value.int .u8 (68))),(4,Operand.const (Value.int .u8 (72))),(5,Operand.const (Value.int .u8 (70)))]})=some (o.slice (some ⟨H.next+11,0,0,0,1⟩) 6 6,(⟨H.next+15,H.aT⟩:j).set (H.next+11) (J.made (aJ nd) 1 true)):=by intro F;kernel_rfl
 have iJ:=BU (H:=H) (y:=H.next+11) (J.made (aJ nd) 1 true) 15 (by omega);have iL:∀x,x<H.next→((⟨H.next+15,H.aT⟩:j).set (H.next+11) (J.made (aJ nd) 1 true)).get x=H.get x:=fun x af=>j.e1 _ _ (by omega)
 have kc:((⟨H.next+15,H.aT⟩:j).set (H.next+11) (J.made (aJ nd) 1 true)).next=H.next+15:=rfl
 generalize (⟨H.next+15,H.aT⟩:j).set (H.next+11) (J.made (aJ nd) 1 true)=H1 at qd iJ iL kc;obtain⟨n,e',dG⟩:=ac8 (B:=H.next) (m:=m) ao 6 0 H1 (by omega) (by omega) (by omega) iJ;obtain⟨aP,nO⟩:=ac9 (B:=H.next) (m:=m) ao 23 2 ⟨H1.next+n+11,H1.aT⟩ (by omega) (by omega) (by show H.next≤H1.next+n+11;omega);have ai:∀(K:Nat) x,x<H.next→(⟨H1.next+n+11+aP+K,H1.aT⟩:j).get x=H.get x:=fun K x af=>iL x af
 unfold me at ao;by_cases bm:k<1
 ·obtain⟨v,aa,aD,rfl,rfl⟩:=abY H H1 ⟨H1.next+n,H1.aT⟩ ⟨H1.next+n+11+aP,H1.aT⟩ (H.next+11) m k e' (fun v aa=>v=.slice none 0 0∧aa=⟨H1.next+n+11+aP+1,H1.aT⟩)
   (bB (Nat.le_refl _) (bB (by omega) ⟨by omega,by omega,bB (by omega) ⟨by simp;omega,bB (by omega) ⟨qd _,yd rfl iJ rfl rfl (by decide),cP.h' dG,bB (by show H.next≤H1.next+n;omega) ⟨fun _=>⟨by simp;omega,bB (by show H.next≤H1.next+n+10;omega) ⟨cP.h' nO,bB (by show H.next≤H1.next+n+11+aP;omega) (ga (by show H.next≤H1.next+n+11+aP+1;omega) ⟨rfl,rfl⟩)⟩⟩,fun _=>bB (by show H.next≤H1.next+n+10;omega) ⟨cP.h' nO,bB (by show H.next≤H1.next+n+11+aP;omega) (ga (by show H.next≤H1.next+n+11+aP+1;omega) ⟨rfl,rfl⟩)⟩⟩⟩⟩⟩))
  exact⟨_,aD,by show H.next≤H1.next+n+11+aP+1;omega,ai 1⟩
 ·obtain⟨v,aa,aD,rfl,rfl⟩:=abZ H H1 ⟨H1.next+n,H1.aT⟩ ⟨H1.next+n+11+aP,H1.aT⟩ (H.next+11) m k e' (fun v aa=>v=.slice none 0 0∧aa=⟨H1.next+n+11+aP+1,H1.aT⟩)
   (bB (Nat.le_refl _) (bB (by omega) ⟨by omega,by omega,bB (by omega) ⟨by simp;omega,by simp;omega,bB (by omega) ⟨qd _,yd rfl iJ rfl rfl (by decide),cP.h' dG,bB (by show H.next≤H1.next+n;omega) ⟨fun _=>⟨fun ada=>⟨by simp;omega,bB (by show H.next≤H1.next+n+10;omega) ⟨cP.h' nO,bB (by show H.next≤H1.next+n+11+aP;omega) (ga (by show H.next≤H1.next+n+11+aP+1;omega) ⟨rfl,rfl⟩)⟩⟩,fun ada=>bB (by show H.next≤H1.next+n+10;omega) ⟨cP.h' nO,bB (by show H.next≤H1.next+n+11+aP;omega) (ga (by show H.next≤H1.next+n+11+aP+1;omega) ⟨rfl,rfl⟩)⟩⟩,fun _=>bB (by show H.next≤H1.next+n+10;omega) ⟨cP.h' nO,bB (by show H.next≤H1.next+n+11+aP;omega) (ga (by show H.next≤H1.next+n+11+aP+1;omega) ⟨rfl,rfl⟩)⟩⟩⟩⟩⟩))
  exact⟨_,aD,by show H.next≤H1.next+n+11+aP+1;omega,ai 1⟩
theorem adb(H:j){k m:Nat}(ao:¬me k)(hm:m≤7):∃b,qb k m=some b∧o6 43 H [.int .i32 (k:Nat),.int .u8 (m:Nat)] b:=by
 have be:yj k m=true:=by
  unfold me at ao;by_cases p:k≤14
  ·have:=acE ⟨k-1,by omega⟩ ⟨m,by omega⟩;simpa [Nat.sub_add_cancel (show 1≤k by omega)]using this
  ·by_cases ae:k<27
   ·have:=acF ⟨k-21,by omega⟩ ⟨m,by omega⟩;simpa [Nat.sub_add_cancel (show 21≤k by omega)]using this
   ·have:=acG ⟨k-27,by omega⟩ ⟨m,by omega⟩;simpa [Nat.sub_add_cancel (show 27≤k by omega)]using this
 unfold yj at be;rw [ac4 hm]at be
 have B1:(qb k m).isSome=true:=by unfold me at ao;exact PX ⟨k,by omega⟩ ⟨m,by omega⟩ (by simp only;omega)
 obtain⟨b,av⟩:=Option.isSome_iff_exists.1 B1;rw [av]at be
 exact⟨b,av,PK be (fun a aS=>by
  simp only [List.mem_cons,List.not_mem_nil,or_false]at aS
  rcases aS with rfl|rfl<;>exact cT.int _ _) H⟩
theorem ade{k m:Nat}(ao:me k):qb k m=none:=by
 unfold me at ao;unfold qb;rw [if_neg (by omega)];have p:x9 k=none:=by unfold x9;rw [if_neg (by omega),if_neg (by omega),if_neg (by omega)]
 rw [p];simp only;rw [if_neg (by omega)];have ae:rD k=none:=by unfold rD;rw [if_neg (by omega),if_neg (by omega),if_neg (by omega),if_neg (by omega),if_neg (by omega)]
 rw [ae]
end Go.Proofs.YtddnafghiejcoaaGreatDoor
namespace Go.Proofs.YtddnafghiejcoaaGreatDoor
open Go.cH Go.Keys Go.Shelf
set_option maxRecDepth 1000000
def adf:Ren where
 f:=fun x=>if x=143 then 74 else if x=144 then 45 else if x=217 then 115 else if x=219 then 95 else if x=224 then 117 else if x=225 then 116 else if x=266 then 133 else if x=267 then 118 else if x=314 then 134 else 0
 t:=fun x=>if x=3 then 3 else if x=4 then 4 else if x=5 then 5 else if x=9 then 9 else if x=46 then 108 else if x=51 then 132 else if x=146 then 176 else 0
 g:=fun x=>if x=1 then 2 else 0
theorem adg:Lays.n144 Tryz.prog adf:=by constructor;all_goals first|kernel_rfl|(intro w;kernel_rfl)
theorem P1:∀(t:Bytes),(hasEnd t=true→0≤Lib.index t dE)∧(hasEnd t=false→Lib.index t dE= -1)
 |[]=>⟨fun h=>by simp [hasEnd]at h,fun _=>by simp [Lib.index,dE]⟩
 |b ::r=>by
  obtain⟨p,ae⟩:=P1 r;rw [hasEnd,Lib.index];cases ac:dE.isPrefixOf (b::r)with
  |true=>exact⟨fun _=>by simp,fun h=>by simp at h⟩
  |false =>
   simp only [Bool.false_or,Bool.false_eq_true,if_false];refine⟨fun h=> ?_,fun h=> ?_⟩
   ·have:=p h;rw [if_neg (by rw [beq_iff_eq];omega)];omega
   ·rw [ae h];rfl
theorem adh(t:Bytes):Lib.contains t dE=hasEnd t:=by
 obtain⟨p,ae⟩:=P1 t;unfold Lib.contains;cases h:hasEnd t with
 |true=>simpa using p h
 |false=>rw [ae h];rfl
theorem adi(t:Bytes)(b7:t.length≤65536)(H:j):aI Tryz.prog aw 45 [.str t,.str dE] H (.bool (hasEnd t)) H:=by
 intro bd bo dl fK ak w dD ep c1 eA;obtain⟨l⟩:=dD;simp only [bG,aK]at eA;obtain⟨a,fu,rfl,⟨u,rfl,hu⟩,b,t2,rfl,⟨d,rfl,aD⟩,rfl⟩:=eA;refine⟨⟨Tryz.f45,_,by kernel_rfl,rfl⟩,?_⟩;have v8:=fK.cN c1 fun _ af=>af
 obtain⟨m,hm⟩:=v8.fL
 have k:=Any.strings_Contains adg u d m w (by
  have:u.size=t.length:=by rw [←hu];rfl
  rw [this];omega) hm
 rw [hu,aD,adh]at k
 exact k.mono fun e bA ⟨he,hw⟩=>by subst hw;exact⟨_,ak,he,fh.refl _ _,by simp only [aK],ep,c1,Nat.le_refl _⟩
end Go.Proofs.YtddnafghiejcoaaGreatDoor
namespace Go.Keys
theorem adj{s:bI}{c:UInt8}(ao:s.kept=[27])(bQ:s.hold=[])(ar:c≠27):∀e∈(plain s c).2,hQ e:=by
 unfold plain iq;split
 ·rename_i aC;rw [if_neg (by rw [ao];simp)];exact nc (tf (ac1 aC (PZ ar)))
 ·rename_i aC;exact Ij (by rw [bQ,ao];rfl) (.inl ⟨bQ,by omega,by omega⟩) (.inl (by rw [ao];simp)) (by rw [ao];simp) fun h=>absurd bQ h
theorem adk{s:bI}(c:UInt8)(h:Holds s):∀e∈(step s c).2,hQ e:=by
 obtain⟨dY,kb,cq,cQ⟩:=h;have P2:=Ih dY;have E2:=q1 c dY;have be:=acT s c;revert be
 unfold step;split
 ·rename_i aM;intro _;obtain⟨b8,kept,hold,az⟩:=s;simp only at aM;subst aM;exact BZ dY.1 dY.2.1
 ·rename_i aM;intro _;obtain⟨b8,kept,hold,az⟩:=s;simp only at aM;subst aM;unfold dw;split
  ·exact BY (yq (by unfold kd;omega) (by decide) (by decide)) (BZ rfl dY.2.1)
  ·rename_i ar;split
   ·intro e he;cases he
   ·split
    ·intro e he;cases he
    ·exact adj dY.1 dY.2.1 ar
 ·rename_i aM;intro _;obtain⟨b8,kept,hold,az⟩:=s;simp only at aM;subst aM;obtain⟨p,ae,bg,bO,bJ⟩:=dY;have bZ:kept≠[]:=by rintro rfl;simp only at ae bg;rw [ae]at bg;simp at bg
  have hlen:1≤kept.length:=List.length_pos_iff.2 bZ;exact Ij ae (.inr bJ) (.inl bZ) P2 fun _ s1 a b=>ac2 (s:=⟨.dc,kept,hold,az⟩) s1 a b hlen (by simp only at P2⊢; omega)
 ·rename_i aM;intro be;obtain⟨b8,kept,hold,az⟩:=s;simp only at aM;subst aM;obtain⟨p,ae,bg,bO⟩:=dY;simp only at p ae bg bO;unfold sequence at be⊢;split
  ·rename_i ar;rw [if_pos ar]at be;unfold done at be⊢;split
   ·intro e he;cases he
   ·rename_i aD;rw [if_neg aD]at be;cases b7:told (kept.drop 2) c with
    |none=>exact nc (yp (by simp) (by simp;omega))
    |some x =>
     refine nc ?_;show hQ x;rcases Pt b7 with a6|a6
     ·exact tf a6
     ·rw [a6];refine acX (by simp;omega) ?_
      have ks:step ⟨.sequence,kept,hold,az⟩ c=tell {kept:=kept++[c],b8:= .sequence,hold:=hold,az:=az} x:=by show sequence _ c=_;unfold sequence;rw [if_pos ar];unfold done;rw [if_neg aD];simp only [b7,Option.getD_some]
      refine abg (s:=⟨.sequence,kept,hold,az⟩) ⟨p,ae,bg,bO⟩ kb cq rfl ?_ rfl ?_
      ·rw [ks,a6];rfl
      ·rw [ks];rfl
  ·split
   ·exact P0 p (by simp only;omega) (by simp only;omega)
   ·split
    ·exact nc (yp (by simp) (by simp;omega))
    ·intro e he;cases he
 ·rename_i aM;intro _;obtain⟨b8,kept,hold,az⟩:=s;simp only at aM;subst aM;unfold single;split
  ·rename_i aS;exact nc (yq (HS aS) (by decide) (by decide))
  ·split
   ·exact nc (yq (by unfold kd;omega) (by decide) (by decide))
   ·split
    ·exact nc (yq (by unfold kd;omega) (by decide) (by decide))
    ·exact BY (tf (s9 (by decide) (by decide) (by decide))) (BZ rfl dY.1)
 ·rename_i aM;intro _;obtain⟨S,P,ac⟩:=cQ aM;have ks:step s c=cC s c:=by unfold step;rw [aM]
  rw [←ks];rcases BV ac c with ⟨h,_⟩|⟨h0,e,h,aD⟩
  ·rw [h];intro e he;cases he
  ·rw [h];exact nc (acW (by rw [List.length_take];omega) (acR (S:=S++[c]) (by rw [e];exact List.prefix_append _ _) aD _))
theorem adl{s:bI}(c:UInt8)(h:Holds s):Holds (step s c).1:=by
 refine⟨q1 c h.hN,abb c h.hN h.path,abf c h.hN h.seq,fun aM=> ?_⟩;by_cases ac:s.b8=.cC
 ·obtain⟨S,P,al⟩:=h.az ac;rcases BV al c with ⟨_,h0,aa⟩|⟨h0,_,aa,_⟩
  ·exact⟨_,_,aa⟩
  ·rw [aa]at aM;cases aM
 ·obtain⟨a,_⟩:=acU ac aM;have ah:=q1 c h.hN;rw [a]at ah⊢;obtain⟨g1,g2,g3,g4⟩:=ah;simp only at g1;refine⟨[],[],rfl,g1,rfl,?_,by simp,by simp,by simp⟩;have dY:=h.hN;obtain⟨b8,kept,hold,az⟩:=s;cases b8 with
  |ground=>exact dY.2.2
  |dw=>exact dY.2.2
  |dc=>exact dY.1
  |sequence=>exact dY.2.1
  |single=>exact dY.2.1
  |cC=>exact absurd rfl ac
theorem Ik:∀(b:Bytes){s:bI},Holds s→(∀e∈(ej s b).2,hQ e)∧Holds (ej s b).1
 |[],s,h=>⟨(by intro e he;cases he),h⟩
 |c::r,s,h=>by
  rw [ej];obtain⟨p,ae⟩:=Ik r (adl c h);refine⟨fun e he=> ?_,ae⟩;rcases List.mem_append.1 he with he|he
  ·exact adk c h e he
  ·exact p e he
theorem P3{s:bI}(h:Good s)(aM:s.b8≠ .cC):s.az=[]:=by
 obtain⟨b8,kept,hold,az⟩:=s;cases b8 with
 |ground=>exact h.2.2
 |dw=>exact h.2.2
 |dc=>exact h.1
 |sequence=>exact h.2.1
 |single=>exact h.2.1
 |cC=>exact absurd rfl aM
theorem adm{s:bI}(h:Holds s):(∀e∈(flush s).2,hQ e)∧(s.b8=.cC→flush s=(s,[]))∧(s.b8≠ .cC→held (flush s).1=0):=by
 have ao:=Ih h.hN;refine⟨?_,fun aM=>by unfold flush;rw [if_pos (.inl aM)],fun aM=> ?_⟩
 ·unfold flush;split
  ·intro e he;cases he
  ·rename_i aC;simp only [not_or]at aC;have:=List.length_pos_iff.2 aC.2;split
   ·exact nc (yq (by unfold kd;omega) (by decide) (by decide))
   ·split
    ·rename_i ar;rcases ar with ar|ar<;>(rw [ar];exact nc (tf (s9 (by decide) (by decide) (by decide))))
    ·exact nc (yp (by omega) (by omega))
 ·have ac:=P3 h.hN aM;unfold flush held;split
  ·rename_i aC;rcases aC with aC|aC
   ·exact absurd aC aM
   ·simp [aC,ac]
  ·split
   ·simp [tell,ac]
   ·split<;>simp [tell,ac]
theorem adn{s:bI}(h:Holds s)(aM:s.b8=.cC):∃t,ej s dE=(zero,[qe t])∧hQ (qe t):=by
 obtain⟨S,P,al⟩:=h.az aM;have du:dE.length=6:=rfl;have be:=PS dE S P s al (by decide) (fun i aB q=> ?_) S rfl
 ·refine⟨_,be,?_⟩;have:=(Ik dE h).1 (qe (S.take 65536)) (by rw [be];simp);exact this
 ·rw [List.length_append]at aB;rcases Nat.lt_or_ge S.length (i+6)with p|p
  ·obtain⟨C,aX⟩:∃C,S.length=i+C:=⟨S.length-i,by omega⟩
   obtain⟨u,hu⟩:=q;have g:=congrArg (fun l=>l[C]?) hu;simp only [List.getElem?_drop,List.getElem?_append]at g;rw [if_pos (by omega),if_neg (by omega),show i+C-S.length=0 by omega]at g;rcases (show C=1∨C=2∨C=3∨C=4∨C=5 by omega)with rfl|rfl|rfl|rfl|rfl<;>exact absurd g (by decide)
  ·have aS:=congrArg List.length al.all;rw [List.length_append]at aS;have:=al.short;refine(al.div i (by omega)).2 ?_;rw [List.drop_append_of_le_length (by omega)]at q;exact List.prefix_of_prefix_length_le q (List.prefix_append _ _) (by rw [List.length_drop];omega)
end Go.Keys
namespace Go.Proofs.YtddnafghiejcoaaGreatDoor
open Go.cH Go.Keys
set_option maxRecDepth 1000000
def gU(e:bw)(v:o)(aa:j):Prop :=
 ∃w c,v=.tuple [w,.int .i64 c]∧((∃bs C,ds e=some bs∧c=0∧eN aa C w bs)∨(ds e=none∧c=220∧w=.slice none 0 0))
theorem gU.new{e:bw}{w:o}{H:j}{C k:Nat}{bs:Bytes}(he:ds e=some bs)(g:eN H C w bs):gU e (.tuple [w,.int .i64 0]) ⟨H.next+k,H.aT⟩:=⟨_,_,rfl,.inl ⟨bs,C,he,rfl,g.cN rfl (by show H.next≤H.next+k;omega)⟩⟩
theorem gU.nil{e:bw}{aa:j}(he:ds e=none):gU e (.tuple [.slice none 0 0,.int .i64 220]) aa:=⟨_,_,rfl,.inr ⟨he,rfl,rfl⟩⟩
abbrev P4:FuncId:=21
def mf(e:bw):Prop:= ∃v aa,aI Tryz.prog aw P4 [di e] (j.of []) v aa∧gU e v aa
theorem ado(H:j):o6 44 H [.str [],.slice none 0 0] [27,91]:=by
 have ga:∀{a b:Nat}{I:Prop},a≤b→I→_root_.cond (Nat.ble a b) I False:=fun h k=>by rw [Nat.ble_eq.mpr h];exact k
 obtain⟨H1,av,ar,g1,kc,iL⟩:=HZ H;have g2:=g1.cN (aR:=⟨H1.next+8,H1.aT⟩) rfl (by show H1.next≤H1.next+8;omega);obtain⟨b,he,ae,bg,bO,bJ⟩:=g2.ex;simp only [o.slice.injEq,Option.some.injEq,bH.mk.injEq,true_and,and_true]at he
 have aS:hi env.D 34 (.slice (some ⟨H.next+1,0,0,0,1⟩) 2 2) (.str []) (H1.next+6) ⟨H1.next+8,H1.aT⟩=some (.slice (some ⟨H.next+1,0,0,0,1⟩) 2 2,⟨H1.next+8,H1.aT⟩) :=
  (sw u3 _).symm.trans (Ep (b:=b) u3 (by rfl) (by decide) (by decide) (fun a aS=>by cases aS;exact⟨ae,rfl,rfl⟩) (Nat.le_refl _) (fun h=>by cases h))
 obtain⟨w,aa,aD,rfl,rfl⟩:=PB H H1 ⟨H1.next+8,H1.aT⟩ (H.next+1) [] (.slice (some ⟨H.next+1,0,0,0,1⟩) 2 2) (fun w aa=>w=.slice (some ⟨H.next+1,0,0,0,1⟩) 2 2∧aa=⟨H1.next+8,H1.aT⟩)
  (bB (Nat.le_refl _) (bB (by omega) ⟨av _,ar _ rfl,bB (by omega) (bB (by omega) (bB (by omega) ⟨(yc _ _ _ _).trans aS,ga (by show H.next≤H1.next+8;omega) ⟨rfl,rfl⟩⟩))⟩))
 exact⟨_,_,H.next+1,aD,g2,by omega,iL⟩
theorem B2(H:j){t:Bytes}(b7:t.length≤62):o6 44 H [.str t,.slice none 0 0] (27::91::t):=by
 by_cases h:t=[]
 ·subst h;exact ado H
 ·exact abR H h (by omega)
theorem adp{e:bw}(ao:e.kind≠3)(hm:7<e.dX):ds e=none:=by unfold ds;rw [if_neg ao,if_pos hm]
theorem adq{e:bw}(ao:e.kind≠3)(hm:7<e.dX):mf e:=by obtain⟨v,aa,aD,rfl,_⟩:=ab2 e.kind e.code e.dX e.x e.y e.text (fun v aa=>v=.tuple [.slice none 0 0,.int .i64 220]∧True) ⟨by simp [ao],by simp;omega,rfl,trivial⟩;exact⟨_,_,aD,gU.nil (adp ao hm)⟩
theorem o7{m:Int}(h:¬7<m):some (o.bool (decide (m>7)))=some (o.bool false):=by simp;omega
theorem adr{c m:Int}(bm:0≤m)(hm:¬7<m):mf ⟨1,c,m,0,0,[]⟩:=by
 by_cases aq:shown c=true
 ·have ar:=(Pv aq).2.2.2;have lP:((m.toNat:Nat):Int)=m:=Int.toNat_of_nonneg bm;have he:ds ⟨1,c,m,0,0,[]⟩=some (lG c.toNat m.toNat):=by unfold ds;rw [if_neg (by simp),if_neg hm,if_pos ⟨rfl,rfl,aq⟩]
  obtain⟨w,H,C,aB,g,_,_⟩:=acJ (j.au 39 [(0,J.made [cU 1 c m 0 0 []] 6 true (some (42,6))),(4,J.made [cU 1 0 0 0 0 []] 6 true (some (42,6)))]) (r:=c.toNat) (m:=m.toNat) (by rw [ar];exact aq) (by omega);rw [ar,lP]at aB;obtain⟨b,rfl,_⟩:=g.ex;have hT:=ED c (j.au 33 [(0,J.made [cU 1 c m 0 0 []] 6 true (some (42,6))),(4,J.made [cU 1 0 0 0 0 []] 6 true (some (42,6)))]);rw [aq]at hT;obtain⟨v,aa,aD,rfl,rfl⟩:=ab3 H c m ⟨C,b.R,0,0,1⟩ (lG c.toNat m.toNat).length (fun v aa=>v=.tuple [.slice (some ⟨C,b.R,0,0,1⟩) (lG c.toNat m.toNat).length (lG c.toNat m.toNat).length,.int .i64 0]∧aa=⟨H.next+5,H.aT⟩) ⟨o7 hm,⟨hT⟩,⟨aB⟩,rfl,rfl⟩;exact⟨_,_,aD,gU.new he g⟩
 ·have he:ds ⟨1,c,m,0,0,[]⟩=none:=by unfold ds;rw [if_neg (by simp),if_neg hm,if_neg (fun q=>aq q.2.2),if_neg (fun q=>absurd q.1 (by simp)),if_neg (by simp),if_neg (by simp),if_neg (fun q=>absurd q.1 (by simp)),if_neg (fun q=>absurd q.1 (by simp))]
  have hT:=ED c (j.au 33 [(0,J.made [cU 1 c m 0 0 []] 6 true (some (42,6))),(4,J.made [cU 1 0 0 0 0 []] 6 true (some (42,6)))]);rw [Bool.eq_false_iff.2 aq]at hT;obtain⟨v,aa,aD,rfl,_⟩:=ab5 c m (fun v aa=>v=.tuple [.slice none 0 0,.int .i64 220]∧True) ⟨o7 hm,⟨hT⟩,rfl,trivial⟩;exact⟨_,_,aD,gU.nil he⟩
theorem ads{c m x y:Int}{t:Bytes}(hm:¬7<m)(ac:¬(x=0∧y=0∧t=[])):mf ⟨1,c,m,x,y,t⟩:=by
 have he:ds ⟨1,c,m,x,y,t⟩=none:=by unfold ds;rw [if_neg (by simp),if_neg hm,if_neg (fun q=>ac (by have:=q.2.1;simp only [BM,Bool.and_eq_true,decide_eq_true_eq]at this;exact⟨this.1.1,this.1.2,this.2⟩)),if_neg (fun q=>absurd q.1 (by simp)),if_neg (by simp),if_neg (by simp),if_neg (fun q=>absurd q.1 (by simp)),if_neg (fun q=>absurd q.1 (by simp))]
 obtain⟨v,aa,aD,rfl,_⟩:=ab4 c m x y t (fun v aa=>v=.tuple [.slice none 0 0,.int .i64 220]∧True) ⟨o7 hm,by simpa using ac,rfl,trivial⟩;exact⟨_,_,aD,gU.nil he⟩
theorem P5{c m:Int}(hm:¬7<m):ds ⟨2,c,m,0,0,[]⟩=if 0≤c then qb c.toNat m.toNat else none:=by unfold ds;rw [if_neg (by simp),if_neg hm,if_neg (fun q=>absurd q.1 (by simp)),if_pos ⟨rfl,rfl⟩]
theorem adt{c m:Int}(bm:0≤m)(hm:¬7<m):mf ⟨2,c,m,0,0,[]⟩:=by
 have lP:((m.toNat:Nat):Int)=m:=Int.toNat_of_nonneg bm;by_cases ao:me c
 ·have he:ds ⟨2,c,m,0,0,[]⟩=none:=by
   rw [P5 hm];split
   ·rename_i n4;exact ade (by rw [Int.toNat_of_nonneg n4];exact ao)
   ·rfl
  obtain⟨H,aB,_,_⟩:=ac' (j.au 48 [(0,J.made [cU 2 c m 0 0 []] 6 true (some (42,6))),(4,J.made [cU 2 0 0 0 0 []] 6 true (some (42,6)))]) (m:=m.toNat) ao (by omega);rw [lP]at aB;obtain⟨v,aa,aD,rfl,_⟩:=ab7 H c m (fun v aa=>v=.tuple [.slice none 0 0,.int .i64 220]∧True) ⟨o7 hm,⟨aB⟩,rfl,trivial⟩;exact⟨_,_,aD,gU.nil he⟩
 ·have n4:0≤c:=by unfold me at ao;omega
  have ar:((c.toNat:Nat):Int)=c:=Int.toNat_of_nonneg n4;obtain⟨bs,av,w,H,C,aB,g,_,_⟩:=adb (j.au 48 [(0,J.made [cU 2 c m 0 0 []] 6 true (some (42,6))),(4,J.made [cU 2 0 0 0 0 []] 6 true (some (42,6)))]) (k:=c.toNat) (m:=m.toNat) (by rw [ar];exact ao) (by omega);rw [ar,lP]at aB;have he:ds ⟨2,c,m,0,0,[]⟩=some bs:=by rw [P5 hm,if_pos n4,av]
  obtain⟨b,rfl,_⟩:=g.ex;obtain⟨v,aa,aD,rfl,rfl⟩:=ab6 H c m ⟨C,b.R,0,0,1⟩ bs.length (fun v aa=>v=.tuple [.slice (some ⟨C,b.R,0,0,1⟩) bs.length bs.length,.int .i64 0]∧aa=⟨H.next+5,H.aT⟩) ⟨o7 hm,⟨aB⟩,rfl,rfl⟩;exact⟨_,_,aD,gU.new he g⟩
theorem adu{c m x y:Int}{t:Bytes}(hm:¬7<m)(ac:¬(x=0∧y=0∧t=[])):mf ⟨2,c,m,x,y,t⟩:=by
 have he:ds ⟨2,c,m,x,y,t⟩=none:=by unfold ds;rw [if_neg (by simp),if_neg hm,if_neg (fun q=>absurd q.1 (by simp)),if_neg (fun q=>ac (by have:=q.2;simp only [BM,Bool.and_eq_true,decide_eq_true_eq]at this;exact⟨this.1.1,this.1.2,this.2⟩)),if_neg (by simp),if_neg (by simp),if_neg (fun q=>absurd q.1 (by simp)),if_neg (fun q=>absurd q.1 (by simp))]
 obtain⟨v,aa,aD,rfl,_⟩:=ab8 c m x y t (fun v aa=>v=.tuple [.slice none 0 0,.int .i64 220]∧True) ⟨o7 hm,by simpa using ac,rfl,trivial⟩;exact⟨_,_,aD,gU.nil he⟩
theorem adv{c m x y:Int}{t:Bytes}(hm:¬7<m):mf ⟨5,c,m,x,y,t⟩:=by
 by_cases aS:(⟨5,c,m,x,y,t⟩:bw)=⟨5,0,0,0,0,[]⟩
 ·rw [aS];obtain⟨w,H,C,aB,g,_,_⟩:=B2 (j.au 48 [(0,J.made [cU 5 0 0 0 0 []] 6 true (some (42,6))),(4,J.made [cU 5 0 0 0 0 []] 6 true (some (42,6)))]) (t:=[79]) (by decide);obtain⟨b,rfl,_⟩:=g.ex;obtain⟨v,aa,aD,rfl,rfl⟩:=ab9 H ⟨C,b.R,0,0,1⟩ _ (fun v aa=>v=.tuple [.slice (some ⟨C,b.R,0,0,1⟩) _ _,.int .i64 0]∧aa=⟨H.next+5,H.aT⟩) ⟨⟨aB⟩,rfl,rfl⟩;exact⟨_,_,aD,gU.new (bs:=27::91:: [79]) (by rfl) g⟩
 ·by_cases av:(⟨5,c,m,x,y,t⟩:bw)=⟨5,1,0,0,0,[]⟩
  ·rw [av];obtain⟨w,H,C,aB,g,_,_⟩:=B2 (j.au 52 [(0,J.made [cU 5 1 0 0 0 []] 6 true (some (42,6))),(4,J.made [cU 5 0 0 0 0 []] 6 true (some (42,6)))]) (t:=[73]) (by decide);obtain⟨b,rfl,_⟩:=g.ex;obtain⟨v,aa,aD,rfl,rfl⟩:=ab' H ⟨C,b.R,0,0,1⟩ _ (fun v aa=>v=.tuple [.slice (some ⟨C,b.R,0,0,1⟩) _ _,.int .i64 0]∧aa=⟨H.next+5,H.aT⟩) ⟨⟨aB⟩,rfl,rfl⟩;exact⟨_,_,aD,gU.new (bs:=27::91:: [73]) (by rfl) g⟩
  ·have he:ds ⟨5,c,m,x,y,t⟩=none:=by unfold ds;rw [if_neg (by simp),if_neg hm,if_neg (fun q=>absurd q.1 (by simp)),if_neg (fun q=>absurd q.1 (by simp)),if_neg aS,if_neg av,if_neg (fun q=>absurd q.1 (by simp)),if_neg (fun q=>absurd q.1 (by simp))]
   obtain⟨v,aa,aD,rfl,_⟩:=aca c m x y t (fun v aa=>v=.tuple [.slice none 0 0,.int .i64 220]∧True) ⟨o7 hm,by simpa using aS,by simpa using av,rfl,trivial⟩;exact⟨_,_,aD,gU.nil he⟩
theorem adw{k c m x y:Int}{t:Bytes}(bg:k≠3)(p:k≠1)(ae:k≠2)(bJ:k≠5)(bO:k≠4)(du:k≠6)(hm:¬7<m):mf ⟨k,c,m,x,y,t⟩:=by
 have he:ds ⟨k,c,m,x,y,t⟩=none:=by unfold ds;rw [if_neg bg,if_neg hm,if_neg (fun q=>p q.1),if_neg (fun q=>ae q.1),if_neg (fun q=>bJ (congrArg bw.kind q)),if_neg (fun q=>bJ (congrArg bw.kind q)),if_neg (fun q=>bO (congrArg bw.kind q.1)),if_neg (fun q=>du (congrArg bw.kind q.1))]
 obtain⟨v,aa,aD,rfl,_⟩:=acn k c m x y t (fun v aa=>v=.tuple [.slice none 0 0,.int .i64 220]∧True) ⟨by simp [bg],o7 hm,by simp [p],by simp [ae],by simp [bJ],by simp [bJ],by simp [bO],by simp [du],rfl,trivial⟩;exact⟨_,_,aD,gU.nil he⟩
abbrev hh(e:o):J:=J.made [e] 6 true (some (42,6))
theorem P6{h:j}{x:Nat}{k c m y z:Int}{t:Bytes}(e:h.get x=some (hh (cU k c m y z t))):cj (b4.D env) 42 ⟨x,0,0,0,6⟩ h=some (cU k c m y z t):=by
 have b5:(b4.D env 42).map (fun d=>(d.kind.isAgg,d.size))=some (true,6):=by kernel_rfl
 obtain⟨x,p,ae⟩:=Option.map_eq_some_iff.1 b5;simp only [Prod.mk.injEq]at ae;unfold cj;rw [p,e];simp [J.elem?,J.cE,iR,ae.1,ae.2,J.made]
theorem Il{h:j}{x:Nat}{k c m y z:Int}{t:Bytes}(e:h.get x=some (hh (cU k c m y z t))):cj (b4.D env) 9 ⟨x,0,0,5,6⟩ h=some (.str t):=by
 have b5:(b4.D env 9).map (fun d=>d.kind.isAgg)=some false:=by kernel_rfl
 obtain⟨x,p,ae⟩:=Option.map_eq_some_iff.1 b5;unfold cj;rw [p,e];simp [J.elem?,J.cE,iR,ae,J.made]
abbrev B3:J:=J.made [o.agg [o.int .i64 0,o.int .i64 1,o.int .i64 2,o.int .i64 0,o.int .i64 64,o.int .i64 65,o.int .i64 35]] 7 true (some (106,7))
theorem adx:∀c:Fin 7,n7 (b4.D env) 106 (o.agg [o.int .i64 0,o.int .i64 1,o.int .i64 2,o.int .i64 0,o.int .i64 64,o.int .i64 65,o.int .i64 35]) (o.int .i32 (c.val:Nat))=some (o.int .i64 (ix c.val:Nat)):=by
 intro c;rcases c with ⟨c,ar⟩
 rcases (show c=0∨c=1∨c=2∨c=3∨c=4∨c=5∨c=6 by omega)with rfl|rfl|rfl|rfl|rfl|rfl|rfl<;>kernel_rfl
theorem ady:∀c:Fin 7,∀m:Fin 8,cc .i64 (ix c.val:Nat) (e3 .i64 (m.val:Nat) 2)=((ix c.val+4*m.val:Nat):Int):=by decide+kernel
theorem P7{H H1:j}{C iz n:Nat}{bs:Bytes}(g:eN H C (.slice (some ⟨C,iz,0,0,1⟩) n n) bs)(ae:2<bs.length)(aB:bs.length<2^30):∃H1 aH v bk,(∀F,bX env eM (H.next+0) (bR F) ⟨H.next+6,H.aT⟩ (Op.buildSlice 34 3 {toList:=[(0,Operand.const (Value.int .u8 (27))),(1,Operand.const (Value.int .u8 (91))),(2,Operand.const (Value.int .u8 (60)))]})=some (o.slice (some ⟨H.next,0,0,0,1⟩) 3 3,H1)) ∧
 (∀F,bR F (.tmp 64)=o.slice (some ⟨H.next,0,0,0,1⟩) 3 3→eB env (H.next+1) (bR F) H1 (Op.convert 34 34 (Operand.tmp 64))=some (o.slice (some ⟨H.next,0,0,0,1⟩) 3 3,H1)) ∧
 gn env Builtin.append {toList:=[34,34]} [o.slice (some ⟨H.next,0,0,0,1⟩) 3 3,o.slice (some ⟨C,iz,2,0,1⟩) (n-2) (n-2)] (H.next+4) H1=some (v,aH)∧eN aH bk v (27::91::60::bs.drop 2):=by
 have iJ:=BU (H:=H) (y:=H.next) (J.made (aJ [27,91,60]) 1 true) 6 (by omega);have kc:((⟨H.next+6,H.aT⟩:j).set H.next (J.made (aJ [27,91,60]) 1 true)).next=H.next+6:=rfl
 have BR:=g.lt;have g1:eN ((⟨H.next+6,H.aT⟩:j).set H.next (J.made (aJ [27,91,60]) 1 true)) C (.slice (some ⟨C,iz,0,0,1⟩) n n) bs:=g.cN (j.e1 _ _ (by omega)) (by omega);have ko:eN ((⟨H.next+6,H.aT⟩:j).set H.next (J.made (aJ [27,91,60]) 1 true)) H.next (.slice (some ⟨H.next,0,0,0,1⟩) 3 3) [27,91,60]:=eN.made (bs:=[27,91,60]) iJ (by omega) (fun h=>by cases h)
 obtain⟨v,aH,bk,aS,g2,_,_,_⟩:=ko.gy (bh:=H.next+4) (g1.drop (k:=2) (by omega)) (by
  intro h;have:=congrArg List.length h
  rw [List.length_drop,List.length_nil]at this;omega) (by rw [List.length_drop];simp only [List.length_cons,List.length_nil];omega) (by omega)
 exact⟨_,aH,v,bk,(fun F=>by kernel_rfl),fun F a6=>yd a6 iJ rfl rfl (by decide),(BQ _ _ _ _).trans aS,g2⟩
theorem P8{H:j}{q b x y:Nat}{e:Bytes}(he:e≠[])(fC:e.length=1)(ah:H.get q=some (rE [b,x,y]))(aC:q<H.next)(av:b<10000000)(af:x<10000000)(bY:y<10000000):o6 44 H [.str e,.slice (some ⟨q,0,0,0,1⟩) 3 3] (gE e [b,x,y]) :=
 H0 (l:=[b,x,y]) ah aC (by simp) (by intro n aM;simp only [List.mem_cons,List.not_mem_nil,or_false]at aM;rcases aM with rfl|rfl|rfl<;>omega) he (by omega)
theorem P9:Int.NonNeg (2-0):=(show(0:Int)≤2 by decide)
theorem P'{n i k:Nat}{h aa:j}{b:J}(e:aa=(⟨h.next+k,h.aT⟩:j).set i b)(al:n≤i):qo n h aa=true:=by subst e;exact JG fun x af=>by rw [j.e1 _ _ (by omega)];rfl
theorem adz(H:j){c m x y:Nat}(ar:c≤6)(hm:m≤7)(af:x<4096)(bY:y<4096):o6 40 H [cU 3 c m x y []] (o1 c m x y):=by
 have al:=adx ⟨c,by omega⟩;have ai:=ady ⟨c,by omega⟩ ⟨m,by omega⟩;simp only at al ai;have t':ix c+4*m<1000:=(acO ⟨c,by omega⟩ ⟨m,by omega⟩).2.2
 have tc:∀e:UInt8,(gE [e] [ix c+4*m,x+1,y+1]).length<2^30∧2<(gE [e] [ix c+4*m,x+1,y+1]).length:=by intro e;have:=BS [ix c+4*m,x+1,y+1] (by intro n aM;simp only [List.mem_cons,List.not_mem_nil,or_false]at aM;rcases aM with rfl|rfl|rfl<;>omega);unfold gE;simp only [List.length_cons,List.length_append,List.length_nil]at this⊢;omega
 have gx:∀a∈ [cU (3:Int) c m x y []],cT a:=fun a aS=>by rw [List.mem_singleton.1 aS];exact cT.of rfl
 by_cases bg:c=3
 ·obtain⟨w,K,C,aB,g,_,hold⟩:=P8 (H:=j.au 67 [(0,hh (cU 3 c m x y [])),(61,J.made [o.int .i64 ((ix c+4*m:Nat):Int),o.int .i64 ((x:Int)+1),o.int .i64 ((y:Int)+1)] 1 true),(64,B3)]) (q:=61) (b:=ix c+4*m) (x:=x+1) (y:=y+1) (e:=[109]) (by simp) rfl (by rfl) (by show(61:Nat)<67;decide) (by omega) (by omega) (by omega);obtain⟨b,rfl,_⟩:=g.ex;obtain⟨H1,aH,v,bk,hE,lO,aS,g2⟩:=P7 g (tc 109).2 (tc 109).1 (H1:=K)
  obtain⟨bp,aa,aD,rfl,rfl⟩:=acy K H1 aH c m x y (ix c) C b.R (gE [109] [ix c+4*m,x+1,y+1]).length K.next v (fun bp aa=>bp=v∧aa=aH)
   ⟨rfl,by simp;omega,by simp;omega,rfl,by simp;omega,rfl,by simp;omega,rfl,by simp [bg],P' (n:=64) (i:=64) (k:=3) (b:=B3) (by kernel_rfl) (by omega),al,by omega,P9,trivial,by omega,by omega,by rw [ai];exact⟨aB⟩,hE _,lO _ rfl,⟨by omega,by have:=(tc 109).2;omega,Nat.le_refl _⟩,aS,rfl,rfl⟩
  have e:o1 c m x y=27::91::60::(gE [109] [ix c+4*m,x+1,y+1]).drop 2:=by unfold o1 gE;rw [if_pos bg];rfl
  rw [e];exact o6.of aD g2 gx H
 ·obtain⟨w,K,C,aB,g,_,hold⟩:=P8 (H:=j.au 66 [(0,hh (cU 3 c m x y [])),(60,J.made [o.int .i64 ((ix c+4*m:Nat):Int),o.int .i64 ((x:Int)+1),o.int .i64 ((y:Int)+1)] 1 true),(63,B3)]) (q:=60) (b:=ix c+4*m) (x:=x+1) (y:=y+1) (e:=[77]) (by simp) rfl (by rfl) (by show(60:Nat)<66;decide) (by omega) (by omega) (by omega);obtain⟨b,rfl,_⟩:=g.ex;obtain⟨H1,aH,v,bk,hE,lO,aS,g2⟩:=P7 g (tc 77).2 (tc 77).1 (H1:=K)
  obtain⟨bp,aa,aD,rfl,rfl⟩:=acx K H1 aH c m x y (ix c) C b.R (gE [77] [ix c+4*m,x+1,y+1]).length K.next v (fun bp aa=>bp=v∧aa=aH)
   ⟨rfl,by simp;omega,by simp;omega,rfl,by simp;omega,rfl,by simp;omega,rfl,by simp;omega,P' (n:=63) (i:=63) (k:=3) (b:=B3) (by kernel_rfl) (by omega),al,by omega,P9,trivial,by omega,by omega,by rw [ai];exact⟨aB⟩,hE _,lO _ rfl,⟨by omega,by have:=(tc 77).2;omega,Nat.le_refl _⟩,aS,rfl,rfl⟩
  have e:o1 c m x y=27::91::60::(gE [77] [ix c+4*m,x+1,y+1]).drop 2:=by unfold o1 gE;rw [if_neg bg];rfl
  rw [e];exact o6.of aD g2 gx H
theorem Qa(c m x y:Int)(t:Bytes):ds ⟨3,c,m,x,y,t⟩=if s' ⟨3,c,m,x,y,t⟩=true then some (o1 c.toNat m.toNat x.toNat y.toNat)else none:=by unfold ds;rw [if_pos rfl]
theorem adA{c m x y:Int}{t:Bytes}(h:s' ⟨3,c,m,x,y,t⟩≠true)(H:j):u9 40 H [cU 3 c m x y t]:=by
 have fin:(∃v aa,aI Tryz.prog aw 40 [cU 3 c m x y t] ⟨0,.nil⟩ v aa∧v=.slice none 0 0)→u9 40 H [cU 3 c m x y t]:=by rintro ⟨v,aa,aD,rfl⟩;exact u9.of aD (fun a aS=>by rw [List.mem_singleton.1 aS];exact cT.of rfl) H
 apply fin;by_cases p:c<0
 ·exact aco c m x y t (fun v _=>v=.slice none 0 0) ⟨by simp [p],rfl⟩
 by_cases ae:c>6
 ·exact acp c m x y t (fun v _=>v=.slice none 0 0) ⟨by simp;omega,by simp [ae],rfl⟩
 by_cases bg:m>7
 ·exact acq c m x y t (fun v _=>v=.slice none 0 0) ⟨by simp;omega,by simp;omega,by simp [bg],rfl⟩
 by_cases bO:x<0
 ·exact acr c m x y t (fun v _=>v=.slice none 0 0) ⟨by simp;omega,by simp;omega,by simp;omega,by simp [bO],rfl⟩
 by_cases bJ:x≥4096
 ·exact acs c m x y t (fun v _=>v=.slice none 0 0) ⟨by simp;omega,by simp;omega,by simp;omega,by simp;omega,by simp [bJ],rfl⟩
 by_cases du:y<0
 ·exact acu c m x y t (fun v _=>v=.slice none 0 0) ⟨by simp;omega,by simp;omega,by simp;omega,by simp;omega,by simp;omega,by simp [du],rfl⟩
 by_cases cI:y≥4096
 ·exact acv c m x y t (fun v _=>v=.slice none 0 0) ⟨by simp;omega,by simp;omega,by simp;omega,by simp;omega,by simp;omega,by simp;omega,by simp [cI],rfl⟩
 have cr:t≠[]:=by intro b7;apply h;simp only [s',Bool.and_eq_true,decide_eq_true_eq];exact⟨⟨⟨⟨⟨⟨⟨by omega,by omega⟩,by omega⟩,by omega⟩,by omega⟩,by omega⟩,by omega⟩,b7⟩
 exact acw c m x y t (fun v _=>v=.slice none 0 0) ⟨by simp;omega,by simp;omega,by simp;omega,by simp;omega,by simp;omega,by simp;omega,by simp;omega,by simp [cr],rfl⟩
theorem adB{c m x y:Int}{t:Bytes}(bm:0≤m):mf ⟨3,c,m,x,y,t⟩:=by
 by_cases ao:s' ⟨3,c,m,x,y,t⟩=true
 ·have he:=Qa c m x y t;rw [if_pos ao]at he;simp only [s',Bool.and_eq_true,decide_eq_true_eq]at ao;obtain⟨⟨⟨⟨⟨⟨⟨n4,kp⟩,m7⟩,jB⟩,ko⟩,PY⟩,pn⟩,rfl⟩:=ao;obtain⟨w,H,C,aB,g,_,_⟩:=adz (j.au 18 [(0,hh (cU 3 c m x y [])),(4,hh (cU 3 0 0 x y []))]) (c:=c.toNat) (m:=m.toNat) (x:=x.toNat) (y:=y.toNat) (by omega) (by omega) (by omega) (by omega);rw [Int.toNat_of_nonneg n4,Int.toNat_of_nonneg bm,Int.toNat_of_nonneg jB,Int.toNat_of_nonneg PY]at aB;obtain⟨b,rfl,_⟩:=g.ex;obtain⟨v,aa,aD,rfl,rfl⟩:=ab0 H c m x y [] ⟨C,b.R,0,0,1⟩ (o1 c.toNat m.toNat x.toNat y.toNat).length (fun v aa=>v=.tuple [.slice (some ⟨C,b.R,0,0,1⟩) (o1 c.toNat m.toNat x.toNat y.toNat).length (o1 c.toNat m.toNat x.toNat y.toNat).length,.int .i64 0]∧aa=⟨H.next+5,H.aT⟩) ⟨⟨aB⟩,rfl,rfl⟩;exact⟨_,_,aD,gU.new he g⟩
 ·have he:=Qa c m x y t;rw [if_neg ao]at he;obtain⟨H,aB,_,_⟩:=adA ao (j.au 18 [(0,hh (cU 3 c m x y t)),(4,hh (cU 3 0 0 x y t))]);obtain⟨v,aa,aD,rfl,_⟩:=ab1 H c m x y t (fun v aa=>v=.tuple [.slice none 0 0,.int .i64 220]∧True) ⟨⟨aB⟩,rfl,trivial⟩;exact⟨_,_,aD,gU.nil he⟩
theorem Im(t:Bytes):ds ⟨4,0,0,0,0,t⟩=if t.length≤65536∧hasEnd t=false then some (qc++(t++dE))else none:=by
 unfold ds;rw [if_neg (by simp),if_neg (by simp),if_neg (fun q=>absurd q.1 (by simp)),if_neg (fun q=>absurd q.1 (by simp)),if_neg (by simp),if_neg (by simp)];by_cases h:t.length≤65536∧hasEnd t=false
 ·rw [if_pos ⟨rfl,h⟩,if_pos h]
 ·rw [if_neg (fun q=>h q.2),if_neg h,if_neg (fun q=>absurd q.1 (by simp))]
theorem adC{c m x y:Int}{t:Bytes}(hm:¬7<m)(h:¬(c=0∧m=0∧x=0∧y=0)):mf ⟨4,c,m,x,y,t⟩:=by
 have he:ds ⟨4,c,m,x,y,t⟩=none:=by unfold ds;rw [if_neg (by simp),if_neg hm,if_neg (fun q=>absurd q.1 (by simp)),if_neg (fun q=>absurd q.1 (by simp)),if_neg (by simp),if_neg (by simp),if_neg (fun q=>h (by simpa using q.1)),if_neg (fun q=>absurd q.1 (by simp))]
 obtain⟨v,aa,aD,rfl,_⟩:=acd c m x y t (fun v aa=>v=.tuple [.slice none 0 0,.int .i64 220]∧True) ⟨o7 hm,by simpa using h,rfl,trivial⟩;exact⟨_,_,aD,gU.nil he⟩
theorem adD(t:Bytes):mf ⟨4,0,0,0,0,t⟩:=by
 by_cases aB:t.length≤65536
 ·have B4:=adi t aB (j.au 68 [(0,hh (cU 4 0 0 0 0 t)),(4,hh (cU 4 0 0 0 0 t))]);cases bQ:hasEnd t with
  |true =>
   have he:ds ⟨4,0,0,0,0,t⟩=none:=by rw [Im,if_neg (fun q=>by rw [bQ]at q;exact absurd q.2 (by simp))]
   rw [bQ]at B4;obtain⟨v,aa,aD,rfl,_⟩:=acf t (fun v aa=>v=.tuple [.slice none 0 0,.int .i64 220]∧True) ⟨by simp,by simp;omega,⟨B4⟩,rfl,trivial⟩;exact⟨_,_,aD,gU.nil he⟩
  |false =>
   have he:ds ⟨4,0,0,0,0,t⟩=some (qc++(t++dE)):=by rw [Im,if_pos ⟨aB,bQ⟩]
   rw [bQ]at B4;obtain⟨w,H,C,dV,g,aX,ai⟩:=H0 (H:=j.au 75 [(0,hh (cU 4 0 0 0 0 t)),(4,hh (cU 4 0 0 0 0 t)),(68,rE [200])]) (q:=68) (c:=1) (l:=[200]) (e:=[126]) rfl (by show(68:Nat)<75;decide) (by simp) (by simp) (by simp) (by simp);have aX:75≤C:=aX;have BR:=g.lt
   have adE:gE [126] [200]=qc:=by unfold gE hY;rw [ta (by decide),ta (by decide),tb (by decide)];rfl
   rw [adE]at g;have bm:H.get 0=some (hh (cU 4 0 0 0 0 t)):=ai 0 (by show(0:Nat)<75;decide);obtain⟨b,rfl,_⟩:=g.ex;obtain⟨v2,H1,bk,aS,g2,_,_,_⟩:=g.gy (bh:=73) (x:= .str (t++dE)) (new:=t++dE) (by rfl) (by simp [dE]) (by simp [qc,dE];omega) (by omega);obtain⟨bW,rfl,_⟩:=g2.ex
   obtain⟨v,aa,aD,rfl,rfl⟩:=acb H H1 t ⟨C,b.R,0,0,1⟩ ⟨bk,bW.R,0,0,1⟩ qc.length (qc++(t++dE)).length (fun v aa=>v=.tuple [.slice (some ⟨bk,bW.R,0,0,1⟩) (qc++(t++dE)).length (qc++(t++dE)).length,.int .i64 0]∧aa=⟨H1.next+5,H1.aT⟩)
    ⟨by simp,by simp;omega,⟨B4⟩,⟨dV⟩,JG (fun i al=>ai i al),Il bm,by show Nat.le (Nat.succ (t.length+6)) (2^62);show t.length+6+1≤2^62;omega,(yc _ _ _ _).trans aS,.inr (by exact aX),rfl,rfl⟩
   exact⟨_,_,aD,gU.new he g2⟩
 ·have he:ds ⟨4,0,0,0,0,t⟩=none:=by rw [Im,if_neg (fun q=>aB q.1)]
  obtain⟨v,aa,aD,rfl,_⟩:=ace t (fun v aa=>v=.tuple [.slice none 0 0,.int .i64 220]∧True) ⟨by simp,by simp;omega,rfl,trivial⟩;exact⟨_,_,aD,gU.nil he⟩
theorem Qb(t:Bytes):ds ⟨6,0,0,0,0,t⟩=if t.length≤62 then(if(ej zero (27::91::t)).2=[⟨6,0,0,0,0,t⟩]∧held (ej zero (27::91::t)).1=0 then some (27::91::t)else none)else none:=by
 unfold ds;rw [if_neg (by simp),if_neg (by simp),if_neg (fun q=>absurd q.1 (by simp)),if_neg (fun q=>absurd q.1 (by simp)),if_neg (by simp),if_neg (by simp),if_neg (fun q=>absurd q.1 (by simp))];by_cases h:t.length≤62
 ·rw [if_pos ⟨rfl,h⟩,if_pos h]
 ·rw [if_neg (fun q=>h q.2),if_neg h]
theorem adF{c m x y:Int}{t:Bytes}(hm:¬7<m)(h:¬(c=0∧m=0∧x=0∧y=0)):mf ⟨6,c,m,x,y,t⟩:=by
 have he:ds ⟨6,c,m,x,y,t⟩=none:=by unfold ds;rw [if_neg (by simp),if_neg hm,if_neg (fun q=>absurd q.1 (by simp)),if_neg (fun q=>absurd q.1 (by simp)),if_neg (by simp),if_neg (by simp),if_neg (fun q=>absurd q.1 (by simp)),if_neg (fun q=>h (by simpa using q.1))]
 obtain⟨v,aa,aD,rfl,_⟩:=ack c m x y t (fun v aa=>v=.tuple [.slice none 0 0,.int .i64 220]∧True) ⟨o7 hm,by simpa using h,rfl,trivial⟩;exact⟨_,_,aD,gU.nil he⟩
theorem eV.made{K yr:j}(aM:K.next≤yr.next)(ai:∀x,x<K.next→yr.get x=K.get x)(c:Nat→Nat)(k:Nat):eV K yr c (fun x=>if x<K.next then c x else k) []:=⟨aM,fun x af _=>ai x af,fun x af _=>if_pos af⟩
theorem eN.hB{H:j}{C:Nat}{v:o}{bs:Bytes}{cG:Nat→Nat}{c:Nat}(g:eN H C v bs)(ar:cG C=c):∃R,v=.slice (some ⟨C,R,0,0,1⟩) bs.length bs.length∧s8 H cG c (some ⟨C,R,0,0,1⟩) bs:=by obtain⟨b,rfl,ae,bg,bO,bJ⟩:=g.ex;refine⟨b.R,rfl,⟨.inr ⟨C,b.R,0,rfl,⟨b,ae,fun i al=> ?_⟩,g.lt,ar⟩⟩⟩;simp [J.elem?,J.cE,bO,aJ,al]
theorem Io{s:bI}(h:Keys.Good s):s.kept.length<2^40∧s.az.length<2^40:=by
 have ao:=Ih h;refine⟨by omega,?_⟩;by_cases aM:s.b8=.cC
 ·obtain⟨b8,kept,hold,az⟩:=s;simp only at aM;subst aM;obtain⟨_,_,_,bO⟩:=h;simp only at bO⊢;omega
 ·rw [P3 h aM];simp
theorem adG(t:Bytes):mf ⟨6,0,0,0,0,t⟩:=by
 by_cases aB:t.length≤62
 rotate_left
 ·have he:ds ⟨6,0,0,0,0,t⟩=none:=by rw [Qb,if_neg aB]
  obtain⟨v,aa,aD,rfl,_⟩:=acm t (fun v aa=>v=.tuple [.slice none 0 0,.int .i64 220]∧True) ⟨by simp,by simp;omega,rfl,trivial⟩;exact⟨_,_,aD,gU.nil he⟩
 have B5:some (o.bool (decide ((t.length:Int)≤62)))=some (o.bool true):=by simp;omega
 have he:=Qb t;rw [if_pos aB]at he;obtain⟨H1,d,aF,dJ,a1,adH,m1⟩:=jg.new (j.au 82 [(0,hh (cU 6 0 0 0 0 t)),(4,hh (cU 6 0 0 0 0 t))]) (fun _=>0) 1;have kc:82≤H1.next:=m1.next
 have f1:=eV.fresh H1 dJ 6;obtain⟨rH,aH,C,dV,g2,aX,gP⟩:=B2 ⟨H1.next+6,H1.aT⟩ aB;have aX:H1.next+6≤C:=aX
 have BR:=g2.lt;have m2:=eV.made (K:=⟨H1.next+6,H1.aT⟩) (yr:=aH) (by show H1.next+6≤aH.next;omega) gP (fresh H1 dJ) 5;obtain⟨R,rfl,adI⟩:=g2.hB (cG:=fun x=>if x<H1.next+6 then fresh H1 dJ x else 5) (c:=5) (by show(if C<H1.next+6 then _ else 5)=5;rw [if_neg (by omega)]);have adJ:=(adH.fp f1 (by simp)).fp m2 (by simp);obtain⟨aW,dS,oX,fR,fi,Qc,oI,m3⟩:=adJ.feed (m:=(27::91::t).length) uX (by simp only [List.length_cons];omega) adI (by decide);have xO:=((m1.trans f1).trans m2).trans m3;have jf:=xO.next
 have jf:82≤aW.next:=jf
 have jZ:aW.get 0=some (hh (cU 6 0 0 0 0 t)):=(xO.get 0 (by show(0:Nat)<82;decide) (by decide)).trans rfl;have fM:cj (b4.D env) 9 ⟨0,0,0,5,6⟩ ⟨H1.next+6,H1.aT⟩=some (.str t):=Il (h:=⟨H1.next+6,H1.aT⟩) ((m1.get 0 (by show(0:Nat)<82;decide) (by decide)).trans rfl);have pP:cj (b4.D env) 42 ⟨0,0,0,0,6⟩ ⟨aW.next+15,aW.aT⟩=some (cU 6 0 0 0 0 t):=P6 (h:=⟨aW.next+15,aW.aT⟩) jZ;have hzero:zero=ji:=rfl;rw [hzero]at he;have dY:=Aj (27::91::t) uX;have cq:=Io dY;generalize cs:(ej ji (27::91::t)).2=es at oI he;generalize eQ:(ej ji (27::91::t)).1=c6 at Qc he dY cq
 have zc:∃a7,dS=.slice a7 es.length es.length:=by
  rcases oI.ex with ⟨rfl,ae⟩|⟨_,U,_,_,ys,mc,f,rfl,_⟩
  ·have:es=[]:=by simpa using ae
   rw [this];exact⟨none,rfl⟩
  ·exact⟨_,by rw [List.length_map]⟩
 by_cases p:es.length=1
 rotate_left
 ·obtain⟨a7,rfl⟩:=zc
  have jF:ds ⟨6,0,0,0,0,t⟩=none:=by rw [he,if_neg];rintro ⟨q,_⟩;rw [q]at p;exact p rfl
  obtain⟨v,aa,aD,rfl,_⟩:=acg H1 aH aW aW aW t d (27::91::t).length es.length ⟨C,R,0,0,1⟩ a7 (fun v aa=>v=.tuple [.slice none 0 0,.int .i64 220]∧True)
   ⟨by simp,B5,⟨a1⟩,fM,⟨dV⟩,⟨fi⟩,by simp;omega,rfl,trivial⟩
  exact⟨_,_,aD,gU.nil jF⟩
 obtain⟨x,rfl⟩:∃x,es=[x]:=by
  cases es with
  |nil=>simp at p
  |cons x r =>
   have:r=[]:=by simpa using p
   rw [this];exact⟨x,rfl⟩
 obtain⟨U,cJ,_⟩:=BJ oI;obtain⟨ys,afE,k1,rfl,adK,Ip⟩:=cJ.cases;have rx:cj (b4.D env) 42 ⟨U,ys,0,0,6⟩ ⟨aW.next+15,aW.aT⟩=some (di x):=x5 (i:=0) (h:=⟨aW.next+15,aW.aT⟩) adK (by simp);by_cases af:x=⟨6,0,0,0,0,t⟩
 rotate_left
 ·have jF:ds ⟨6,0,0,0,0,t⟩=none:=by rw [he,if_neg];rintro ⟨q,_⟩;exact af (by simpa using q)
  obtain⟨v,aa,aD,rfl,_⟩:=ach H1 aH aW aW aW t d (27::91::t).length U ys ⟨C,R,0,0,1⟩ ⟨0,0,0,0,0⟩ 0 x.kind x.code x.dX x.x x.y x.text (fun v aa=>v=.tuple [.slice none 0 0,.int .i64 220]∧True)
   ⟨by simp,B5,⟨a1⟩,fM,⟨dV⟩,⟨fi⟩,rx,Ip,pP,by omega,by
    have:¬(x.kind=6∧x.code=0∧x.dX=0∧x.x=0∧x.y=0∧x.text=t):=by rintro ⟨a,b,c,d,e,f⟩;apply af;obtain⟨k,fr,m,y,z,u⟩:=x;simp only at a b c d e f;subst a b c d e f;rfl
    simpa using this,rfl,trivial⟩
  exact⟨_,_,aD,gU.nil jF⟩
 subst af;obtain⟨bV,aaR,kP,iD,afF,m4,cp⟩:=(Qc.fp (eV.fresh aW fR 15) (by simp)).held cq.1 cq.2;have cp:aW.next+15<bV.next:=cp
 by_cases bm:held c6=0
 rotate_left
 ·have jF:ds ⟨6,0,0,0,0,t⟩=none:=by rw [he,if_neg (fun q=>bm q.2)]
  obtain⟨v,aa,aD,rfl,_⟩:=aci H1 aH aW bV bV t d (27::91::t).length U ys ⟨C,R,0,0,1⟩ ⟨0,0,0,0,0⟩ 0 (.undef) (held c6:Nat) (fun v aa=>v=.tuple [.slice none 0 0,.int .i64 220]∧True)
   ⟨by simp,B5,⟨a1⟩,fM,⟨dV⟩,⟨fi⟩,rx,Ip,pP,by omega,by simp,⟨iD⟩,by simp;omega,rfl,trivial⟩
  exact⟨_,_,aD,gU.nil jF⟩
 rw [bm]at iD;have jF:ds ⟨6,0,0,0,0,t⟩=some (27::91::t):=by rw [he,if_pos ⟨rfl,bm⟩]
 have adL:=(xO.trans (eV.fresh aW fR 15)).trans m4;have Cc:bV.get 0=some (hh (cU 6 0 0 0 0 t)):=(adL.get 0 (by show(0:Nat)<82;decide) (by decide)).trans rfl;obtain⟨afG,eI,Qd,adM,g5,_,_⟩:=B2 ⟨bV.next+4,bV.aT⟩ aB;obtain⟨Qe,rfl,_⟩:=g5.ex
 obtain⟨v,aa,aD,rfl,rfl⟩:=acj H1 aH aW bV eI t d (27::91::t).length U ys ⟨C,R,0,0,1⟩ ⟨Qd,Qe.R,0,0,1⟩ (27::91::t).length (.undef) 0 (fun v aa=>v=.tuple [.slice (some ⟨Qd,Qe.R,0,0,1⟩) (27::91::t).length (27::91::t).length,.int .i64 0]∧aa=⟨eI.next+5,eI.aT⟩)
  ⟨by simp,B5,⟨a1⟩,fM,⟨dV⟩,⟨fi⟩,rx,Ip,pP,by omega,by simp,⟨iD⟩,Il (h:=⟨bV.next+4,bV.aT⟩) Cc,⟨adM⟩,rfl,rfl⟩
 exact⟨_,_,aD,gU.new jF g5⟩
theorem adN{e:bw}(bm:0≤e.dX):mf e:=by
 obtain⟨k,c,m,x,y,t⟩:=e;simp only at bm;by_cases bg:k=3
 ·subst bg;exact adB bm
 by_cases hm:7<m
 ·exact adq bg hm
 by_cases p:k=1
 ·subst p;by_cases ac:x=0∧y=0∧t=[]
  ·obtain⟨rfl,rfl,rfl⟩:=ac;exact adr bm hm
  ·exact ads hm ac
 by_cases ae:k=2
 ·subst ae;by_cases ac:x=0∧y=0∧t=[]
  ·obtain⟨rfl,rfl,rfl⟩:=ac;exact adt bm hm
  ·exact adu hm ac
 by_cases bJ:k=5
 ·subst bJ;exact adv hm
 by_cases bO:k=4
 ·subst bO;by_cases ac:c=0∧m=0∧x=0∧y=0
  ·obtain⟨rfl,rfl,rfl,rfl⟩:=ac;exact adD t
  ·exact adC hm ac
 by_cases du:k=6
 ·subst du;by_cases ac:c=0∧m=0∧x=0∧y=0
  ·obtain⟨rfl,rfl,rfl,rfl⟩:=ac;exact adG t
  ·exact adF hm ac
 exact adw bg p ae bJ bO du hm
theorem adO(H:j){e:bw}(bm:0≤e.dX) :
 ∃w c aR,aI Tryz.prog aw P4 [di e] H (.tuple [w,.int .i64 c]) aR∧H.next≤aR.next∧(∀x,x<H.next→aR.get x=H.get x)∧((∃bs C,ds e=some bs∧c=0∧eN aR C w bs∧H.next≤C)∨(ds e=none∧c=220∧w=.slice none 0 0)):=by
 obtain⟨v,aa,aD,w,c,rfl,aC⟩:=adN bm;obtain⟨aR,hH,aM,ah,ai⟩:=Ib aD (fun a aS=>by rw [List.mem_singleton.1 aS];exact cT.of rfl) H;rcases aC with ⟨bs,C,dK,rfl,g⟩|⟨dK,rfl,rfl⟩
 ·exact⟨_,_,aR,hH,by omega,ai,.inl ⟨bs,H.next+C,dK,rfl,g.place aM ah,by omega⟩⟩
 ·exact⟨_,_,aR,hH,by omega,ai,.inr ⟨dK,rfl,rfl⟩⟩
abbrev kD(U:Nat)(ad:Nat)(n:Nat):o:=o.slice (some ⟨U,ad,0,0,6⟩) n n
theorem adP(H H1 aH aW:j)(B U ad n i x:Nat)(t:Bytes)(ab:dj→bT→j→Prop)(aY:bF B (H.next) (((i:Int)<(n:Int)→bF B (H.next+4) ((0≤(i:Int)∧(i:Int)<(n:Int))∧cj env.D 40 ⟨U,ad,0+Int.toNat (i:Int),0,6⟩ (j.mk (H.next+10) (H.2))=some (.int .i8 7)∧bF B (H.next+10) ((0≤(i:Int)∧(i:Int)<(n:Int))∧cj env.D 42 ⟨U,ad,0+Int.toNat (i:Int),0,6⟩ (j.mk (H.next+16) (H.2))=some ((uW t))∧bX env eM (H.next+14) (bR [(67,(uW t)),(66,.ptr (some ⟨U,ad,0+Int.toNat (i:Int),0,6⟩)),(65,.int .i64 (i:Int)),(64,(kD U ad n)),(63,.bool true),(62,.int .i8 7),(61,.ptr (some ⟨U,ad,0+Int.toNat (i:Int),0,6⟩)),(60,.ptr (some ⟨U,ad,0+Int.toNat (i:Int),0,6⟩)),(59,.int .i64 (i:Int)),(58,(kD U ad n)),(55,.bool true),(54,.int .i64 (n:Int)),(53,(kD U ad n)),(52,.int .i64 (i:Int)),(2,.bool false),(4,(kD U ad n)),(7,.int .i64 (i:Int))]) (j.mk (H.next+16) (H.2)) (Op.alloc 42)=some (o.ptr (some ⟨x,0,0,0,6⟩),H1)∧bX env eM (H.next+15) (bR [(8,.ptr (some ⟨x,0,0,0,6⟩)),(67,(uW t)),(66,.ptr (some ⟨U,ad,0+Int.toNat (i:Int),0,6⟩)),(65,.int .i64 (i:Int)),(64,(kD U ad n)),(63,.bool true),(62,.int .i8 7),(61,.ptr (some ⟨U,ad,0+Int.toNat (i:Int),0,6⟩)),(60,.ptr (some ⟨U,ad,0+Int.toNat (i:Int),0,6⟩)),(59,.int .i64 (i:Int)),(58,(kD U ad n)),(55,.bool true),(54,.int .i64 (n:Int)),(53,(kD U ad n)),(52,.int .i64 (i:Int)),(2,.bool false),(4,(kD U ad n)),(7,.int .i64 (i:Int))]) H1 (Op.store 42 (Operand.tmp 8) (Operand.tmp 67))=some (o.tuple [],aH)∧bF B (aH.next) (bX env eM (aH.next+1) (bR [(68,.ptr (some ⟨x,0,0,5,6⟩)),(8,.ptr (some ⟨x,0,0,0,6⟩)),(67,(uW t)),(66,.ptr (some ⟨U,ad,0+Int.toNat (i:Int),0,6⟩)),(65,.int .i64 (i:Int)),(64,(kD U ad n)),(63,.bool true),(62,.int .i8 7),(61,.ptr (some ⟨U,ad,0+Int.toNat (i:Int),0,6⟩)),(60,.ptr (some ⟨U,ad,0+Int.toNat (i:Int),0,6⟩)),(59,.int .i64 (i:Int)),(58,(kD U ad n)),(55,.bool true),(54,.int .i64 (n:Int)),(53,(kD U ad n)),(52,.int .i64 (i:Int)),(2,.bool false),(4,(kD U ad n)),(7,.int .i64 (i:Int))]) (j.mk (aH.next+2) (aH.2)) (Op.store 9 (Operand.tmp 68) (Operand.const (Value.string {data:= {toList:=[]}})))=some (o.tuple [],aW)∧bF B (aW.next) (cj env.D 42 ⟨x,0,0,0,6⟩ (j.mk (aW.next+21) (aW.2))=some (o.agg [.int .i8 7,.int .i32 0,.int .u8 0,.int .i64 0,.int .i64 0,.str []])∧(0≤(i:Int)∧(i:Int)<(n:Int))∧cj env.D 9 ⟨U,ad,0+Int.toNat (i:Int),5,6⟩ (j.mk (aW.next+21) (aW.2))=some (o.str t)∧some (o.bool (decide ((↑(List.length t):Int)<1)))=some (o.bool false)∧(0≤(i:Int)∧(i:Int)<(n:Int))∧cj env.D 9 ⟨U,ad,0+Int.toNat (i:Int),5,6⟩ (j.mk (aW.next+21) (aW.2))=some (o.str t)∧some (o.bool (decide ((↑(List.length t):Int)>64)))=some (o.bool false)∧bF B (aW.next+21) ((-9223372036854775808≤(i:Int)+1∧(i:Int)+1≤9223372036854775807)∧ab .normal [(2,.bool false),(4,(kD U ad n)),(7,.int .i64 ((i:Int)+1))] (j.mk (aW.next+21+3) (j.aT (j.mk (aW.next+21) (j.aT aW))))))))))∧(¬(i:Int)<(n:Int)→ab (.exit 0) [(2,.bool false),(4,(kD U ad n)),(7,.int .i64 (i:Int))] (j.mk (H.next+4) (j.aT H))))) :
 ∃e bb p,cP Tryz.prog aw B 101 (c4 Tryz.prog 11 0) [(2,.bool false),(4,.slice (some ⟨U,ad,0,0,6⟩) n n),(7,.int .i64 i)] H e bb p∧ab e bb p :=
 hI bU mixed p' (aq:= .aN 13003 (ah 15002 (.aA (.val 15004 (.int .i8 7)) (ah 16002 (.aA (.val 16003 (cU 7 0 0 0 0 t)) (.aA (.act 16004 (.ptr (some ⟨x,0,0,0,6⟩)) fun x=>H1) (.aA (.act 16005 (.tuple []) fun x=>aH) (.aA (.act 17001 (.tuple []) fun x=>aW) (.aA (.val 18000 (cU 7 0 0 0 0 [])) (ah 18006 (.aA (.val 18008 (.str t)) (.aA (.val 18010 (.bool false)) (ah 18015 (.aA (.val 18017 (.str t)) (.aA (.val 18019 (.bool false)) (ah 14001 .nil))))))))))))))) .nil) (cN:=[2,4,7]) (by kernel_rfl) aY
theorem Qf(H H1:j)(B U ad n i:Nat)(k c m x y:Int)(t:Bytes)(v:o)(ab:dj→bT→j→Prop)(aY:bF B (H.next) (((i:Int)<(n:Int)→bF B (H.next+4) ((0≤(i:Int)∧(i:Int)<(n:Int))∧cj env.D 40 ⟨U,ad,0+Int.toNat (i:Int),0,6⟩ (j.mk (H.next+10) (H.2))=some (.int .i8 k)∧some (o.bool (k == 7))=some (o.bool false)∧bF B (H.next+10) ((0≤(i:Int)∧(i:Int)<(n:Int))∧cj env.D 42 ⟨U,ad,0+Int.toNat (i:Int),0,6⟩ (j.mk (H.next+20) (H.2))=some (o.agg [.int .i8 k,.int .i32 c,.int .u8 m,.int .i64 x,.int .i64 y,.str t])∧cW Tryz.prog aw 21 [.agg [.int .i8 k,.int .i32 c,.int .u8 m,.int .i64 x,.int .i64 y,.str t]] (j.mk (H.next+20) (H.2)) (.tuple [v,.int .i64 0]) H1∧bF B (H1.next) (bF B (H1.next+2) ((-9223372036854775808≤(i:Int)+1∧(i:Int)+1≤9223372036854775807)∧ab .normal [(2,.bool false),(4,(kD U ad n)),(7,.int .i64 ((i:Int)+1))] (j.mk (H1.next+2+3) (j.aT (j.mk (H1.next+2) (j.aT H1)))))))))∧(¬(i:Int)<(n:Int)→ab (.exit 0) [(2,.bool false),(4,(kD U ad n)),(7,.int .i64 (i:Int))] (j.mk (H.next+4) (j.aT H))))) :
 ∃e bb p,cP Tryz.prog aw B 101 (c4 Tryz.prog 11 0) [(2,.bool false),(4,.slice (some ⟨U,ad,0,0,6⟩) n n),(7,.int .i64 i)] H e bb p∧ab e bb p :=
 hI bU mixed p' (aq:= .aN 13003 (ah 15002 (.aA (.val 15004 (.int .i8 k)) (.aA (.val 15005 (.bool false)) (ah 20002 (.aA (.val 20003 (cU k c m x y t)) (.aA (.act 20004 (.tuple [v,.int .i64 0]) fun x=>H1) (ah 14001 .nil))))))) .nil) (cN:=[2,4,7]) (by kernel_rfl) aY
theorem adQ(H:j)(B:Nat)(ab:dj→bT→j→Prop)(aY:bF B (H.next) (ab (.exit 0) [(2,.bool false),(4,.slice none 0 0),(7,.int .i64 0)] (j.mk (H.next+4) (j.aT H)))) :
 ∃e bb p,cP Tryz.prog aw B 101 (c4 Tryz.prog 11 0) [(2,.bool false),(4,.slice none 0 0),(7,.int .i64 0)] H e bb p∧ab e bb p :=
 hI bU mixed p' (aq:= .nil) (cN:=[2,4,7]) (by kernel_rfl) aY
theorem adR(H H1 aH aW bV eI cK hg:j)(d n c:Nat)(cO:Option bH)(nf dS w e':o)(ab:o→j→Prop)(aY:bF (H.next) (H.next) (bF (H.next) (H.next+1) (cW Tryz.prog aw 14 [] (j.mk (H.next+3) (H.2)) (.ptr (some ⟨d,0,0,0,6⟩)) H1∧bF (H.next) (H1.next) (bF (H.next) (H1.next+2) (cW Tryz.prog aw 26 [.ptr (some ⟨d,0,0,0,6⟩),.slice cO n c] (j.mk (H1.next+6) (H1.2)) dS aH∧bF (H.next) (aH.next) (cW Tryz.prog aw 27 [.ptr (some ⟨d,0,0,0,6⟩)] (j.mk (aH.next+5) (aH.2)) nf aW∧gn env Builtin.append {toList:=[56,56]} [dS,nf] (aH.next+3) aW=some (w,bV)∧bF (H.next) (bV.next) (cW Tryz.prog aw 16 [.ptr (some ⟨d,0,0,0,6⟩)] (j.mk (bV.next+3) (bV.2)) (.int .i64 0) eI∧bF (H.next) (eI.next) (cP Tryz.prog aw (H.next) 101 (Code.loop (c4 Tryz.prog 11 0)) [(2,.bool false),(4,w),(7,.int .i64 0)] (j.mk (eI.next+1) (j.aT eI)) (.exit 0) [(2,.bool false),(4,w),(7,e')] cK∧bF (H.next) (cK.next) (cW Tryz.prog aw 19 [] (j.mk (cK.next+2) (cK.2)) (.bool true) hg∧bN (H.next) (hg.next) (ab (.bool true) hg)))))))))) :
 ∃v p,aI Tryz.prog aw 11 [.slice cO n c] H v p∧ab v p :=
 cf bU mixed p' (aq:= .aA (.act 1000 (.ptr (some ⟨d,0,0,0,6⟩)) fun x=>H1) (.aA (.act 4002 dS fun x=>aH) (.aA (.act 5002 nf fun x=>aW) (.aA (.act 5003 w fun x=>bV) (.aA (.act 6001 (.int .i64 0) fun x=>eI) (.aA (.cN [2,4,7]) (.aA (.loop [(2,.bool false),(4,w),(7,e')] cK (.exit 0)) (.aA (.act 23000 (.bool true) fun x=>hg) .nil)))))))) (by kernel_rfl) aY
theorem adS(H H1 aH aW bV eI cK hg gS dQ n1 o8 ng:j)(d n c q hd ag:Nat)(a':Int)(cO:Option bH)(nf dS w rH e':o)(ab:o→j→Prop)(aY:bF (H.next) (H.next) (bF (H.next) (H.next+1) (cW Tryz.prog aw 14 [] (j.mk (H.next+3) (H.2)) (.ptr (some ⟨d,0,0,0,6⟩)) H1∧bF (H.next) (H1.next) (bF (H.next) (H1.next+2) (cW Tryz.prog aw 26 [.ptr (some ⟨d,0,0,0,6⟩),.slice cO n c] (j.mk (H1.next+6) (H1.2)) dS aH∧bF (H.next) (aH.next) (cW Tryz.prog aw 27 [.ptr (some ⟨d,0,0,0,6⟩)] (j.mk (aH.next+5) (aH.2)) nf aW∧gn env Builtin.append {toList:=[56,56]} [dS,nf] (aH.next+3) aW=some (w,bV)∧bF (H.next) (bV.next) (cW Tryz.prog aw 16 [.ptr (some ⟨d,0,0,0,6⟩)] (j.mk (bV.next+3) (bV.2)) (.int .i64 a') eI∧some (o.bool (a' != 0))=some (o.bool true)∧bF (H.next) (eI.next) (cW Tryz.prog aw 16 [.ptr (some ⟨d,0,0,0,6⟩)] (j.mk (eI.next+3) (eI.2)) (.int .i64 a') cK∧bF (H.next) (cK.next) (bX env eM (cK.next+1) (bR [(26,.ptr (some ⟨d,0,0,0,6⟩)),(5,.int .i64 a'),(25,.int .i64 a'),(24,.ptr (some ⟨d,0,0,0,6⟩)),(23,.bool true),(22,.int .i64 a'),(21,.ptr (some ⟨d,0,0,0,6⟩)),(4,w),(20,w),(19,nf),(18,.ptr (some ⟨d,0,0,0,6⟩)),(17,dS),(16,dS),(15,.slice cO n c),(14,.ptr (some ⟨d,0,0,0,6⟩)),(13,.bool false),(12,.ptr (some ⟨d,0,0,0,6⟩)),(3,.ptr (some ⟨d,0,0,0,6⟩)),(11,.ptr (some ⟨d,0,0,0,6⟩)),(2,.bool false),(0,.slice cO n c)]) (j.mk (cK.next+5) (cK.2)) (Op.buildSlice 34 6 {toList:=[(0,Operand.const (Value.int .u8 (27))),(1,Operand.const (Value.int .u8 (91))),(2,Operand.const (Value.int .u8 (50))),(3,Operand.const (Value.int .u8 (48))),(4,Operand.const (Value.int .u8 (49))),(5,Operand.const (Value.int .u8 (126)))]})=some ((iy q),hg)∧eB env (cK.next+2) (bR [(27,(iy q)),(26,.ptr (some ⟨d,0,0,0,6⟩)),(5,.int .i64 a'),(25,.int .i64 a'),(24,.ptr (some ⟨d,0,0,0,6⟩)),(23,.bool true),(22,.int .i64 a'),(21,.ptr (some ⟨d,0,0,0,6⟩)),(4,w),(20,w),(19,nf),(18,.ptr (some ⟨d,0,0,0,6⟩)),(17,dS),(16,dS),(15,.slice cO n c),(14,.ptr (some ⟨d,0,0,0,6⟩)),(13,.bool false),(12,.ptr (some ⟨d,0,0,0,6⟩)),(3,.ptr (some ⟨d,0,0,0,6⟩)),(11,.ptr (some ⟨d,0,0,0,6⟩)),(2,.bool false),(0,.slice cO n c)]) hg (Op.convert 34 34 (Operand.tmp 27))=some ((iy q),hg)∧cW Tryz.prog aw 26 [.ptr (some ⟨d,0,0,0,6⟩),(iy q)] hg (.slice (some ⟨hd,ag,0,0,6⟩) 1 1) gS∧bF (H.next) (gS.next) (some (o.bool (decide (a'<0)))=some (o.bool false)∧cj env.D 40 ⟨hd,ag,0,0,6⟩ (j.mk (gS.next+19) (gS.2))=some (.int .i8 4)∧cW Tryz.prog aw 16 [.ptr (some ⟨d,0,0,0,6⟩)] (j.mk (gS.next+19) (gS.2)) (.int .i64 0) dQ∧bF (H.next) (dQ.next) (gn env Builtin.append {toList:=[56,56]} [w,.slice (some ⟨hd,ag,0,0,6⟩) 1 1] (dQ.next+2) (j.mk (dQ.next+4) (dQ.2))=some (rH,n1)∧bF (H.next) (n1.next) (cP Tryz.prog aw (H.next) 101 (Code.loop (c4 Tryz.prog 11 0)) [(2,.bool false),(4,rH),(7,.int .i64 0)] (j.mk (n1.next+1) (j.aT n1)) (.exit 0) [(2,.bool false),(4,rH),(7,e')] o8∧bF (H.next) (o8.next) (cW Tryz.prog aw 19 [] (j.mk (o8.next+2) (o8.2)) (.bool true) ng∧bN (H.next) (ng.next) (ab (.bool true) ng)))))))))))))) :
 ∃v p,aI Tryz.prog aw 11 [.slice cO n c] H v p∧ab v p :=
 cf bU mixed p' (aq:= .aA (.act 1000 (.ptr (some ⟨d,0,0,0,6⟩)) fun x=>H1) (.aA (.act 4002 dS fun x=>aH) (.aA (.act 5002 nf fun x=>aW) (.aA (.act 5003 w fun x=>bV) (.aA (.act 6001 (.int .i64 a') fun x=>eI) (.aA (.val 6002 (.bool true)) (.aA (.act 7001 (.int .i64 a') fun x=>cK) (.aA (.act 8001 ((iy q)) fun x=>hg) (.aA (.kt 8002 ((iy q)) fun h=>h) (.aA (.act 8003 (.slice (some ⟨hd,ag,0,0,6⟩) 1 1) fun x=>gS) (.aA (.val 9001 (.bool false)) (.aA (.val 9011 (.int .i8 4)) (.aA (.act 9016 (.int .i64 0) fun x=>dQ) (.aA (.act 11002 rH fun x=>n1) (.aA (.cN [2,4,7]) (.aA (.loop [(2,.bool false),(4,rH),(7,e')] o8 (.exit 0)) (.aA (.act 23000 (.bool true) fun x=>ng) .nil))))))))))))))))) (by kernel_rfl) aY
theorem Qg{h:j}{U R m f i:Nat}{es:List bw}(e:h.get U=some (ct (es.map di) 6 R m f ju))(aX:i<es.length):cj (b4.D env) 40 ⟨U,R,i,0,6⟩ h=some (.int .i8 es[i].kind):=by
 have b5:(b4.D env 40).map (fun d=>d.kind.isAgg)=some false:=by kernel_rfl
 obtain⟨x,p,ae⟩:=Option.map_eq_some_iff.1 b5;unfold cj;rw [p,e];simp [J.elem?,J.cE,iR,ae,aX,di]
theorem adT{h:j}{U R m f i:Nat}{es:List bw}(e:h.get U=some (ct (es.map di) 6 R m f ju))(aX:i<es.length):cj (b4.D env) 9 ⟨U,R,i,5,6⟩ h=some (.str es[i].text):=by
 have b5:(b4.D env 9).map (fun d=>d.kind.isAgg)=some false:=by kernel_rfl
 obtain⟨x,p,ae⟩:=Option.map_eq_some_iff.1 b5;unfold cj;rw [p,e];simp [J.elem?,J.cE,iR,ae,aX,di]
theorem adU{h:j}{x:Nat}{k c m y z fa fr gI gH fH:Int}{t fu:Bytes}(e:h.get x=some (hh (cU k c m y z t))):iA (b4.D env) 42 ⟨x,0,0,0,6⟩ (cU fa fr gI gH fH fu) h=some (h.set x (hh (cU fa fr gI gH fH fu))):=by
 have b5:(b4.D env 42).map (fun d=>(d.kind.isAgg,d.size))=some (true,6):=by kernel_rfl
 obtain⟨x,p,ae⟩:=Option.map_eq_some_iff.1 b5;simp only [Prod.mk.injEq]at ae;unfold iA;rw [p,e];simp [o.fits,ae.1,ae.2,J.made,rL,o.cells,iQ];exact⟨rfl,rfl,rfl,rfl,rfl,rfl⟩
theorem adV{h:j}{x:Nat}{k c m y z:Int}{t u:Bytes}(e:h.get x=some (hh (cU k c m y z t))):iA (b4.D env) 9 ⟨x,0,0,5,6⟩ (.str u) h=some (h.set x (hh (cU k c m y z u))):=by
 have b5:(b4.D env 9).map (fun d=>(d.kind.isAgg,d.size))=some (false,1):=by kernel_rfl
 obtain⟨x,p,ae⟩:=Option.map_eq_some_iff.1 b5;simp only [Prod.mk.injEq]at ae;unfold iA;rw [p,e];simp [o.fits,ae.1,ae.2,J.made,rL,o.cells,iQ,o.jD]
theorem adW{F:bT}{H H1:j}{a:bH}{bh k:Nat}(a6:bR F (.tmp k)=.ptr (some a))(aq:iA (b4.D env) 9 a (.str []) H=some H1):bX env eM bh (bR F) H (Op.store 9 (Operand.tmp k) (Operand.const (Value.string {data:= {toList:=[]}})))=some (.tuple [],H1):=by have e:bR F (Operand.const (Value.string {data:= {toList:=[]}}))=.str []:=rfl;simp only [bX,a6,e,aq,Option.map_some]
abbrev n2(U ad n i:Nat):bT:=[(2,.bool false),(4,.slice (some ⟨U,ad,0,0,6⟩) n n),(7,.int .i64 (i:Nat))]
theorem adX{B U ad m f:Nat}{es:List bw}(aM:es.length<2^62)(j5:∀e∈es,hQ e):∀(t i:Nat)(H:j),es.length-i≤t→i≤es.length→B≤H.next→U<H.next→H.get U=some (ct (es.map di) 6 ad m f ju) →
 ∃aR,db Tryz.prog aw B 101 (c4 Tryz.prog 11 0) (n2 U ad es.length i) H (.exit 0) (n2 U ad es.length es.length) aR∧H.next≤aR.next:=by
 intro t
 have fin:∀(H:j),B≤H.next→ ∃aR,db Tryz.prog aw B 101 (c4 Tryz.prog 11 0) (n2 U ad es.length es.length) H (.exit 0) (n2 U ad es.length es.length) aR∧H.next≤aR.next:=by intro H c1;obtain⟨e,bb,p,be,rfl,rfl,rfl⟩:=Qf H H B U ad es.length es.length 0 0 0 0 0 [] .undef (fun e bb p=>e=.exit 0∧bb=n2 U ad es.length es.length∧p=⟨H.next+4,H.aT⟩) (bB c1 ⟨fun h=>by omega,fun _=>⟨rfl,rfl,rfl⟩⟩);exact⟨_,db.last (by simp) be,by show H.next≤H.next+4;omega⟩
 induction t with
 |zero =>
  intro i H b7 al c1 ai ah;obtain rfl:i=es.length:=by omega
  exact fin H c1
 |succ t ih =>
  intro i H b7 al c1 ai ah;by_cases ar:i<es.length
  ·have hF:((i:Int)+1)=((i+1:Nat):Int):=by omega
   have hD:=j5 _ (List.getElem_mem ar);have yt:cj (b4.D env) 40 ⟨U,ad,0+Int.toNat (i:Int),0,6⟩ ⟨H.next+10,H.aT⟩=some (.int .i8 es[i].kind):=by rw [Int.toNat_natCast,Nat.zero_add];exact Qg (h:=⟨H.next+10,H.aT⟩) ah ar
   have le:∀k,cj (b4.D env) 42 ⟨U,ad,0+Int.toNat (i:Int),0,6⟩ ⟨H.next+k,H.aT⟩=some (di es[i]):=fun k=>by rw [Int.toNat_natCast,Nat.zero_add];exact x5 (h:=⟨H.next+k,H.aT⟩) ah ar
   have next:∀(aW:j),H.next≤aW.next→aW.get U=H.get U→cP Tryz.prog aw B 101 (c4 Tryz.prog 11 0) (n2 U ad es.length i) H .normal (n2 U ad es.length (i+1)) aW →
    ∃aR,db Tryz.prog aw B 101 (c4 Tryz.prog 11 0) (n2 U ad es.length i) H (.exit 0) (n2 U ad es.length es.length) aR∧H.next≤aR.next:=by
    intro aW bg hv be;obtain⟨aR,dG,qR⟩:=ih (i+1) aW (by omega) (by omega) (by omega) (by omega) (hv.trans ah);exact⟨aR,db.step be dG,by omega⟩
   rcases hD with ⟨bm,⟨fT,he,zd,pr⟩|⟨adY,B1⟩⟩
   ·
     have kL:es[i].kind=7:=by rw [he];rfl
     have tD:di es[i]=cU 7 0 0 0 0 fT:=by rw [he];rfl
     have j4:es[i].text=fT:=by rw [he];rfl
     rw [kL]at yt
     obtain⟨H1,u2,iJ,iL,kc⟩:∃H1,(∀F,bX env eM (H.next+14) (bR F) ⟨H.next+16,H.aT⟩ (Op.alloc 42)=some (.ptr (some ⟨H.next+14,0,0,0,6⟩),H1))∧H1.get (H.next+14)=some (hh (cU 0 0 0 0 0 []))∧(∀x,x<H.next→H1.get x=H.get x)∧H1.next=H.next+16 :=
      ⟨(⟨H.next+16,H.aT⟩:j).set (H.next+14) (hh (cU 0 0 0 0 0 [])),fun F=>by kernel_rfl,j.gG _ _ _,fun x af=>j.e1 _ _ (by omega),rfl⟩
     have Qh:=adU (fa:=7) (fr:=0) (gI:=0) (gH:=0) (fH:=0) (fu:=fT) iJ;obtain⟨aH,x6⟩:∃aH,H1.set (H.next+14) (hh (cU 7 0 0 0 0 fT))=aH:=⟨_,rfl⟩
     have jt:aH.get (H.next+14)=some (hh (cU 7 0 0 0 0 fT)):=by rw [←x6];exact j.gG _ _ _
     have gP:∀x,x<H.next→aH.get x=H.get x:=fun x af=>by rw [←x6,j.e1 _ _ (by omega)];exact iL x af
     have iN:aH.next=H.next+16:=by rw [←x6];exact kc
     rw [x6]at Qh;have Qi:=adV (u:=[]) (h:=⟨aH.next+2,aH.aT⟩) jt;obtain⟨aW,nU⟩:∃aW,(⟨aH.next+2,aH.aT⟩:j).set (H.next+14) (hh (cU 7 0 0 0 0 []))=aW:=⟨_,rfl⟩
     have nP:aW.get (H.next+14)=some (hh (cU 7 0 0 0 0 [])):=by rw [←nU];exact j.gG _ _ _
     have hv:∀x,x<H.next→aW.get x=H.get x:=fun x af=>by rw [←nU,j.e1 _ _ (by omega)];exact gP x af
     have jf:aW.next=aH.next+2:=by rw [←nU];rfl
     rw [nU]at Qi
     have lt:cj (b4.D env) 9 ⟨U,ad,0+Int.toNat (i:Int),5,6⟩ ⟨aW.next+21,aW.aT⟩=some (.str fT):=by rw [Int.toNat_natCast,Nat.zero_add,←j4];exact adT (h:=⟨aW.next+21,aW.aT⟩) ((hv U ai).trans ah) ar
     have kl:=le 16;rw [tD]at kl
     obtain⟨e,bb,p,be,rfl,rfl,rfl⟩:=adP H H1 aH aW B U ad es.length i (H.next+14) fT (fun e bb p=>e=.normal∧bb=n2 U ad es.length (i+1)∧p=⟨aW.next+24,aW.aT⟩)
      (bB c1 ⟨fun _=>bB (by omega) ⟨⟨by omega,by omega⟩,yt,bB (by omega) ⟨⟨by omega,by omega⟩,kl,u2 _,O8 rfl rfl Qh,bB (by omega) ⟨adW rfl Qi,bB (by omega) ⟨P6 (h:=⟨aW.next+21,aW.aT⟩) nP,⟨by omega,by omega⟩,lt,by simp;omega,⟨by omega,by omega⟩,lt,by simp;omega,bB (by omega) ⟨⟨by omega,by omega⟩,rfl,by rw [hF],rfl⟩⟩⟩⟩⟩,fun h=>absurd (by omega) h⟩)
     exact next ⟨aW.next+24,aW.aT⟩ (by show H.next≤aW.next+24;omega) (hv U ai) be
   ·
     obtain⟨w,c,H1,aD,kc,iL,aC⟩:=adO ⟨H.next+20,H.aT⟩ bm;have kc:H.next+20≤H1.next:=kc
     have tE:c=0:=by
      rcases aC with ⟨_,_,_,h,_⟩|⟨h,_⟩
      ·exact h
      ·rw [h]at B1;cases B1
     subst tE
     obtain⟨e,bb,p,be,rfl,rfl,rfl⟩:=Qf H H1 B U ad es.length i es[i].kind es[i].code es[i].dX es[i].x es[i].y es[i].text w (fun e bb p=>e=.normal∧bb=n2 U ad es.length (i+1)∧p=⟨H1.next+5,H1.aT⟩)
      (bB c1 ⟨fun _=>bB (by omega) ⟨⟨by omega,by omega⟩,yt,by simp [adY],bB (by omega) ⟨⟨by omega,by omega⟩,le 20,⟨aD⟩,bB (by omega) (bB (by omega) ⟨⟨by omega,by omega⟩,rfl,by rw [hF],rfl⟩)⟩⟩,fun h=>absurd (by omega) h⟩)
     exact next ⟨H1.next+5,H1.aT⟩ (by show H.next≤H1.next+5;omega) (iL U (by show U<H.next+20;omega)) be
  ·obtain rfl:i=es.length:=by omega
   exact fin H c1
theorem Qj{H:j}{B:Nat}{w:o}{es:List bw}{U:Nat}(c1:B≤H.next)(aM:es.length<2^62)(j5:∀e∈es,hQ e)(g:m' H w es U) :
 ∃aR e',cP Tryz.prog aw B 101 (.loop (c4 Tryz.prog 11 0)) [(2,.bool false),(4,w),(7,.int .i64 0)] H (.exit 0) [(2,.bool false),(4,w),(7,e')] aR∧H.next≤aR.next:=by
 rcases g with ⟨rfl,_⟩|⟨_,ae,R,m,f,rfl,bO⟩
 ·obtain⟨e,bb,p,be,rfl,rfl,rfl⟩:=adQ H B (fun e bb p=>e=.exit 0∧bb=[(2,.bool false),(4,.slice none 0 0),(7,.int .i64 0)]∧p=⟨H.next+4,H.aT⟩) (bB c1 ⟨rfl,rfl,rfl⟩);exact⟨_,_,cP.h' (db.last (by simp) be),by show H.next≤H.next+4;omega⟩
 ·obtain⟨aR,dG,qR⟩:=adX (B:=B) aM j5 es.length 0 H (by omega) (by omega) c1 ae bO;exact⟨aR,_,cP.h' dG,qR⟩
theorem k3.adZ{H:j}{cG:Nat→Nat}{c6:Nat}{an:Option (TypeId×Nat)}{v:o}{l:List o}(h:k3 H cG 7 c6 an v l):k3 H (fun x=>if cG x=7 then 10 else cG x) 10 c6 an v l∧eV H H cG (fun x=>if cG x=7 then 10 else cG x) [7]:=by
 refine⟨?_,⟨Nat.le_refl _,fun _ _ _=>rfl,fun x _ h=>if_neg (by simpa using h)⟩⟩;rcases h.ex with h|⟨p,U,ae,bg,bO⟩
 ·exact⟨.inl h⟩
 ·exact⟨.inr ⟨p,U,ae,by simp [bg],bO⟩⟩
theorem ad0:Holds ji:=acY
theorem ad1{H:j}{bs:Bytes}{cO:Option bH}{c:Nat}(aM:bs.length<2^28)(hB:s8 H (fun _=>0) 0 cO bs):∃aR,aI Tryz.prog aw 11 [.slice cO bs.length c] H (.bool true) aR:=by
 have ga:∀{a b:Nat}{I:Prop},a≤b→I→_root_.cond (Nat.ble a b) I False:=fun h k=>by rw [Nat.ble_eq.mpr h];exact k
 have m0:=eV.fresh H (fun _=>0) 3;obtain⟨H1,d,mP,dJ,a1,d1,m1⟩:=jg.new ⟨H.next+3,H.aT⟩ (fresh H fun _=>0) 1;have bu:H.next+3≤H1.next:=m1.next
 have f1:=eV.fresh H1 dJ 6;have ba:=((hB.fp m0 (by simp)).fp m1 (by simp)).fp f1 (by simp);obtain⟨aH,dS,c',ef,aP,d2,ci,m2⟩:=(d1.fp f1 (by simp)).feed (m:=c) uX aM ba (by decide);have bC:H1.next+6≤aH.next:=m2.next
 have dY:=Aj bs uX;have cq:=Io dY;have ad2:=Lp bs ji;obtain⟨j5,ep⟩:=Ik bs ad0;generalize uc:(ej ji bs).1=s2 at d2 dY cq ep;generalize nt:(ej ji bs).2=es at ci ad2 j5;have f2:=eV.fresh aH ef 5;have ci:=ci.fp f2 (by simp);obtain⟨qz,jE⟩:=ci.adZ;obtain⟨aW,nf,oX,fR,fi,d3,oI,m3,b2⟩:=((d2.fp f2 (by simp)).fp jE (by decide)).flush dY cq.1;have b2:aH.next+5<aW.next:=b2
 have ps:=qz.fp m3 (by decide);obtain⟨ad3,ad4,fn⟩:=adm ep;have ad5:=UM dY;have vb:=Io ad5
 have ml:(Keys.flush s2).2.length≤1:=by
  unfold Keys.flush
  repeat' split
  all_goals simp [Keys.tell]
 have ad6:fR (aH.next+3)=8:=by
  have q:fresh aH ef (aH.next+3)=8:=Pl (by omega);rw [m3.cG _ (by show aH.next+3<aH.next+5;omega)]
  ·show(if fresh aH ef (aH.next+3)=7 then 10 else fresh aH ef (aH.next+3))=8;rw [q];rfl
  ·show(if fresh aH ef (aH.next+3)=7 then 10 else fresh aH ef (aH.next+3)) ∉ [1];rw [q];decide
 obtain⟨w,bV,kP,iD,wP,m4,cp⟩:=ps.gy (bh:=aH.next+3) Po (by omega) ad6 oI.bi (by simp only [List.length_map];omega) (by simp only [List.length_map];omega);have d4:=d3.fp m4 (by decide);rw [←List.map_append]at wP
 have gi:∀e∈es++(Keys.flush s2).2,hQ e:=by
  intro e he;rcases List.mem_append.1 he with he|he
  ·exact j5 e he
  ·exact ad3 e he
 have hlen:(es++(Keys.flush s2).2).length<2^30:=by rw [List.length_append];omega
 have f4:=eV.fresh bV kP 3;obtain⟨eI,aaT,lT,hn,d5,m5,ia⟩:=(d4.fp f4 (by simp)).held vb.1 vb.2;have ia:bV.next+3<eI.next:=ia
 have sG:=(wP.fp f4 (by simp)).fp m5 (by decide);by_cases bm:held (Keys.flush s2).1=0
 ·rw [bm]at hn;obtain⟨U,cJ,_⟩:=BJ (sG.fp (eV.fresh eI lT 1) (by simp));obtain⟨cK,e',dG,p5⟩:=Qj (B:=H.next) (by show H.next≤eI.next+1;omega) (by omega) gi cJ;have p5:eI.next+1≤cK.next:=p5
  obtain⟨hg,HN⟩:=O9 ⟨cK.next+2,cK.aT⟩;have ad7:=HN.pad (ae:=⟨hg.next+H.next,hg.aT⟩) (by show hg.next≤hg.next+H.next;omega) (fun _ _=>rfl)
  obtain⟨v,aa,aD,rfl⟩:=adR H H1 aH aW bV eI cK ⟨hg.next+H.next,hg.aT⟩ d bs.length c cO nf dS w e' (fun v _=>v=.bool true)
   (bB (Nat.le_refl _) (bB (by omega) ⟨⟨a1⟩,bB (by omega) (bB (by omega) ⟨⟨aP⟩,bB (by omega) ⟨⟨fi⟩,iD,bB (by omega) ⟨⟨hn⟩,bB (by omega) ⟨dG,bB (by omega) ⟨⟨ad7⟩,ga (by show H.next≤hg.next+H.next;omega) rfl⟩⟩⟩⟩⟩)⟩))
  exact⟨_,aD⟩
 ·
   have ac:s2.b8=.cC:=by apply Classical.byContradiction;intro q;exact bm (fn q)
   have tt:=ad4 ac;rw [tt]at hn d5 sG hlen gi bm vb;simp only [List.append_nil]at sG hlen gi;simp only at hn d5 bm vb;obtain⟨fT,ad8,ad9⟩:=adn ep ac;obtain⟨cK,afH,kp,u1,d6,m6,p5⟩:=(d5.fp (eV.fresh eI lT 3) (by simp)).held vb.1 vb.2;have p5:eI.next+3<cK.next:=p5
   have Az:=(sG.fp (eV.fresh eI lT 3) (by simp)).fp m6 (by decide);have qd:∀F,bX env eM (cK.next+1) (bR F) ⟨cK.next+5,cK.aT⟩ (Op.buildSlice 34 6 {toList:=[(0,Operand.const (Value.int .u8 (27))),(1,Operand.const (Value.int .u8 (91))),(2,Operand.const (Value.int .u8 (50))),(3,Operand.const (Value.int .u8 (48))),(4,Operand.const (Value.int .u8 (49))),(5,Operand.const (Value.int .u8 (126)))]})=some (o.slice (some ⟨cK.next+1,0,0,0,1⟩) 6 6,(⟨cK.next+5,cK.aT⟩:j).set (cK.next+1) (J.made (aJ dE) 1 true)):=by intro F;kernel_rfl
   have Iq:=BU (H:=cK) (y:=cK.next+1) (J.made (aJ dE) 1 true) 5 (by omega);have Qk:∀x,x<cK.next→((⟨cK.next+5,cK.aT⟩:j).set (cK.next+1) (J.made (aJ dE) 1 true)).get x=cK.get x:=fun x af=>j.e1 _ _ (by omega)
   have ad':((⟨cK.next+5,cK.aT⟩:j).set (cK.next+1) (J.made (aJ dE) 1 true)).next=cK.next+5:=rfl
   generalize (⟨cK.next+5,cK.aT⟩:j).set (cK.next+1) (J.made (aJ dE) 1 true)=hg at qd Iq Qk ad';have m7:=eV.made (K:=cK) (yr:=hg) (by omega) Qk kp 5;have aea:eN hg (cK.next+1) (.slice (some ⟨cK.next+1,0,0,0,1⟩) 6 6) dE:=eN.made (bs:=dE) Iq (by omega) (fun h=>by cases h);obtain⟨afI,Ql,aeb⟩:=aea.hB (cG:=fun x=>if x<cK.next then kp x else 5) (c:=5) (by show(if cK.next+1<cK.next then _ else 5)=5;rw [if_neg (by omega)]);simp only [o.slice.injEq,Option.some.injEq,bH.mk.injEq,true_and,and_true]at Ql;obtain⟨rfl,_⟩:=Ql;obtain⟨gS,ag,afJ,mq,aec,d8,li,m8⟩:=(d6.fp m7 (by simp)).feed (m:=6) dY (by decide) aeb (by decide);have afK:hg.next≤gS.next:=m8.next
   rw [ad8]at d8 li;obtain⟨hd,aed,_⟩:=BJ li;obtain⟨Qm,pm,c9,rfl,sz,afL⟩:=aed.cases;have yt:cj (b4.D env) 40 ⟨hd,Qm,0,0,6⟩ ⟨gS.next+19,gS.aT⟩=some (.int .i8 4):=Qg (i:=0) (h:=⟨gS.next+19,gS.aT⟩) sz (by simp);have f8:=eV.fresh gS mq 19;obtain⟨dQ,afM,vH,r7,d9,m9,Qn⟩:=(d8.fp f8 (by simp)).held (by show(0:Nat)<2^40;decide) (by show(0:Nat)<2^40;decide);have Qn:gS.next+19<dQ.next:=Qn
   have r7:aI Tryz.prog aw 16 [.ptr (some ⟨d,0,0,0,6⟩)] ⟨gS.next+19,gS.aT⟩ (.int .i64 0) dQ:=r7;have C7:=(((Az.fp m7 (by simp)).fp m8 (by decide)).fp f8 (by simp)).fp m9 (by decide);have aee:=(li.fp f8 (by simp)).fp m9 (by decide);have f9:=eV.fresh dQ vH 4;obtain⟨rH,n1,zb,aef,l10,m10,Qo⟩:=(C7.fp f9 (by simp)).gy (bh:=dQ.next+2) Po (by show dQ.next+2<dQ.next+4;omega) (Pl (by omega)) (aee.fp f9 (by simp)).bi (by simp only [List.length_map,List.length_cons,List.length_nil];omega) (by simp only [List.length_map,List.length_cons,List.length_nil];omega);have Qo:n1.next=dQ.next+4:=Qo
   rw [←List.map_append]at l10;obtain⟨U,cJ,_⟩:=BJ (l10.fp (eV.fresh n1 zb 1) (by simp))
   have aeg:∀e∈es++[qe fT],hQ e:=by
    intro e he;rcases List.mem_append.1 he with he|he
    ·exact gi e he
    ·rw [List.mem_singleton.1 he];exact ad9
   obtain⟨o8,e',dG,Qp⟩:=Qj (B:=H.next) (by show H.next≤n1.next+1;omega) (by rw [List.length_append,List.length_cons,List.length_nil];omega) aeg cJ;have Qp:n1.next+1≤o8.next:=Qp
   obtain⟨ng,aeh⟩:=O9 ⟨o8.next+2,o8.aT⟩;have aei:=aeh.pad (ae:=⟨ng.next+H.next,ng.aT⟩) (by show ng.next≤ng.next+H.next;omega) (fun _ _=>rfl)
   obtain⟨v,aa,aD,rfl⟩:=adS H H1 aH aW bV eI cK hg gS dQ n1 o8 ⟨ng.next+H.next,ng.aT⟩ d bs.length c (cK.next+1) hd Qm (held s2:Nat) cO nf dS w rH e' (fun v _=>v=.bool true)
    (bB (Nat.le_refl _) (bB (by omega) ⟨⟨a1⟩,bB (by omega) (bB (by omega) ⟨⟨aP⟩,bB (by omega) ⟨⟨fi⟩,iD,bB (by omega) ⟨⟨hn⟩,by simp;omega,bB (by omega) ⟨⟨u1⟩,bB (by omega) ⟨qd _,yd rfl Iq rfl rfl (by decide),⟨aec⟩,bB (by omega) ⟨by simp,yt,⟨r7⟩,bB (by omega) ⟨aef,bB (by omega) ⟨dG,bB (by omega) ⟨⟨aei⟩,ga (by show H.next≤ng.next+H.next;omega) rfl⟩⟩⟩⟩⟩⟩⟩⟩⟩)⟩))
   exact⟨_,aD⟩
end Go.Proofs.YtddnafghiejcoaaGreatDoor
namespace Go.cH
noncomputable section
open Go.RowKit Go.ChangeShapes Go.WideShapes Go.ChangeAt
structure Ir(w:World)(b:J)(I:Place):Prop where
 ro:I.ro=true
 Qq:b.ro=true
 R:b.R=0
 es:I.es=b.es
 pos:0<I.es
 exact:I.exact=b.exact
 row:∀(ak:Map)(S:Nat→Prop),Row ak S b 0 I w
 bare:dt b
def yu(eL:List Place):Map:=fun i v=>if v=0 then eL[i]? else none
theorem c2.QO{w:World}{S:Nat→Prop}(l:List (J×Place))(h:∀x∈l,Ir w x.1 x.2):c2 (yu (l.map (·.2))) S (j.of (l.map (·.1))) w where
 dB i v I ac:=by
  unfold yu at ac;split at ac
  ·rename_i a';subst a';rw [List.getElem?_map,Option.map_eq_some_iff]at ac;obtain⟨x,af,rfl⟩:=ac;have k:=h x (List.mem_of_getElem? af);have al:=(List.getElem?_eq_some_iff.1 af).1;refine⟨by rw [j.of_next];simpa using al,x.1,?_,by omega,k.es,k.exact,(fun h=>by rw [k.Qq]at h;cases h),k.pos,k.row _ _⟩;rw [j.eX,List.getElem?_map,af];rfl
  ·cases ac
 apart i v I C u q ac aC _ _:=by
  have:∀{i v I},yu (l.map (·.2)) i v=some I→I.ro=true:=by
   intro i v I ac;unfold yu at ac;split at ac
   ·rw [List.getElem?_map,Option.map_eq_some_iff]at ac;obtain⟨x,af,rfl⟩:=ac;exact(h x (List.mem_of_getElem? af)).ro
   ·cases ac
  exact⟨this ac,this aC⟩
 same i v I u q ac aC _:=by
  unfold yu at ac aC;split at ac
  ·split at aC
   ·rw [ac]at aC;simp only [Option.some.injEq]at aC;subst aC;exact⟨rfl,rfl⟩
   ·cases aC
  ·cases ac
def yv(es:Nat):J:= {bi:=[],es,exact:=true,ro:=true,R:=0,fQ:=0,gF:=0,an:=none}
def B6(es:Nat):Place:= {ck:=0,off:=0,a7:=0,es,fy:=0,exact:=true,ro:=true}
theorem kx{w:World}(hw:0<w.heap.size){es:Nat}(he:0<es):Ir w (yv es) (B6 es) where
 ro:=rfl
 Qq:=rfl
 R:=rfl
 es:=rfl
 pos:=he
 exact:=rfl
 row ak S:=⟨hw,(fun h=>by cases h),fun U ai=>by simp [B6]at ai,(fun h=>by cases h),(fun h=>by cases h),(fun q h=>by cases h),fun i e p ae bg=>by simp [yv]at bg⟩
 bare e he:=by simp [yv]at he
theorem aI.law{P:Program}{cb:(Nat→Prop)→World→Prop}{f:FuncId}{args:List o}{h aa:j}(k:aI P cb f args h (.bool true) aa){w:World}(fK:cb (fun k=>k<w.heap.size) w){ak:Map}(aB:c2 ak (fun k=>k<w.heap.size) h w){dD:Array Value}(aS:bG ak args dD.toList) :
 Calls P f dD w fun e bA=>e=.returned (.bool true)∧Below w.heap.size w bA:=by
 have:=(k (fun k=>k<w.heap.size) w (fun _ h=>h) fK _ w dD aB (Safe.refl _ _) aS).2
 exact this.mono fun e bA ⟨bp,bM,p,_,ae,_,bg,_⟩=>by simp only [aK]at ae;subst ae;exact⟨p,bg.below⟩
end
end Go.cH
namespace Go.cH
noncomputable section
open Go.RowKit Go.ChangeShapes Go.WideShapes Go.ChangeAt
def vc(P:Program):Nat→TypeId→Nat→Option j0
 |0,_,_=>none
 |d+1,t,c =>
  match P.underlying t with
  |some (.int k)=>if c=0 then some (.int k)else none
  |some .bool=>if c=0 then some .bool else none
  |some .string=>if c=0 then some .string else none
  |some (.struct cV)=>cV.toList.findSome? fun f=>if f.offset≤c∧c<f.offset+P.cellsOf f.type then vc P d f.type (c-f.offset)else none
  |some (.array n e)=>if c/P.cellsOf e<n then vc P d e (c%P.cellsOf e)else none
  |_=>none
def o9:j0→Value→Prop
 |.int k,v=> ∃n,v=.int k n∧(Lit.int k n).wf=true
 |.bool,v=> ∃b,v=.bool b
 |.string,v=> ∃s:ByteArray,v=.string s∧s.size≤maxLen
 |_,_=>False
section
variable {H:Type}{ds:TypeId×Value→H}{P:Program}{w:World}{base:Nat}{spare:Nat→Bool}{held:Bool}
theorem aej:∀(d:Nat){t:TypeId}{c:Nat}{k:j0}{de:Nat}{bn:List Value}{x:DataW H×List MemPlace},vc P d t c=some k→DataW.trod ds P w base spare held de t bn=some x→ ∃v,bn[c]? =some v∧o9 k v:=by
 intro d;induction d with
 |zero=>intro t c k de bn x h;cases h
 |succ d ih =>
  intro t c k de bn x h af;simp only [vc]at h;split at h
  ·rename_i lL hu;split at h
   ·rename_i ar;subst ar;simp only [Option.some.injEq]at h;subst h;obtain⟨n,rfl,_,hw⟩:=DataW.trod_int hu af;exact⟨_,rfl,n,rfl,hw⟩
   ·cases h
  ·rename_i hu;split at h
   ·rename_i ar;subst ar;simp only [Option.some.injEq]at h;subst h;obtain⟨b,rfl,_⟩:=DataW.trod_bool hu af;exact⟨_,rfl,b,rfl⟩
   ·cases h
  ·rename_i hu;split at h
   ·rename_i ar;subst ar;simp only [Option.some.injEq]at h;subst h;obtain⟨s,rfl,_,aq⟩:=DataW.trod_string hu af;exact⟨_,rfl,s,rfl,aq⟩
   ·cases h
  ·rename_i cV hu;obtain⟨f,a6,ao⟩:=List.exists_of_findSome?_eq_some h;split at ao
   ·rename_i ar;obtain⟨xs,n,_,_,aB,qI,tt⟩:=DataW.trod_struct hu af;obtain⟨C,aX,aek⟩:=List.mem_iff_getElem.1 a6;have rF:cV[C]? =some f:=by rw [←Array.getElem?_toList,List.getElem?_eq_getElem aX,aek]
    have p:=tt C f rF;rw [List.getElem?_eq_getElem (by rw [qI];simpa using aX)]at p;obtain⟨v,a',n3⟩:=ih ao p;rw [List.getElem?_take]at a';split at a'
    ·rw [List.getElem?_drop,show f.offset+(c-f.offset)=c by omega]at a';exact⟨v,a',n3⟩
    ·cases a'
   ·cases ao
  ·rename_i n e hu;split at h
   ·rename_i ar;obtain⟨xs,m,_,_,aB,qI,cs⟩:=DataW.trod_array hu af;have p:=cs _ ar;rw [List.getElem?_eq_getElem (by omega)]at p;obtain⟨v,a',n3⟩:=ih h p;rw [List.getElem?_take]at a';split at a'
    ·rw [List.getElem?_drop,Nat.mul_comm,Nat.div_add_mod]at a';exact⟨v,a',n3⟩
    ·cases a'
   ·cases h
  ·cases h
theorem o9.bare{k:j0}{v:Value}(h:o9 k v):cT (kH v)∧(kH v).jD=true∧v.oneCell'=true:=by
 cases k with
 |int k=>obtain⟨n,rfl,_⟩:=h;exact⟨cT.int _ _,rfl,by first|trivial|rfl⟩
 |bool=>obtain⟨b,rfl⟩:=h;exact⟨cT.bool _,rfl,by first|trivial|rfl⟩
 |string=>obtain⟨s,rfl,_⟩:=h;exact⟨cT.str _,rfl,by first|trivial|rfl⟩
 |_=>exact h.elim
def B7(hC:Bool)(bn:List o):o:=if hC then .agg bn else bn.headD .undef
theorem ael{hC:Bool}{bn:List o}(h:hC=false→ ∃a,bn=[a]∧a.jD=true):(B7 hC bn).cells=bn:=by
 unfold B7;cases hC with
 |true=>rfl
 |false =>
  obtain⟨a,rfl,aS⟩:=h rfl;cases a<;>simp [o.cells]<;>cases aS
theorem cT.agg{l:List o}(h:∀a∈l,cT a):cT (.agg l):=by
 refine⟨fun r=> ?_,?_⟩
 ·simp only [o.bc,o.zs]
  have:l.map (o.bc r)=l:=by
   conv=>rhs;rw [←List.map_id l]
   exact List.map_congr_left fun e he=>(h e he).1 r
  rw [this]
 ·simp only [cv];exact qK.2 fun a aS=>(h a aS).2
def cellAt(w:World)(x:Addr)(C:Nat):Value:=(w.cell? (x.add C)).getD undef
def elemAt(w:World)(x:Addr)(hC:Bool)(c6 i:Nat):o:=B7 hC ((List.range c6).map fun C=>kH (cellAt w x (i*c6+C)))
theorem QK{hC:Bool}{t e:TypeId}{d c6:Nat}{bl:List j0}(hw:0<w.heap.size)(b7:P.underlying t=some (.slice e))(ar:P.cellsOf e=c6)(eQ:Nat.blt 0 c6=true)(eA:hC=false→c6=1)
 (my:(List.range c6).map (vc P d e)=bl.map some) {a:Option Addr} {len cap:Nat} {ft:DataW H} {eL:List MemPlace} (h:DataW.Trod ds P w 0 (fun _=>true) true t (.slice a len cap) ft eL) (id:Nat) :
 ∃(U:Option bH)(c:Nat)(b:J)(I:Place)(x:Addr),sv U len c id 0 0 c6∧Ir w b I∧len≤maxLen∧(∀ak:Map,ak id 0=some I→aK ak (.slice U len c) (.slice a len cap)) ∧
  (∀i,i<len→b.elem? 0 (0+i)=some (elemAt w x hC c6 i))∧(∀i C,i<len→C<c6→ ∃k,bl[C]? =some k∧o9 k (cellAt w x (i*c6+C))):=by
 have eQ:0<c6:=Nat.blt_eq.mp eQ
 have OM:∀C,C<c6→ ∃k,bl[C]? =some k∧vc P d e C=some k:=by
  intro C aX;have p:=congrArg (fun(l:List (Option j0))=>l[C]?) my;simp only [List.getElem?_map,List.getElem?_range aX,Option.map_some]at p;cases ao:bl[C]? with
  |none=>rw [ao]at p;cases p
  |some k=>rw [ao]at p;simp at p;exact⟨k,rfl,p⟩
 obtain⟨de,a6⟩:=h;have yw:DataW.trod ds P w 0 (fun _=>true) true de t [.slice a len cap]=some (ft,eL):=a6;rcases DataW.trod_slice b7 yw with ⟨dV,_⟩|⟨x,l,c,bi,rest,n,_,dV,_,_,aB,hm,hlen,fC,aem,_⟩
 ·simp at dV;obtain⟨rfl,rfl,rfl⟩:=dV;exact⟨none,0,yv c6,B6 c6,⟨0,0,none⟩,.inr ⟨rfl,rfl,rfl⟩,kx hw eQ,by simp,fun ak _=>by simp [aK],fun i al=>by omega,fun i C al=>by omega⟩
 ·simp at dV;obtain⟨rfl,rfl,rfl⟩:=dV;obtain⟨afN,be⟩:=aem rfl
  have each:∀i,i<cap→ ∃bn y,w.cells? 0 (x.add (i*c6)) c6=some bn∧DataW.trod ds P w 0 (fun _=>true) true n e bn=some y:=by
   intro i al
   have av:∃y,(w.cells? 0 (x.add (i*P.cellsOf e)) (P.cellsOf e)).bind (DataW.trod ds P w 0 (fun _=>true) true n e)=some y:=by
    by_cases dJ:i<len
    ·exact⟨_,(fC i dJ).trans (List.getElem?_eq_getElem (by omega))⟩
    ·have:=be (i-len) (by omega);rw [show len+(i-len)=i by omega]at this;exact⟨_,this.trans (List.getElem?_eq_getElem (by omega))⟩
   obtain⟨y,bY⟩:=av;rw [ar,Option.bind_eq_some_iff]at bY;obtain⟨bn,p,ae⟩:=bY;exact⟨bn,y,p,ae⟩
  have cell:∀i C,i<cap→C<c6→ ∃v k,w.cell? (x.add (i*c6+C))=some v∧bl[C]? =some k∧o9 k v:=by intro i C al aX;obtain⟨bn,y,p,ae⟩:=each i al;obtain⟨k,ao,vC⟩:=OM C aX;obtain⟨v,a',n3⟩:=aej d vC ae;refine⟨v,k,?_,ao,n3⟩;rw [←Go.Deep.add_add,(World.cells?_some p).2.2 C aX,a']
  have tg:∀i C,i<cap→C<c6→w.cell? (x.add (i*c6+C))=some (cellAt w x (i*c6+C))∧∃k,bl[C]? =some k∧o9 k (cellAt w x (i*c6+C)):=by
   intro i C al aX;obtain⟨v,k,p,ae,bg⟩:=cell i C al aX;have:cellAt w x (i*c6+C)=v:=by simp [cellAt,p]
   rw [this];exact⟨p,k,ae,bg⟩
  by_cases ou:cap=0
  ·subst ou;obtain rfl:len=0:=by omega
   refine⟨some ⟨id,0,0,0,c6⟩,0,yv c6,B6 c6,x,.inl rfl,kx hw eQ,by simp,fun ak wa=> ?_,fun C aX=>by omega,fun i C al=>by omega⟩;simp only [aK];exact⟨x,0,rfl,Nat.le_refl _,Nat.le_refl _,.inl ⟨rfl,_,wa,rfl,.inl rfl,fun _=>rfl⟩⟩
  have Qr:x.spot=none:=by have:=(tg 0 0 (by omega) eQ).1;simpa [Addr.add]using World.cell?_spot this
  have B8:∀i,x.add i=⟨x.block,x.off+i,none⟩:=by
   intro i;obtain⟨Aw,of,Er⟩:=x;simp only at Qr;subst Qr;unfold Addr.add;split
   ·rename_i bm;subst bm;rfl
   ·rfl
  have pi:∀i,i<cap→(elemAt w x hC c6 i).cells=(List.range c6).map fun C=>kH (cellAt w x (i*c6+C)):=by
   intro i al;refine ael fun DS=> ?_
   have p:=eA DS;subst p;refine⟨_,rfl,?_⟩;obtain⟨_,k,_,n3⟩:=tg i 0 al (by omega);exact n3.bare.2.1
  have vG:x.block<w.heap.size:=by
   have:=(tg 0 0 (by omega) eQ).1;rw [B8]at this;unfold World.cell? at this;split at this
   ·rename_i av;exact(Array.getElem?_eq_some_iff.1 av).1
   ·cases this
  refine⟨some ⟨id,0,0,0,c6⟩,cap,{bi:=(List.range cap).map (elemAt w x hC c6),es:=c6,exact:=true,ro:=true,R:=0,fQ:=0,gF:=0,an:=none},{ck:=x.block,off:=x.off,a7:=0,es:=c6,fy:=cap,exact:=true,ro:=true},x,.inl rfl,?_,by omega,?_,?_,fun i C al aX=>(tg i C (by omega) aX).2⟩
  ·refine⟨rfl,rfl,rfl,rfl,eQ,rfl,fun ak S=>⟨vG,(fun h=>by cases h),?_,(fun h=>by cases h),(fun h=>by cases h),(fun q h=>by cases h),?_⟩,?_⟩
   ·intro U ai;simp only at ai;have p:U/c6<cap:=Nat.div_lt_of_lt_mul (by rw [Nat.mul_comm];exact ai);have:=(tg (U/c6) (U%c6) p (Nat.mod_lt _ eQ)).1;rw [show U/c6*c6+U%c6=U by rw [Nat.mul_comm];exact Nat.div_add_mod U c6,B8]at this;simp only [this];rfl
   ·intro i b' _ _ he;simp only [List.getElem?_map,Option.map_eq_some_iff]at he;obtain⟨fe,fS,rfl⟩:=he;have al:=(List.getElem?_eq_some_iff.1 fS).1;simp only [List.length_range]at al;rw [List.getElem?_range al]at fS;simp only [Option.some.injEq]at fS;subst fS;refine⟨by rw [pi i al];simp,by simp only;omega,fun C bS af=> ?_⟩;rw [pi i al,List.getElem?_map,Option.map_eq_some_iff]at af;obtain⟨gq,rF,rfl⟩:=af;have aX:=(List.getElem?_eq_some_iff.1 rF).1;simp only [List.length_range]at aX;rw [List.getElem?_range aX]at rF;simp only [Option.some.injEq]at rF;subst rF;obtain⟨p,k,_,n3⟩:=tg i C al aX;refine⟨_,?_,yN ak _,n3.bare.2.2⟩;rw [B8]at p;simp only [Place.at,Nat.sub_zero,Nat.add_assoc];exact p
   ·intro b' he;obtain⟨i,al,rfl⟩:=List.mem_map.1 he;have al:=List.mem_range.1 al;unfold elemAt B7
    have gi:∀a∈(List.range c6).map (fun C=>kH (cellAt w x (i*c6+C))),cT a:=by intro a aS;obtain⟨C,aX,rfl⟩:=List.mem_map.1 aS;obtain⟨_,k,_,n3⟩:=tg i C al (List.mem_range.1 aX);exact n3.bare.1
    cases hC with
    |true=>exact cT.agg gi
    |false =>
     have p:=eA rfl;subst p;exact gi _ (by simp)
  ·intro ak wa;simp only [aK];refine⟨x,cap,rfl,aB,Nat.le_refl _,.inl ⟨rfl,_,wa,rfl,?_,fun _=>rfl⟩⟩;refine .inr ⟨Nat.le_refl _,?_,by simp⟩;have:=B8 0;simp only [Addr.add,if_true]at this;simpa [Place.at]using this
  ·intro i al;have fS:i<cap:=by omega
   simp [J.elem?,J.cE,fS]
theorem QL{t e:TypeId}(b7:P.underlying t=some (.slice e)){a:Option Addr}{len cap:Nat}{ft:DataW H}{eL:List MemPlace}(h:DataW.Trod ds P w base spare held t (.slice a len cap) ft eL)
 (hw:∀y∈ft.weights P t,y≤reachBytes):len*P.bytesOf e≤reachBytes:=by
 obtain⟨de,a6⟩:=h;have yw:DataW.trod ds P w base spare held de t [.slice a len cap]=some (ft,eL):=a6;rcases DataW.trod_slice b7 yw with ⟨dV,_⟩|⟨x,l,c,bi,rest,n,_,dV,af,_,aB,hm,hlen,_⟩
 ·simp at dV;obtain⟨_,rfl,_⟩:=dV;simp
 ·simp at dV;obtain⟨_,rfl,_⟩:=dV;simp only [Prod.mk.injEq]at af;obtain⟨rfl,_⟩:=af;have:=hw ((bi.length+rest.length)*P.bytesOf e) (by simp [DataW.weights,b7]);rw [hlen]at this;exact Nat.le_trans (Nat.mul_le_mul_right _ (by omega)) this
theorem QG{t:TypeId}{e6:List TypeId}{d:DataW H}{th:List (DataW H)}{cX:Nat}(h:∀y∈DataW.weightsEach P (t::e6) (d::th),y≤cX):(∀y∈d.weights P t,y≤cX)∧∀y∈DataW.weightsEach P e6 th,y≤cX :=
 ⟨fun y bY=>h y (by simp [DataW.weightsEach,bY]),fun y bY=>h y (by simp [DataW.weightsEach,bY])⟩
def B9:o→Int
 |.int _ n=>n
 |_=>0
theorem o9.int{k:IntKind}{v:Value}(h:o9 (.int k) v):kH v=.int k (B9 (kH v))∧(Lit.int k (B9 (kH v))).wf=true:=by obtain⟨n,rfl,hw⟩:=h;exact⟨rfl,hw⟩
end
end
end Go.cH
