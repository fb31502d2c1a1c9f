/-
  Parts of the proof of KeysBack.
-/
import Derived.Lib.ItoaNum
import Derived.Test.YtddnafghiejcoaaGreatDoorKKeysBackE
set_option linter.unusedVariables false
set_option linter.unusedSimpArgs false
namespace Go.Proofs.YtddnafghiejcoaaGreatDoor
open Go.cf Go.Keys
set_option maxRecDepth 1000000
set_option maxHeartbeats 4000000
theorem aaZ(x:Bytes)(n k:Nat):List.take n (List.drop k (aN x))=aN ((x.drop k).take n):=by simp [aN,List.map_drop,List.map_take]
theorem aa0(x:Bytes)(c:UInt8)(h:2≤x.length):strOf (List.take (Int.toNat (((x.length+1:Nat):Int)-1)-2) (List.drop 2 (List.append (aN x) [aa.int .u8 c.toNat])))=x.drop 2:=by show strOf (List.take _ (List.drop 2 (aN x++_)))=_;rw [nw,aaZ,jh,List.drop_append_of_le_length h,show Int.toNat (((x.length+1:Nat):Int)-1)-2=(x.drop 2).length by rw [List.length_drop];omega,List.take_append_of_le_length (Nat.le_refl _),List.take_length]
theorem P8(x:Bytes)(h:x≠[]):(aN x)[0+Int.toNat ((x.length:Int)-1)]? =some (aa.int .u8 (x.getLastD 0).toNat):=by
 have e:0+Int.toNat ((x.length:Int)-1)=x.length-1:= ab;rw [e]
 have:x[x.length-1]? =some (x.getLastD 0):=by rw [←List.getLast?_eq_getElem?,List.getLastD_eq_getLast?,List.getLast?_eq_some_getLast h];rfl
 unfold aN;rw [List.getElem?_map,this];rfl
theorem aa1(x:Bytes)(h:x≠[]):ba (aN x) (0+Int.toNat ((x.length:Int)-1))=(x.getLastD 0).toNat:=by unfold ba;rw [P8 x h]
theorem aa2{D bj K P O:af}{h:J}{pv ov:aa}{ty uty:bL}{ad m aG:Nat}{al aD:Bytes}{es:List bl}{a7:cp}{j0 j1 j2 j3:Int}{c:UInt8}(bF:Nat.ble 5 h.U=true)(e0:h.get 0=some (b0 0 (cy .sequence) 1 (.slice (some ⟨2,ad,0,0,1⟩) al.length al.length) pv false ov ty))(bi:h.get 1=some (cb [] j0 j1 j2 j3 uty))
 (bu:h.get 2=some (ct (aN al) 1 ad m aG cA)) (b7:h.get 3=some P) (cc:h.get 4=some O) (gx:al≠[]) (ah:jm (J.of [D,bj,K,P,O]) 0 a7.p pv aD) (ao:jn (J.of [D,bj,K,P,O]) 0 a7.o ov es) (cL:a7.u=1∧(a7.k=0∨a7.k=2)∧(a7.p=0∨a7.p=3)∧(a7.o=0∨a7.o=4)) (cn:a7.k=2)
 (ck:es.length<2^30-8) {R:J→Prop} (dX:∀ag aO,ci ag 0 aO (Keys.bad ⟨.sequence,al,[],aD⟩ c).1 (es++(Keys.bad ⟨.sequence,al,[],aD⟩ c).2)→Fr (J.of [D,bj,K,P,O]) ag 0 a7 aO→R ag) :
 dA (2^30-8) ez h ⟨0,0,0,0,6⟩ c.toNat∧∀ag,dB Keys.bad h ⟨0,0,0,0,6⟩ c.toNat ag→_root_.cond (Nat.ble 5 ag.U) (R ag) False:=by
 have bF:=Nat.le_of_ble_eq_true bF;exact yh (s:=⟨.sequence,al,[],aD⟩) rfl bF (BX (ks:= .grown []) (iy rfl bF e0 bi (.inr cn) b7 cc (oj aS rfl rfl bu) ab ah ao cL (.inr (.inr ⟨rfl,cn⟩))) gx) ck aM ⟨rfl,.inr rfl⟩ dX
theorem P9{D bj K P O:af}{h:J}{pv ov:aa}{ty uty:bL}{ad m aG len:Nat}{l:List aa}{al aD:Bytes}{es:List bl}{a7:cp}{j0 j1 j2 j3:Int}(bF:Nat.ble 5 h.U=true)(e0:h.get 0=some (b0 0 (cy .sequence) 1 (.slice (some ⟨2,ad,0,0,1⟩) len len) pv false ov ty))(bi:h.get 1=some (cb [] j0 j1 j2 j3 uty))
 (bu:h.get 2=some (ct l 1 ad m aG cA)) (b7:h.get 3=some P) (cc:h.get 4=some O) (hlen:len=al.length) (hle:l=aN al) (gx:al≠[]) (ah:jm (J.of [D,bj,K,P,O]) 0 a7.p pv aD) (ao:jn (J.of [D,bj,K,P,O]) 0 a7.o ov es) (cL:a7.u=1∧(a7.k=0∨a7.k=2)∧(a7.p=0∨a7.p=3)∧(a7.o=0∨a7.o=4)) (cn:a7.k=2) :
 ∃aO,ci h 0 aO ⟨.sequence,al,[],aD⟩ es∧Fr (J.of [D,bj,K,P,O]) h 0 a7 aO:=by
 have bF:=Nat.le_of_ble_eq_true bF;exact pr (s:=⟨.sequence,al,[],aD⟩) (ks:= .grown []) (iy rfl bF e0 bi (.inr cn) b7 cc (oj aS hlen hle bu) ab ah ao cL (.inr (.inr ⟨rfl,cn⟩))) gx
theorem aa3{al aD:Bytes}{c:UInt8}(h:64≤c.toNat∧c.toNat≤126):Keys.sequence ⟨.sequence,al,[],aD⟩ c=Keys.done ⟨.sequence,al++[c],[],aD⟩ (al.drop 2) c:=by simp only [Keys.sequence,if_pos h]
theorem aa4{al aD:Bytes}{c:UInt8}(h:¬(64≤c.toNat∧c.toNat≤126))(ai:c.toNat<32∨63<c.toNat∨48≤c.toNat∧(al.getLastD 0).toNat<48):Keys.sequence ⟨.sequence,al,[],aD⟩ c=Keys.bad ⟨.sequence,al,[],aD⟩ c:=by simp only [Keys.sequence,if_neg h,if_pos ai]
theorem aa5{al aD:Bytes}{c:UInt8}(h:¬(64≤c.toNat∧c.toNat≤126))(ai:¬(c.toNat<32∨63<c.toNat∨48≤c.toNat∧(al.getLastD 0).toNat<48))(a8:al.length+1=64):Keys.sequence ⟨.sequence,al,[],aD⟩ c=(⟨.ground,[],[],aD⟩,[gM (al++[c])]):=by simp only [Keys.sequence,if_neg h,if_neg ai,if_pos a8,tell]
theorem aa6{al aD:Bytes}{c:UInt8}(h:¬(64≤c.toNat∧c.toNat≤126))(ai:¬(c.toNat<32∨63<c.toNat∨48≤c.toNat∧(al.getLastD 0).toNat<48))(a8:al.length+1≠64):Keys.sequence ⟨.sequence,al,[],aD⟩ c=(⟨.sequence,al++[c],[],aD⟩,[]):=by simp only [Keys.sequence,if_neg h,if_neg ai,if_neg a8]
set_option hygiene false in
def yZ(s:bK)(c:UInt8):Prop:=s.nx=.sequence∧s.aF=[]∧2≤s.al.length∧s.al.length<64
theorem aa7{H:J}{d:Nat}{I:cp}{s:bK}{es:List bl}{c:UInt8}(g:ci H d I s es)(ck:es.length<2^30-8)(dX:yZ s c):∃aQ,bS 87 [.ptr (some ⟨d,0,0,0,6⟩),.int .u8 c.toNat] H (.tuple []) aQ ∧
 ∃aO,ci aQ d aO (Keys.sequence s c).1 (es++(Keys.sequence s c).2)∧Fr H aQ d I aO:=by
 refine tG ?_ g;intro ks kv pv ov ty uty j0 j1 j2 j3 K P O a7 hs gs cL;obtain⟨au,ah,ao⟩:=nv gs;obtain⟨nx,al,aF,aD⟩:=s;obtain⟨ai,ac,uF,aa8⟩:=dX;simp only at ac ai uF aa8 hs gs au ah ao⊢;subst ac ai
 have nb:ks=.grown []:=by
  cases ks with
  |grown j=>cases j with
   |nil=>rfl
   |cons a b=>exact hs.elim
  |_=>exact hs.elim
 subst nb;have gx:al≠[]:=hs;obtain⟨kE,ad,m,aG,rfl,c8⟩:=au;have cn:a7.k=2:= ab;rw [cn,J.eV]at c8;simp only [List.getElem?_cons_zero,List.getElem?_cons_succ,Option.some.injEq,List.nil_append]at c8;subst c8;rw [cn]at ah ao⊢;simp only [List.length_nil]at ah ao⊢;simp only [show decide (nj.sequence=nj.cK)=false from rfl]at ah ao⊢;have AF:=c.toNat_lt;have hE:=oq al;have kV:=B4 al c;have ahG:=P8 al gx;generalize dN:J.of [b0 0 (cy .sequence) 1 (.slice (some ⟨2,ad,0,0,1⟩) al.length al.length) pv false ov ty,cb [] j0 j1 j2 j3 uty,ct (aN al) 1 ad m aG cA,P,O]=L at ah ao⊢
 suffices bU:∃v ag,bS 87 [.ptr (some ⟨0,0,0,0,6⟩),.int .u8 c.toNat] L v ag ∧
  (v=.tuple []∧∃aO,ci ag 0 aO (Keys.sequence ⟨.sequence,al,[],aD⟩ c).1 (es++(Keys.sequence ⟨.sequence,al,[],aD⟩ c).2)∧Fr L ag 0 a7 aO)by
  obtain⟨v,ag,aE,rfl,q⟩:=bU;exact⟨ag,aE,q⟩
 have py:∀{h:J},¬(64≤c.toNat∧c.toNat≤126)→ ¬(c.toNat<32∨63<c.toNat∨48≤c.toNat∧(al.getLastD 0).toNat<48)→al.length+1≠64→Nat.ble 5 h.U=true→h.get 0=some (b0 0 (cy .sequence) 1 (.slice (some ⟨2,ad+1,0,0,1⟩) (al.length+1) (al.length+1)) pv false ov ty)→h.get 1=some (cb [] j0 j1 j2 j3 uty)→h.get 2=some (ct (aN al++[.int .u8 c.toNat]) 1 (ad+1) m (if m=ad then(aN al).length else min aG (aN al).length) cA)→h.get 3=some P→h.get 4=some O →
  True∧∃aO,ci h 0 aO (Keys.sequence ⟨.sequence,al,[],aD⟩ c).1 (es++(Keys.sequence ⟨.sequence,al,[],aD⟩ c).2)∧Fr L h 0 a7 aO:=by
  intro h av a2 a3 bF e0 bi bu b7 cc;rw [aa6 av a2 a3,List.append_nil];subst dN;exact⟨trivial,P9 (al:=al++[c]) bF e0 bi bu b7 cc aM (nw _ _) aM ah ao cL cn⟩
 have bZ:∀{h:J},(64≤c.toNat∧c.toNat≤126)→Nat.ble 5 h.U=true→h.get 0=some (b0 0 (cy .sequence) 1 (.slice (some ⟨2,ad+1,0,0,1⟩) (al.length+1) (al.length+1)) pv false ov ty)→h.get 1=some (cb [] j0 j1 j2 j3 uty)→h.get 2=some (ct (aN al++[.int .u8 c.toNat]) 1 (ad+1) m (if m=ad then(aN al).length else min aG (aN al).length) cA)→h.get 3=some P→h.get 4=some O →
  IL (2^30) h ⟨0,0,0,0,6⟩ (al.drop 2) c.toNat∧∀ag,IM h ⟨0,0,0,0,6⟩ (al.drop 2) c.toNat ag→_root_.cond (Nat.ble 5 ag.U) (True∧∃aO,ci ag 0 aO (Keys.sequence ⟨.sequence,al,[],aD⟩ c).1 (es++(Keys.sequence ⟨.sequence,al,[],aD⟩ c).2)∧Fr L ag 0 a7 aO) False:=by
  intro h av bF e0 bi bu b7 cc;rw [aa3 av];subst dN;obtain⟨oh,g1,lU⟩:=P9 (al:=al++[c]) bF e0 bi bu b7 cc aM (nw _ _) aM ah ao cL cn;have bF:=Nat.le_of_ble_eq_true bF;refine⟨⟨rfl,⟨oh,_,es,g1,ab,rfl,rfl⟩,ab,by rw [List.length_drop];omega⟩,fun ag t=> ?_⟩;have aR:=t.U;obtain⟨aO,dp,fZ⟩:=t.all oh _ es g1 aM;rw [vw]at dp;exact r' ab ⟨trivial,aO,dp,lU.trans fZ⟩
 have cH:∀{h:J},¬(64≤c.toNat∧c.toNat≤126)→(c.toNat<32∨63<c.toNat∨48≤c.toNat∧(al.getLastD 0).toNat<48)→Nat.ble 5 h.U=true→h.get 0=some (b0 0 (cy .sequence) 1 (.slice (some ⟨2,ad,0,0,1⟩) al.length al.length) pv false ov ty)→h.get 1=some (cb [] j0 j1 j2 j3 uty)→h.get 2=some (ct (aN al) 1 ad m aG cA)→h.get 3=some P→h.get 4=some O →
  dA (2^30-8) ez h ⟨0,0,0,0,6⟩ c.toNat∧∀ag,dB Keys.bad h ⟨0,0,0,0,6⟩ c.toNat ag→_root_.cond (Nat.ble 5 ag.U) (True∧∃aO,ci ag 0 aO (Keys.sequence ⟨.sequence,al,[],aD⟩ c).1 (es++(Keys.sequence ⟨.sequence,al,[],aD⟩ c).2)∧Fr L ag 0 a7 aO) False:=by
  intro h av a2 bF e0 bi bu b7 cc;rw [aa4 av a2];subst dN;exact aa2 bF e0 bi bu b7 cc gx ah ao cL cn ck fun ag aO g cF=>⟨trivial,aO,g,cF⟩
 have lC:∀{h:J}{cD:aa},¬(64≤c.toNat∧c.toNat≤126)→ ¬(c.toNat<32∨63<c.toNat∨48≤c.toNat∧(al.getLastD 0).toNat<48)→al.length+1=64→Nat.ble 5 h.U=true→h.get 0=some (b0 0 (cy .sequence) 1 (.slice (some ⟨2,ad+1,0,0,1⟩) (al.length+1) (al.length+1)) pv false ov ty)→h.get 1=some (cb [] j0 j1 j2 j3 uty)→h.get 2=some (ct (aN al++[.int .u8 c.toNat]) 1 (ad+1) m (if m=ad then(aN al).length else min aG (aN al).length) cA)→h.get 3=some P→h.get 4=some O→cD=cB (gM (al++[c])) →
  cq h ⟨0,0,0,0,6⟩ cD∧∀ag,cr h ⟨0,0,0,0,6⟩ cD ag→_root_.cond (Nat.ble 5 ag.U) (True∧∃aO,ci ag 0 aO (Keys.sequence ⟨.sequence,al,[],aD⟩ c).1 (es++(Keys.sequence ⟨.sequence,al,[],aD⟩ c).2)∧Fr L ag 0 a7 aO) False:=by
  intro h cD av a2 a3 bF e0 bi bu b7 cc he;rw [aa5 av a2 a3];subst dN;exact tI (al:=al++[c]) bF e0 bi bu b7 cc aM (nw _ _) ah ao cL cn he ab aM fun ag aO g cF=>⟨trivial,aO,g,cF⟩
 rw [←dN];rw [←dN]at py bZ cH lC;refine aaY (cy .sequence) pv ov ty (cb [] j0 j1 j2 j3 uty) P O (aN al) ad m aG al.length c.toNat _ ?_
 delta yY dn hy yr yq eF ef qK ee hx vD vC qJ
 simp only [B6,aa0 al c uF,aa1 al gx]
 repeat' (first
  |exact True.intro
  |assumption
  |exact py ab ab ab ay ay ay ay ay ay
  |exact bZ ab ay ay ay ay ay ay
  |exact cH ab ab ay ay ay ay ay ay
  |exact lC ab ab ab ay ay ay ay ay ay rfl
  |(exfalso;omega)
  |intro _
  |refine And.intro ?_ ?_
  |rfl
  |omega
  |exact px _ _ _
  |exact B3 _ _ _ _)
theorem aa9:∀args h a,j5 (2^30-8) yZ Keys.sequence args h=some a→a.dt Tryz.prog cX 87 args h:=r9 fun H d I s es c g ck aC dX=>aa7 g ck dX
def P':List aa→J→Option ey:=kD fun a=>match a with | [.str s,.str p]=>some (.bool (p.isPrefixOf s),[])|_=>none
theorem aa':∀args h a,P' args h=some a→a.dt Tryz.prog cX 146 args h:=by
 refine lH ?_;intro args v ps e ah H;split at e<;>first|(cases e;done)|skip
 simp only [Option.some.injEq,Prod.mk.injEq]at e;obtain⟨rfl,rfl⟩:=e;exact Y9 _ _ H
noncomputable def aba:e1:=BV.add 146 P'
theorem sh:eJ Tryz.prog cX aba:=x1.add aa'
abbrev jo(kv cI cM:Nat)(dM:List aa):af:=⟨dM,1,false,false,kv,cI,cM,some (5,0)⟩
abbrev CJ(f off kv n:Nat)(ov:aa)(dty:bL):af:=⟨[.agg [(eF f),.slice (some ⟨2,kv,off,0,1⟩) n n,.slice none 0 0,.bool true,.ptr (some ⟨1,0,0,0,5⟩),ov]],6,true,false,0,0,0,dty⟩
theorem Qa(f off kv cI cM n:Nat)(dM:List aa)(ov:aa)(bj P O:af)(dty:bL)(ae:cW→bJ→J→Prop)(aW:(0<(n:Int)→kv=kv∧off+n≤List.length dM∧(∃l,List.take n (List.drop (bA.idx ⟨2,kv,off,0,1⟩) (af.bk (jo kv cI cM dM)))=aN l)∧(List.isPrefixOf (strOf (List.take n (List.drop off dM))) (Array.toList #[27,91,50,48,49,126])=true→ae (.exit 0) [(0,.ptr (aJ 0))] (J.ar 20 [(0,(CJ f off kv n ov dty)),(1,bj),(2,(jo kv cI cM dM)),(3,P),(4,O)]))∧(List.isPrefixOf (strOf (List.take n (List.drop off dM))) (Array.toList #[27,91,50,48,49,126])=false→((0:Int)≤0∧0<(n:Int))∧kv=kv∧dM[off+0]? =some (.int .u8 (ba dM (off+0)))∧((0:Int)≤1∧1≤(n:Int)∧n≤n)∧ae .normal [(0,.ptr (aJ 0))] (J.ar 51 [(0,⟨[.agg [(eF f),.slice (some ⟨2,kv,off+1,0,1⟩) (n-1) (n-1),.slice (cm 38) 1 1,.bool true,.ptr (some ⟨1,0,0,0,5⟩),ov]],6,true,false,0,0,0,dty⟩),(1,bj),(2,(jo kv cI cM dM)),(3,P),(4,O),(37,af.an [.int .u8 (ba dM (off+0))] 1 true),(38,af.an [.int .u8 (ba dM (off+0))] 1 false (some (5,0)))])))∧(¬0<(n:Int)→ae (.exit 0) [(0,.ptr (aJ 0))] (J.ar 20 [(0,(CJ f off kv n ov dty)),(1,bj),(2,(jo kv cI cM dM)),(3,P),(4,O)]))) :
 ∃e aU ac,dc 5 80 (cs 129 0) [(0,.ptr (aJ 0))] (J.rows 5 [(0,b0 0 f 1 (.slice (some ⟨2,kv,off,0,1⟩) n n) (.slice none 0 0) true ov dty),(1,bj),(2,ct dM 1 kv cI cM cA),(3,P),(4,O)]) e aU ac∧ae e aU ac :=
 fP eN mixed sh (hs:= .aI 1005 (ak 1011 (.aI 1012 .nil (ak 3009 (ak 3010 (ak 4005 .nil))))) .nil) (keep:=[0]) ay aW
abbrev mH(pv pm cY:Nat)(pl:List aa):af:=⟨pl,1,false,false,pv,pm,cY,some (5,0)⟩
abbrev CK(f off kv n pv cR:Nat)(ov:aa)(dty:bL):af:=⟨[.agg [(eF f),.slice (some ⟨2,kv,off,0,1⟩) n n,.slice (some ⟨3,pv,0,0,1⟩) cR cR,.bool true,.ptr (some ⟨1,0,0,0,5⟩),ov]],6,true,false,0,0,0,dty⟩
theorem Qb(f off kv cI cM n pv pm cY cR:Nat)(dM pl:List aa)(ov:aa)(bj O:af)(dty:bL)(ae:cW→bJ→J→Prop)(aW:(0<(n:Int)→kv=kv∧off+n≤List.length dM∧(∃l,List.take n (List.drop (bA.idx ⟨2,kv,off,0,1⟩) (af.bk (jo kv cI cM dM)))=aN l)∧(List.isPrefixOf (strOf (List.take n (List.drop off dM))) (Array.toList #[27,91,50,48,49,126])=true→ae (.exit 0) [(0,.ptr (aJ 0))] (J.ar 20 [(0,(CK f off kv n pv cR ov dty)),(1,bj),(2,(jo kv cI cM dM)),(3,(mH pv pm cY pl)),(4,O)]))∧(List.isPrefixOf (strOf (List.take n (List.drop off dM))) (Array.toList #[27,91,50,48,49,126])=false→((cR:Int)<65536→((0:Int)≤0∧0<(n:Int))∧kv=kv∧dM[off+0]? =some (.int .u8 (ba dM (off+0)))∧(pv=pv∧0+cR=List.length pl∧cR<cR+1∧(cR+1+(cR+1)/4+512)*1≤281474976710656∧cR+1<4611686018427387904)∧((0:Int)≤1∧1≤(n:Int)∧n≤n)∧ae .normal [(0,.ptr (aJ 0))] (J.ar 51 [(0,{bk:=[.agg [(eF f),.slice (some ⟨2,kv,off+1,0,1⟩) (n-1) (n-1),.slice (some {id:=3,ad:=pv+1,idx:=0,fld:=0,es:=1}) (cR+1) (cR+1),.bool true,.ptr (some ⟨1,0,0,0,5⟩),ov]],es:=6,exact:=true,ro:=false,ad:=0,gd:=0,hj:=0,ty:=dty}),(1,bj),(2,(jo kv cI cM dM)),(3,⟨pl++[.int .u8 (ba dM (off+0))],1,false,false,pv+1,pm,if pm=pv then List.length pl else min cY (List.length pl),some (5,0)⟩),(4,O),(37,af.an [.int .u8 (ba dM (off+0))] 1 true)]))∧(¬(cR:Int)<65536→((0:Int)≤1∧1≤(n:Int)∧n≤n)∧ae .normal [(0,.ptr (aJ 0))] (J.ar 35 [(0,⟨[.agg [(eF f),.slice (some ⟨2,kv,off+1,0,1⟩) (n-1) (n-1),.slice (some ⟨3,pv,0,0,1⟩) cR cR,.bool true,.ptr (some ⟨1,0,0,0,5⟩),ov]],6,true,false,0,0,0,dty⟩),(1,bj),(2,(jo kv cI cM dM)),(3,(mH pv pm cY pl)),(4,O)]))))∧(¬0<(n:Int)→ae (.exit 0) [(0,.ptr (aJ 0))] (J.ar 20 [(0,(CK f off kv n pv cR ov dty)),(1,bj),(2,(jo kv cI cM dM)),(3,(mH pv pm cY pl)),(4,O)]))) :
 ∃e aU ac,dc 5 80 (cs 129 0) [(0,.ptr (aJ 0))] (J.rows 5 [(0,b0 0 f 1 (.slice (some ⟨2,kv,off,0,1⟩) n n) (.slice (some ⟨3,pv,0,0,1⟩) cR cR) true ov dty),(1,bj),(2,ct dM 1 kv cI cM cA),(3,ct pl 1 pv pm cY cA),(4,O)]) e aU ac∧ae e aU ac :=
 fP eN mixed sh (hs:= .aI 1005 (ak 1011 (.aI 1012 .nil (.aI 2005 (ak 3009 (ak 3010 (ak 3012 (ak 4005 .nil)))) (ak 4005 .nil)))) .nil) (keep:=[0]) ay aW
abbrev CL(f off kv n pv cR:Nat)(ov:aa)(dty:bL):af:=⟨[.agg [(eF f),.slice (some ⟨2,kv,off,0,1⟩) n n,.slice (some ⟨30,pv,0,0,1⟩) cR cR,.bool true,.ptr (some ⟨1,0,0,0,5⟩),ov]],6,true,false,0,0,0,dty⟩
theorem Qc(f off kv cI cM n pv pm cY cR:Nat)(dM pl:List aa)(ov:aa)(bj P O:af)(dty:bL)(ae:cW→bJ→J→Prop)(aW:(0<(n:Int)→kv=kv∧off+n≤List.length dM∧(∃l,List.take n (List.drop (bA.idx ⟨2,kv,off,0,1⟩) (af.bk (jo kv cI cM dM)))=aN l)∧(List.isPrefixOf (strOf (List.take n (List.drop off dM))) (Array.toList #[27,91,50,48,49,126])=true→ae (.exit 0) [(0,.ptr (aJ 0))] (J.ar 55 [(0,(CL f off kv n pv cR ov dty)),(1,bj),(2,(jo kv cI cM dM)),(3,P),(4,O),(30,(mH pv pm cY pl))]))∧(List.isPrefixOf (strOf (List.take n (List.drop off dM))) (Array.toList #[27,91,50,48,49,126])=false→((cR:Int)<65536→((0:Int)≤0∧0<(n:Int))∧kv=kv∧dM[off+0]? =some (.int .u8 (ba dM (off+0)))∧(pv=pv∧0+cR=List.length pl∧cR<cR+1∧(cR+1+(cR+1)/4+512)*1≤281474976710656∧cR+1<4611686018427387904)∧((0:Int)≤1∧1≤(n:Int)∧n≤n)∧ae .normal [(0,.ptr (aJ 0))] (J.ar 86 [(0,{bk:=[.agg [(eF f),.slice (some ⟨2,kv,off+1,0,1⟩) (n-1) (n-1),.slice (some {id:=30,ad:=pv+1,idx:=0,fld:=0,es:=1}) (cR+1) (cR+1),.bool true,.ptr (some ⟨1,0,0,0,5⟩),ov]],es:=6,exact:=true,ro:=false,ad:=0,gd:=0,hj:=0,ty:=dty}),(1,bj),(2,(jo kv cI cM dM)),(3,P),(4,O),(30,⟨pl++[.int .u8 (ba dM (off+0))],1,false,false,pv+1,pm,if pm=pv then List.length pl else min cY (List.length pl),some (5,0)⟩),(72,af.an [.int .u8 (ba dM (off+0))] 1 true)]))∧(¬(cR:Int)<65536→((0:Int)≤1∧1≤(n:Int)∧n≤n)∧ae .normal [(0,.ptr (aJ 0))] (J.ar 70 [(0,⟨[.agg [(eF f),.slice (some ⟨2,kv,off+1,0,1⟩) (n-1) (n-1),.slice (some ⟨30,pv,0,0,1⟩) cR cR,.bool true,.ptr (some ⟨1,0,0,0,5⟩),ov]],6,true,false,0,0,0,dty⟩),(1,bj),(2,(jo kv cI cM dM)),(3,P),(4,O),(30,(mH pv pm cY pl))]))))∧(¬0<(n:Int)→ae (.exit 0) [(0,.ptr (aJ 0))] (J.ar 55 [(0,(CL f off kv n pv cR ov dty)),(1,bj),(2,(jo kv cI cM dM)),(3,P),(4,O),(30,(mH pv pm cY pl))]))) :
 ∃e aU ac,dc 5 80 (cs 129 0) [(0,.ptr (aJ 0))] (J.rows 40 [(0,b0 0 f 1 (.slice (some ⟨2,kv,off,0,1⟩) n n) (.slice (some ⟨30,pv,0,0,1⟩) cR cR) true ov dty),(1,bj),(2,ct dM 1 kv cI cM cA),(3,P),(4,O),(30,ct pl 1 pv pm cY cA)]) e aU ac∧ae e aU ac :=
 fP eN mixed sh (hs:= .aI 1005 (ak 1011 (.aI 1012 .nil (.aI 2005 (ak 3009 (ak 3010 (ak 3012 (ak 4005 .nil)))) (ak 4005 .nil)))) .nil) (keep:=[0]) ay aW
abbrev nD(ad kv cI cM:Nat)(dM:List aa):af:=⟨dM,1,false,false,kv,cI,cM,some (5,0)⟩
abbrev IR:aa:=aa.agg [.int .i8 4,.int .i32 0,.int .u8 0,.int .i64 0,.int .i64 0,.str []]
abbrev qL(f ad kv jI n2:Nat)(ov:aa)(dty:bL):af:=⟨[.agg [(eF f),.slice (some ⟨2,kv,jI,0,1⟩) n2 n2,.slice none 0 0,.bool false,.ptr (some ⟨1,0,0,0,5⟩),ov]],6,true,false,0,0,0,dty⟩
theorem abb(f off ad m aG n kv cI cM jI n2:Nat)(l dM:List aa)(c:Int)(lP ov:aa)(bj si P O:af)(dty:bL)(ae:bI)(aW:(ad=ad∧off+n=List.length l∧n<n+1∧(n+1+(n+1)/4+512)*1≤281474976710656∧n+1<4611686018427387904)∧dc 5 80 (Code.loop (cs 129 0)) [(0,.ptr (aJ 0))] (J.ar 16 [(0,{bk:=[.agg [(eF f),.slice (some {id:=2,ad:=ad+1,idx:=off,fld:=0,es:=1}) (n+1) (n+1),lP,.bool true,.ptr (some ⟨1,0,0,0,5⟩),ov]],es:=6,exact:=true,ro:=false,ad:=0,gd:=0,hj:=0,ty:=dty}),(1,bj),(2,⟨l++[.int .u8 c],1,false,false,ad+1,m,if m=ad then List.length l else min aG (List.length l),some (5,0)⟩),(3,si),(4,O),(11,af.an [.int .u8 c] 1 true)]) (.exit 0) [(0,.ptr (aJ 0))] (J.ar 40 [(0,b0 0 f 1 (.slice (some ⟨2,kv,jI,0,1⟩) n2 n2) (.slice none 0 0) true ov dty),(1,bj),(2,ct dM 1 kv cI cM cA),(3,P),(4,O)])∧((n2:Int)=6→cq (J.ar 64 [(0,(qL f ad kv jI n2 ov dty)),(1,bj),(2,(nD ad kv cI cM dM)),(3,P),(4,O)]) ⟨0,0,0,0,6⟩ (IR)∧∀(ow:J),cr (J.ar 64 [(0,(qL f ad kv jI n2 ov dty)),(1,bj),(2,(nD ad kv cI cM dM)),(3,P),(4,O)]) ⟨0,0,0,0,6⟩ (IR) ow→bC 5 (ow.U) (ae (.tuple []) ow))∧(¬(n2:Int)=6→ae (.tuple []) (J.ar 46 [(0,⟨[.agg [(eF f),.slice (some ⟨2,kv,jI,0,1⟩) n2 n2,.slice none 0 0,.bool true,.ptr (some ⟨1,0,0,0,5⟩),ov]],6,true,false,0,0,0,dty⟩),(1,bj),(2,(nD ad kv cI cM dM)),(3,P),(4,O)]))) :
 b4 129 [.ptr (aJ 0),.int .u8 c] (J.of [b0 0 f 1 (.slice (some ⟨2,ad,off,0,1⟩) n n) lP true ov dty,bj,ct l 1 ad m aG cA,si,O]) ae :=
 b9 sh (ak 7 (.az (.keep [0]) (.az (.loop [(0,.ptr (aJ 0))] (J.ar 40 [(0,b0 0 f 1 (.slice (some ⟨2,kv,jI,0,1⟩) n2 n2) (.slice none 0 0) true ov dty),(1,bj),(2,ct dM 1 kv cI cM cA),(3,P),(4,O)]) (.exit 0)) (.aI 5005 .nil .nil)))) aW
abbrev pz(ad pv pm cY:Nat)(pl:List aa):af:=⟨pl,1,false,false,pv,pm,cY,some (5,0)⟩
abbrev vM(cR:Nat)(pl:List aa):aa:=aa.agg [.int .i8 4,.int .i32 0,.int .u8 0,.int .i64 0,.int .i64 0,.str (strOf (List.take cR pl))]
theorem abc(f off ad m aG n kv cI cM jI n2 pv pm cY cR:Nat)(l dM pl:List aa)(c:Int)(lP ov:aa)(bj si O:af)(dty:bL)(ae:bI)(aW:(ad=ad∧off+n=List.length l∧n<n+1∧(n+1+(n+1)/4+512)*1≤281474976710656∧n+1<4611686018427387904)∧dc 5 80 (Code.loop (cs 129 0)) [(0,.ptr (aJ 0))] (J.ar 16 [(0,{bk:=[.agg [(eF f),.slice (some {id:=2,ad:=ad+1,idx:=off,fld:=0,es:=1}) (n+1) (n+1),lP,.bool true,.ptr (some ⟨1,0,0,0,5⟩),ov]],es:=6,exact:=true,ro:=false,ad:=0,gd:=0,hj:=0,ty:=dty}),(1,bj),(2,⟨l++[.int .u8 c],1,false,false,ad+1,m,if m=ad then List.length l else min aG (List.length l),some (5,0)⟩),(3,si),(4,O),(11,af.an [.int .u8 c] 1 true)]) (.exit 0) [(0,.ptr (aJ 0))] (J.ar 40 [(0,b0 0 f 1 (.slice (some ⟨2,kv,jI,0,1⟩) n2 n2) (.slice (some ⟨3,pv,0,0,1⟩) cR cR) true ov dty),(1,bj),(2,ct dM 1 kv cI cM cA),(3,ct pl 1 pv pm cY cA),(4,O)])∧((n2:Int)=6→pv=pv∧0+cR≤List.length pl∧(∃l,List.take cR (List.drop (bA.idx ⟨3,pv,0,0,1⟩) (af.bk (pz ad pv pm cY pl)))=aN l)∧cq (J.ar 64 [(0,(qL f ad kv jI n2 ov dty)),(1,bj),(2,(nD ad kv cI cM dM)),(3,(pz ad pv pm cY pl)),(4,O)]) ⟨0,0,0,0,6⟩ ((vM cR pl))∧∀(ow:J),cr (J.ar 64 [(0,(qL f ad kv jI n2 ov dty)),(1,bj),(2,(nD ad kv cI cM dM)),(3,(pz ad pv pm cY pl)),(4,O)]) ⟨0,0,0,0,6⟩ ((vM cR pl)) ow→bC 5 (ow.U) (ae (.tuple []) ow))∧(¬(n2:Int)=6→ae (.tuple []) (J.ar 46 [(0,⟨[.agg [(eF f),.slice (some ⟨2,kv,jI,0,1⟩) n2 n2,.slice (some ⟨3,pv,0,0,1⟩) cR cR,.bool true,.ptr (some ⟨1,0,0,0,5⟩),ov]],6,true,false,0,0,0,dty⟩),(1,bj),(2,(nD ad kv cI cM dM)),(3,(pz ad pv pm cY pl)),(4,O)]))) :
 b4 129 [.ptr (aJ 0),.int .u8 c] (J.of [b0 0 f 1 (.slice (some ⟨2,ad,off,0,1⟩) n n) lP true ov dty,bj,ct l 1 ad m aG cA,si,O]) ae :=
 b9 sh (ak 7 (.az (.keep [0]) (.az (.loop [(0,.ptr (aJ 0))] (J.ar 40 [(0,b0 0 f 1 (.slice (some ⟨2,kv,jI,0,1⟩) n2 n2) (.slice (some ⟨3,pv,0,0,1⟩) cR cR) true ov dty),(1,bj),(2,ct dM 1 kv cI cM cA),(3,ct pl 1 pv pm cY cA),(4,O)]) (.exit 0)) (.aI 5005 (ak 6004 .nil) .nil)))) aW
theorem abd(f off ad m aG n kv cI cM jI n2 pv pm cY cR:Nat)(l dM pl:List aa)(c:Int)(lP ov:aa)(bj si P O:af)(dty:bL)(ae:bI)(aW:(ad=ad∧off+n=List.length l∧n<n+1∧(n+1+(n+1)/4+512)*1≤281474976710656∧n+1<4611686018427387904)∧dc 5 80 (Code.loop (cs 129 0)) [(0,.ptr (aJ 0))] (J.ar 16 [(0,{bk:=[.agg [(eF f),.slice (some {id:=2,ad:=ad+1,idx:=off,fld:=0,es:=1}) (n+1) (n+1),lP,.bool true,.ptr (some ⟨1,0,0,0,5⟩),ov]],es:=6,exact:=true,ro:=false,ad:=0,gd:=0,hj:=0,ty:=dty}),(1,bj),(2,⟨l++[.int .u8 c],1,false,false,ad+1,m,if m=ad then List.length l else min aG (List.length l),some (5,0)⟩),(3,si),(4,O),(11,af.an [.int .u8 c] 1 true)]) (.exit 0) [(0,.ptr (aJ 0))] (J.ar 40 [(0,b0 0 f 1 (.slice (some ⟨2,kv,jI,0,1⟩) n2 n2) (.slice (some ⟨30,pv,0,0,1⟩) cR cR) true ov dty),(1,bj),(2,ct dM 1 kv cI cM cA),(3,P),(4,O),(30,ct pl 1 pv pm cY cA)])∧((n2:Int)=6→pv=pv∧0+cR≤List.length pl∧(∃l,List.take cR (List.drop (bA.idx ⟨30,pv,0,0,1⟩) (af.bk (pz ad pv pm cY pl)))=aN l)∧cq (J.ar 64 [(0,(qL f ad kv jI n2 ov dty)),(1,bj),(2,(nD ad kv cI cM dM)),(3,P),(4,O),(30,(pz ad pv pm cY pl))]) ⟨0,0,0,0,6⟩ ((vM cR pl))∧∀(ow:J),cr (J.ar 64 [(0,(qL f ad kv jI n2 ov dty)),(1,bj),(2,(nD ad kv cI cM dM)),(3,P),(4,O),(30,(pz ad pv pm cY pl))]) ⟨0,0,0,0,6⟩ ((vM cR pl)) ow→bC 5 (ow.U) (ae (.tuple []) ow))∧(¬(n2:Int)=6→ae (.tuple []) (J.ar 46 [(0,⟨[.agg [(eF f),.slice (some ⟨2,kv,jI,0,1⟩) n2 n2,.slice (some ⟨30,pv,0,0,1⟩) cR cR,.bool true,.ptr (some ⟨1,0,0,0,5⟩),ov]],6,true,false,0,0,0,dty⟩),(1,bj),(2,(nD ad kv cI cM dM)),(3,P),(4,O),(30,(pz ad pv pm cY pl))]))) :
 b4 129 [.ptr (aJ 0),.int .u8 c] (J.of [b0 0 f 1 (.slice (some ⟨2,ad,off,0,1⟩) n n) lP true ov dty,bj,ct l 1 ad m aG cA,si,O]) ae :=
 b9 sh (ak 7 (.az (.keep [0]) (.az (.loop [(0,.ptr (aJ 0))] (J.ar 40 [(0,b0 0 f 1 (.slice (some ⟨2,kv,jI,0,1⟩) n2 n2) (.slice (some ⟨30,pv,0,0,1⟩) cR cR) true ov dty),(1,bj),(2,ct dM 1 kv cI cM cA),(3,P),(4,O),(30,ct pl 1 pv pm cY cA)]) (.exit 0)) (.aI 5005 (ak 6004 .nil) .nil)))) aW
theorem abe(f:Nat)(c:Int)(ov:aa)(bj K P O:af)(dty:bL)(ae:bI)(aW:(List.isPrefixOf [UInt8.ofNat (Int.toNat c)] (Array.toList #[27,91,50,48,49,126])=true→ae (.tuple []) (J.ar 37 [(0,⟨[.agg [(eF f),.slice (cm 12) 1 1,.slice none 0 0,.bool true,.ptr (some ⟨1,0,0,0,5⟩),ov]],6,true,false,0,0,0,dty⟩),(1,bj),(2,K),(3,P),(4,O),(11,af.an [.int .u8 c] 1 true),(12,af.an [.int .u8 c] 1 false (some (5,0)))]))∧(List.isPrefixOf [UInt8.ofNat (Int.toNat c)] (Array.toList #[27,91,50,48,49,126])=false→ae (.tuple []) (J.ar 83 [(0,⟨[.agg [(eF f),.slice (some ⟨12,0,1,0,1⟩) 0 0,.slice (cm 49) 1 1,.bool true,.ptr (some ⟨1,0,0,0,5⟩),ov]],6,true,false,0,0,0,dty⟩),(1,bj),(2,K),(3,P),(4,O),(11,af.an [.int .u8 c] 1 true),(12,af.an [.int .u8 c] 1 false (some (5,0))),(48,af.an [.int .u8 c] 1 true),(49,af.an [.int .u8 c] 1 false (some (5,0)))]))) :
 b4 129 [.ptr (aJ 0),.int .u8 c] (J.of [b0 0 f 1 (.slice none 0 0) (.slice none 0 0) true ov dty,bj,K,P,O]) ae :=
 b9 sh (.az (.rounds 300) (.aI 1012 .nil .nil)) aW
theorem abf(f pv pm cY cR:Nat)(pl:List aa)(c:Int)(ov:aa)(bj K O:af)(dty:bL)(ae:bI)(aW:(List.isPrefixOf [UInt8.ofNat (Int.toNat c)] (Array.toList #[27,91,50,48,49,126])=true→ae (.tuple []) (J.ar 37 [(0,⟨[.agg [(eF f),.slice (cm 12) 1 1,.slice (some ⟨3,pv,0,0,1⟩) cR cR,.bool true,.ptr (some ⟨1,0,0,0,5⟩),ov]],6,true,false,0,0,0,dty⟩),(1,bj),(2,K),(3,(mH pv pm cY pl)),(4,O),(11,af.an [.int .u8 c] 1 true),(12,af.an [.int .u8 c] 1 false (some (5,0)))]))∧(List.isPrefixOf [UInt8.ofNat (Int.toNat c)] (Array.toList #[27,91,50,48,49,126])=false→((cR:Int)<65536→(pv=pv∧0+cR=List.length pl∧cR<cR+1∧(cR+1+(cR+1)/4+512)*1≤281474976710656∧cR+1<4611686018427387904)∧ae (.tuple []) (J.ar 83 [(0,{bk:=[.agg [(eF f),.slice (some ⟨12,0,1,0,1⟩) 0 0,.slice (some {id:=3,ad:=pv+1,idx:=0,fld:=0,es:=1}) (cR+1) (cR+1),.bool true,.ptr (some ⟨1,0,0,0,5⟩),ov]],es:=6,exact:=true,ro:=false,ad:=0,gd:=0,hj:=0,ty:=dty}),(1,bj),(2,K),(3,⟨pl++[.int .u8 c],1,false,false,pv+1,pm,if pm=pv then List.length pl else min cY (List.length pl),some (5,0)⟩),(4,O),(11,af.an [.int .u8 c] 1 true),(12,af.an [.int .u8 c] 1 false (some (5,0))),(48,af.an [.int .u8 c] 1 true)]))∧(¬(cR:Int)<65536→ae (.tuple []) (J.ar 67 [(0,⟨[.agg [(eF f),.slice (some ⟨12,0,1,0,1⟩) 0 0,.slice (some ⟨3,pv,0,0,1⟩) cR cR,.bool true,.ptr (some ⟨1,0,0,0,5⟩),ov]],6,true,false,0,0,0,dty⟩),(1,bj),(2,K),(3,(mH pv pm cY pl)),(4,O),(11,af.an [.int .u8 c] 1 true),(12,af.an [.int .u8 c] 1 false (some (5,0)))])))) :
 b4 129 [.ptr (aJ 0),.int .u8 c] (J.of [b0 0 f 1 (.slice none 0 0) (.slice (some ⟨3,pv,0,0,1⟩) cR cR) true ov dty,bj,K,ct pl 1 pv pm cY cA,O]) ae :=
 b9 sh (.az (.rounds 300) (.aI 1012 .nil (.aI 2005 (ak 3012 .nil) .nil))) aW
abbrev kF(f kv off n:Nat)(pv ov:aa)(dty:bL):af:=b0 0 f 1 (.slice (some ⟨2,kv,off,0,1⟩) n n) pv true ov dty
abbrev gQ:bJ:=[(0,.ptr (some ⟨0,0,0,0,6⟩))]
theorem IS{D:Nat→Prop}{f kv off n:Nat}{pv ov:aa}{dty:bL}(bf:D 0)(ac:D 1)(ai:D 2)(ah:ch D pv)(ao:ch D ov):∀e∈(kF f kv off n pv ov dty).bk,ch D e:=by intro e he;rw [List.mem_singleton.1 he];simp only [ch,fp];exact⟨⟨⟨bf,trivial⟩,trivial⟩,ai,ah,trivial,ac,ao,trivial⟩
theorem Qd{r:Nat→Nat}{f kv off n:Nat}{pv ov:aa}{dty:bL}(bf:r 0=0)(ac:r 1=1)(ai:r 2=2)(ao:ov.bg r=ov):(kF f kv off n pv ov dty).bg r=kF f kv off n (pv.bg r) ov dty:=by simp [af.bg,af.an,aa.bg,aa.gK,bA.bg,bf,ac,ai,ao]
def mI:Nat→Prop:=fun i=>i=0∨i=1∨i=2∨i=3∨i=4
theorem vN{X al:Bytes}{off:Nat}(h:X.drop off=al):List.take al.length (List.drop off (aN X))=aN al:=by
 have:List.drop off (aN X)=aN (X.drop off):=by simp [aN,List.map_drop]
 rw [this,h,←iN,List.take_length]
theorem CM{X r:Bytes}{b:UInt8}{off:Nat}(h:X.drop off=b::r):(aN X)[off]? =some (.int .u8 (b.toNat:Int)):=by
 have ac:X[off]? =some b:=by have:=congrArg (fun l=>l[0]?) h;simpa [List.getElem?_drop]using this
 simp [aN,ac]
theorem IT{X r:Bytes}{b:UInt8}{off:Nat}(h:X.drop off=b::r):ba (aN X) off=(b.toNat:Int):=by unfold ba;rw [CM h]
theorem IU{X r:Bytes}{b:UInt8}{off:Nat}(h:X.drop off=b::r):X.drop (off+1)=r:=by rw [←List.drop_drop,h];rfl
theorem y0{X k:Bytes}{off:Nat}(h:X.drop off=k)(ao:off≤X.length):off+k.length=X.length:=by rw [←h,List.length_drop];omega
theorem CN(p:Bytes)(b:UInt8):aN p++[aa.int .u8 (b.toNat:Int)]=aN (p++[b]):=by simp [aN]
theorem y1(n:Nat)(p:Bytes):shift n [] p=([],p):=by cases n<;>rfl
theorem IV{K:List Nat}{ov:aa}(h:ch mI ov)(c8:∀i,mI i→i∈K):ch (Go.cf.cp K) ov:=ch.mono c8 h
section
variable(f kv cI cM:Nat)(X:Bytes)(bj P O:af)(ov:aa)(dty:bL)
abbrev vO(off n pv pm cY:Nat)(aD:Bytes):List (Nat×af):=[(0,kF f kv off n (.slice (some ⟨3,pv,0,0,1⟩) aD.length aD.length) ov dty),(1,bj),(2,ct (aN X) 1 kv cI cM cA),(3,ct (aN aD) 1 pv pm cY cA),(4,O)]
theorem IW{K:Nat}(c8:5≤K){h:J}{j off n pv pm cY:Nat}{aD:Bytes}(a1:j=3)(iz:dy bj)(iQ:dy P)(iA:dy O)(co:ch mI ov)
 (e0:h.get 0=some (kF f kv off n (.slice (some ⟨j,pv,0,0,1⟩) aD.length aD.length) ov dty)) (bi:h.get 1=some bj) (bu:h.get 2=some (ct (aN X) 1 kv cI cM cA)) (b7:h.get 3=h.get 3) (cc:h.get 4=some O) (kf:h.get j=some (ct (aN aD) 1 pv pm cY cA)) :
 eL 5 80 gQ h gQ (J.rows K (vO f kv cI cM X bj O ov dty off n pv pm cY aD)):=by
 have abg:Nat.ble 5 j=true∨j=3:=by first|exact .inr a1|exact .inl (Nat.ble_eq.mpr a1)
 have bc:∀i,mI i→(fun k=>if k=3 then j else k) i=i:=by intro i aq;have:i=0∨i=1∨i=2∨i=3∨i=4:=aq;simp only;split<;>omega
 refine eL.move (K:=K) (l:=vO f kv cI cM X bj O ov dty off n pv pm cY aD) (fun k=>if k=3 then j else k) ?_ ?_ ?_ ?_ ?_ ?_ rfl ?_ ?_
 ·have aE:=Qd (r:=fun k=>if k=3 then j else k) (f:=f) (kv:=kv) (off:=off) (n:=n) (pv:= .slice (some ⟨3,pv,0,0,1⟩) aD.length aD.length) (dty:=dty) aM aM aM (aa.Bn bc co);simp only [List.map_cons,List.map_nil,aE,iz.bg,iQ.bg,iA.bg,(qt (lN X) 1 kv cI cM cA).bg,(qt (lN aD) 1 pv pm cY cA).bg];simp [e0,bi,bu,b7,cc,kf,aa.bg,bA.bg]
 ·simp [List.all_cons];omega
 ·simp;omega
 ·subst a1;rfl
 ·subst a1;rfl
 ·simp [aa.bg,bA.bg]
 ·exact bR.cons (by show(0:Nat)∈_;simp) bR.nil
 ·exact bR.cons (IS (by show(0:Nat)∈_;simp) (by show(1:Nat)∈_;simp) (by show(2:Nat)∈_;simp) (by show(3:Nat)∈_;simp) (IV co (by intro i aq;have:i=0∨i=1∨i=2∨i=3∨i=4:=aq;simp;omega))) (bR.cons (fun e he=>(iz e he).eM _) (bR.cons (fun e he=>(lN X e he).eM _) (bR.cons (fun e he=>(lN aD e he).eM _) (bR.cons (fun e he=>(iA e he).eM _) bR.nil))))
theorem abh(iz:dy bj)(iQ:dy P)(iA:dy O)(co:ch mI ov):∀(dl:Nat)(al aD:Bytes)(off pv pm cY:Nat),al.length≤dl→X.drop off=al→off≤X.length→aD.length≤65536→ ∃ic jJ jK,
 hd 5 80 (cs 129 0) gQ (J.rows 5 (vO f kv cI cM X bj O ov dty off al.length pv pm cY aD)) (.exit 0) gQ
  (J.rows 40 (vO f kv cI cM X bj O ov dty (X.length- (shift dl al aD).1.length) (shift dl al aD).1.length ic jJ jK (shift dl al aD).2)):=by
 intro dl
 have fin:∀(dl:Nat)(al aD:Bytes)(off pv pm cY:Nat),X.drop off=al→off≤X.length→shift dl al aD=(al,aD)→(al≠[]→al.isPrefixOf dW=true)→ ∃ic jJ jK,
  hd 5 80 (cs 129 0) gQ (J.rows 5 (vO f kv cI cM X bj O ov dty off al.length pv pm cY aD)) (.exit 0) gQ
   (J.rows 40 (vO f kv cI cM X bj O ov dty (X.length- (shift dl al aD).1.length) (shift dl al aD).1.length ic jJ jK (shift dl al aD).2)):=by
  intro dl al aD off pv pm cY fG ao hs ah;have aC:=y0 fG ao
  obtain⟨e,aU,ac,bc,rfl,rfl,e0,bi,bu,b7,cc,kf⟩:=Qb f off kv cI cM al.length pv pm cY aD.length (aN X) (aN aD) ov bj O dty (fun e aU ac=>e=.exit 0∧aU=gQ∧ac.get 0=some (kF f kv off al.length (.slice (some ⟨3,pv,0,0,1⟩) aD.length aD.length) ov dty)∧ac.get 1=some bj∧ac.get 2=some (ct (aN X) 1 kv cI cM cA)∧ac.get 3=ac.get 3∧ac.get 4=some O∧ac.get 3=some (ct (aN aD) 1 pv pm cY cA)) (by
   delta mH jo CK eF
   rw [vN fG,jh];refine⟨fun h=>⟨rfl,by rw [iN];omega,⟨al,rfl⟩,fun _=>⟨rfl,rfl,rfl,rfl,rfl,rfl,rfl,rfl⟩,fun ai=> ?_⟩,fun _=>⟨rfl,rfl,rfl,rfl,rfl,rfl,rfl,rfl⟩⟩;have bX:al≠[]:=by rintro rfl;simp at h
   have:=ah bX;rw [show Array.toList #[(27:UInt8),91,50,48,49,126]=dW from rfl,this]at ai
   cases ai)
  refine⟨pv,pm,cY,?_⟩;rw [hs];simp only;rw [show X.length-al.length=off by omega];exact(dK.last aM bc).post (IW f kv cI cM X bj P O ov dty aS aS iz iQ iA co e0 bi bu b7 cc kf)
 induction dl with
 |zero =>
  intro al aD off pv pm cY aZ fG ao ah;have au:al=[]:=List.eq_nil_of_length_eq_zero ab;subst au;exact fin 0 [] aD off pv pm cY fG ao (y1 _ _) (fun h=>absurd rfl h)
 |succ dl ih =>
  intro al aD off pv pm cY aZ fG ao ah;cases al with
  |nil=>exact fin (dl+1) [] aD off pv pm cY fG ao (y1 _ _) (fun h=>absurd rfl h)
  |cons b r =>
   cases aB:(b::r).isPrefixOf dW with
   |true=>exact fin (dl+1) (b::r) aD off pv pm cY fG ao (by simp only [shift,aB,if_true]) (fun _=>aB)
   |false =>
    have aC:=y0 fG ao;simp only [List.length_cons]at aC aZ;have gA:shift (dl+1) (b::r) aD=shift dl r (if aD.length<65536 then aD++[b]else aD):=by simp only [shift,aB];rfl
    rw [gA]
    obtain⟨e,aU,ac,bc,rfl,rfl,j8,tQ,tR,e0,bi,bu,b7,cc,kf⟩:=Qb f off kv cI cM (b::r).length pv pm cY aD.length (aN X) (aN aD) ov bj O dty (fun e aU ac=>e=.normal∧aU=gQ∧∃j8 tQ tR,ac.get 0=some (kF f kv (off+1) r.length (.slice (some ⟨3,j8,0,0,1⟩) (if aD.length<65536 then aD++[b]else aD).length (if aD.length<65536 then aD++[b]else aD).length) ov dty)∧ac.get 1=some bj∧ac.get 2=some (ct (aN X) 1 kv cI cM cA)∧ac.get 3=ac.get 3∧ac.get 4=some O∧ac.get 3=some (ct (aN (if aD.length<65536 then aD++[b]else aD)) 1 j8 tQ tR cA)) (by
     delta mH jo CK eF
     rw [vN fG,jh,show off+0=off from rfl,IT fG,CM fG];have o8:=iN aD;refine⟨fun h=>⟨rfl,by rw [iN];simp only [List.length_cons];omega,⟨b::r,rfl⟩,fun ai=> ?_,fun _=>⟨fun cG=>⟨⟨ab,h⟩,rfl,rfl,⟨rfl,ab,ab,ab,ab⟩,⟨ab,ab,Nat.le_refl _⟩,rfl,rfl,?_⟩,fun gi=>⟨⟨ab,ab,Nat.le_refl _⟩,rfl,rfl,?_⟩⟩⟩,fun h=>by simp only [List.length_cons]at h;omega⟩
     ·rw [show Array.toList #[(27:UInt8),91,50,48,49,126]=dW from rfl,aB]at ai;cases ai
     ·rw [if_pos (show aD.length<65536 by omega),←CN,List.length_append];exact⟨_,_,_,rfl,rfl,rfl,rfl,rfl,rfl⟩
     ·rw [if_neg (show ¬aD.length<65536 by omega)]
      exact⟨_,_,_,rfl,rfl,rfl,rfl,rfl,rfl⟩)
    have vu:(if aD.length<65536 then aD++[b]else aD).length≤65536:=by
     split
     ·rw [List.length_append];simp only [List.length_cons,List.length_nil];omega
     ·exact ah
    obtain⟨ic,jJ,jK,dN⟩:=ih r _ (off+1) j8 tQ tR ab (IU fG) ab vu;exact⟨ic,jJ,jK,dK.step (bc.post (IW f kv cI cM X bj P O ov dty aS aS iz iQ iA co e0 bi bu b7 cc kf)) dN⟩
abbrev tS(off n pv pm cY:Nat)(aD:Bytes):List (Nat×af):=[(0,kF f kv off n (.slice (some ⟨30,pv,0,0,1⟩) aD.length aD.length) ov dty),(1,bj),(2,ct (aN X) 1 kv cI cM cA),(3,P),(4,O),(30,ct (aN aD) 1 pv pm cY cA)]
theorem IX{K:Nat}(c8:40≤K){h:J}{j off n pv pm cY:Nat}{aD:Bytes}(a1:5≤j)(iz:dy bj)(iQ:dy P)(iA:dy O)(co:ch mI ov)
 (e0:h.get 0=some (kF f kv off n (.slice (some ⟨j,pv,0,0,1⟩) aD.length aD.length) ov dty)) (bi:h.get 1=some bj) (bu:h.get 2=some (ct (aN X) 1 kv cI cM cA)) (b7:h.get 3=some P) (cc:h.get 4=some O) (kf:h.get j=some (ct (aN aD) 1 pv pm cY cA)) :
 eL 5 80 gQ h gQ (J.rows K (tS f kv cI cM X bj P O ov dty off n pv pm cY aD)):=by
 have abg:Nat.ble 5 j=true∨j=3:=by first|exact .inr a1|exact .inl (Nat.ble_eq.mpr a1)
 have bc:∀i,mI i→(fun k=>if k=30 then j else k) i=i:=by intro i aq;have:i=0∨i=1∨i=2∨i=3∨i=4:=aq;simp only;split<;>omega
 refine eL.move (K:=K) (l:=tS f kv cI cM X bj P O ov dty off n pv pm cY aD) (fun k=>if k=30 then j else k) ?_ ?_ ?_ ?_ ?_ ?_ rfl ?_ ?_
 ·have aE:=Qd (r:=fun k=>if k=30 then j else k) (f:=f) (kv:=kv) (off:=off) (n:=n) (pv:= .slice (some ⟨30,pv,0,0,1⟩) aD.length aD.length) (dty:=dty) aM aM aM (aa.Bn bc co);simp only [List.map_cons,List.map_nil,aE,iz.bg,iQ.bg,iA.bg,(qt (lN X) 1 kv cI cM cA).bg,(qt (lN aD) 1 pv pm cY cA).bg];simp [e0,bi,bu,b7,cc,kf,aa.bg,bA.bg]
 ·simp [List.all_cons];omega
 ·simp;omega
 ·rfl
 ·simp [Nat.blt,a1]
 ·simp [aa.bg,bA.bg]
 ·exact bR.cons (by show(0:Nat)∈_;simp) bR.nil
 ·exact bR.cons (IS (by show(0:Nat)∈_;simp) (by show(1:Nat)∈_;simp) (by show(2:Nat)∈_;simp) (by show(30:Nat)∈_;simp) (IV co (by intro i aq;have:i=0∨i=1∨i=2∨i=3∨i=4:=aq;simp;omega))) (bR.cons (fun e he=>(iz e he).eM _) (bR.cons (fun e he=>(lN X e he).eM _) (bR.cons (fun e he=>(iQ e he).eM _) (bR.cons (fun e he=>(iA e he).eM _) (bR.cons (fun e he=>(lN aD e he).eM _) bR.nil)))))
theorem abi(iz:dy bj)(iQ:dy P)(iA:dy O)(co:ch mI ov):∀(dl:Nat)(al aD:Bytes)(off pv pm cY:Nat),al.length≤dl→X.drop off=al→off≤X.length→aD.length≤65536→ ∃ic jJ jK,
 hd 5 80 (cs 129 0) gQ (J.rows 40 (tS f kv cI cM X bj P O ov dty off al.length pv pm cY aD)) (.exit 0) gQ
  (J.rows 40 (tS f kv cI cM X bj P O ov dty (X.length- (shift dl al aD).1.length) (shift dl al aD).1.length ic jJ jK (shift dl al aD).2)):=by
 intro dl
 have fin:∀(dl:Nat)(al aD:Bytes)(off pv pm cY:Nat),X.drop off=al→off≤X.length→shift dl al aD=(al,aD)→(al≠[]→al.isPrefixOf dW=true)→ ∃ic jJ jK,
  hd 5 80 (cs 129 0) gQ (J.rows 40 (tS f kv cI cM X bj P O ov dty off al.length pv pm cY aD)) (.exit 0) gQ
   (J.rows 40 (tS f kv cI cM X bj P O ov dty (X.length- (shift dl al aD).1.length) (shift dl al aD).1.length ic jJ jK (shift dl al aD).2)):=by
  intro dl al aD off pv pm cY fG ao hs ah;have aC:=y0 fG ao
  obtain⟨e,aU,ac,bc,rfl,rfl,e0,bi,bu,b7,cc,kf⟩:=Qc f off kv cI cM al.length pv pm cY aD.length (aN X) (aN aD) ov bj P O dty (fun e aU ac=>e=.exit 0∧aU=gQ∧ac.get 0=some (kF f kv off al.length (.slice (some ⟨30,pv,0,0,1⟩) aD.length aD.length) ov dty)∧ac.get 1=some bj∧ac.get 2=some (ct (aN X) 1 kv cI cM cA)∧ac.get 3=some P∧ac.get 4=some O∧ac.get 30=some (ct (aN aD) 1 pv pm cY cA)) (by
   delta mH jo CL eF
   rw [vN fG,jh];refine⟨fun h=>⟨rfl,by rw [iN];omega,⟨al,rfl⟩,fun _=>⟨rfl,rfl,rfl,rfl,rfl,rfl,rfl,rfl⟩,fun ai=> ?_⟩,fun _=>⟨rfl,rfl,rfl,rfl,rfl,rfl,rfl,rfl⟩⟩;have bX:al≠[]:=by rintro rfl;simp at h
   have:=ah bX;rw [show Array.toList #[(27:UInt8),91,50,48,49,126]=dW from rfl,this]at ai
   cases ai)
  refine⟨pv,pm,cY,?_⟩;rw [hs];simp only;rw [show X.length-al.length=off by omega];exact(dK.last aM bc).post (IX f kv cI cM X bj P O ov dty aS aS iz iQ iA co e0 bi bu b7 cc kf)
 induction dl with
 |zero =>
  intro al aD off pv pm cY aZ fG ao ah;have au:al=[]:=List.eq_nil_of_length_eq_zero ab;subst au;exact fin 0 [] aD off pv pm cY fG ao (y1 _ _) (fun h=>absurd rfl h)
 |succ dl ih =>
  intro al aD off pv pm cY aZ fG ao ah;cases al with
  |nil=>exact fin (dl+1) [] aD off pv pm cY fG ao (y1 _ _) (fun h=>absurd rfl h)
  |cons b r =>
   cases aB:(b::r).isPrefixOf dW with
   |true=>exact fin (dl+1) (b::r) aD off pv pm cY fG ao (by simp only [shift,aB,if_true]) (fun _=>aB)
   |false =>
    have aC:=y0 fG ao;simp only [List.length_cons]at aC aZ;have gA:shift (dl+1) (b::r) aD=shift dl r (if aD.length<65536 then aD++[b]else aD):=by simp only [shift,aB];rfl
    rw [gA]
    obtain⟨e,aU,ac,bc,rfl,rfl,j8,tQ,tR,e0,bi,bu,b7,cc,kf⟩:=Qc f off kv cI cM (b::r).length pv pm cY aD.length (aN X) (aN aD) ov bj P O dty (fun e aU ac=>e=.normal∧aU=gQ∧∃j8 tQ tR,ac.get 0=some (kF f kv (off+1) r.length (.slice (some ⟨30,j8,0,0,1⟩) (if aD.length<65536 then aD++[b]else aD).length (if aD.length<65536 then aD++[b]else aD).length) ov dty)∧ac.get 1=some bj∧ac.get 2=some (ct (aN X) 1 kv cI cM cA)∧ac.get 3=some P∧ac.get 4=some O∧ac.get 30=some (ct (aN (if aD.length<65536 then aD++[b]else aD)) 1 j8 tQ tR cA)) (by
     delta mH jo CL eF
     rw [vN fG,jh,show off+0=off from rfl,IT fG,CM fG];have o8:=iN aD;refine⟨fun h=>⟨rfl,by rw [iN];simp only [List.length_cons];omega,⟨b::r,rfl⟩,fun ai=> ?_,fun _=>⟨fun cG=>⟨⟨ab,h⟩,rfl,rfl,⟨rfl,ab,ab,ab,ab⟩,⟨ab,ab,Nat.le_refl _⟩,rfl,rfl,?_⟩,fun gi=>⟨⟨ab,ab,Nat.le_refl _⟩,rfl,rfl,?_⟩⟩⟩,fun h=>by simp only [List.length_cons]at h;omega⟩
     ·rw [show Array.toList #[(27:UInt8),91,50,48,49,126]=dW from rfl,aB]at ai;cases ai
     ·rw [if_pos (show aD.length<65536 by omega),←CN,List.length_append];exact⟨_,_,_,rfl,rfl,rfl,rfl,rfl,rfl⟩
     ·rw [if_neg (show ¬aD.length<65536 by omega)]
      exact⟨_,_,_,rfl,rfl,rfl,rfl,rfl,rfl⟩)
    have vu:(if aD.length<65536 then aD++[b]else aD).length≤65536:=by
     split
     ·rw [List.length_append];simp only [List.length_cons,List.length_nil];omega
     ·exact ah
    obtain⟨ic,jJ,jK,dN⟩:=ih r _ (off+1) j8 tQ tR ab (IU fG) ab vu;exact⟨ic,jJ,jK,dK.step (bc.post (IX f kv cI cM X bj P O ov dty aS aS iz iQ iA co e0 bi bu b7 cc kf)) dN⟩
end
end Go.Proofs.YtddnafghiejcoaaGreatDoor
namespace Go.Keys
theorem Qe:∀(n:Nat)(k p:Bytes),∃t,k=t++(shift n k p).1
 |0,k,p=>⟨[],rfl⟩
 |n+1,[],p=>⟨[],rfl⟩
 |n +1,b::r,p=>by
  simp only [shift];split
  ·exact⟨[],rfl⟩
  ·obtain⟨t,bW⟩:=Qe n r (if p.length<65536 then p++[b]else p);exact⟨b::t,by rw [List.cons_append,←bW]⟩
theorem IY:∀(n:Nat)(k p:Bytes),p≠[]→(shift n k p).2≠[]
 |0,k,p,h=>h
 |n+1,[],p,h=>h
 |n +1,b::r,p,h=>by
  simp only [shift];split
  ·exact h
  ·refine IY n r _ ?_;split
   ·simp
   ·exact h
end Go.Keys
namespace Go.Proofs.YtddnafghiejcoaaGreatDoor
open Go.cf Go.Keys
set_option maxRecDepth 1000000
section
variable(f kv cI cM:Nat)(X:Bytes)(bj P O:af)(ov:aa)(dty:bL)
abbrev sj(off n:Nat):List (Nat×af):=[(0,kF f kv off n (.slice none 0 0) ov dty),(1,bj),(2,ct (aN X) 1 kv cI cM cA),(3,P),(4,O)]
theorem Qf{K:Nat}(c8:5≤K){h:J}{off n:Nat}(iz:dy bj)(iQ:dy P)(iA:dy O)(co:ch mI ov)
 (e0:h.get 0=some (kF f kv off n (.slice none 0 0) ov dty)) (bi:h.get 1=some bj) (bu:h.get 2=some (ct (aN X) 1 kv cI cM cA)) (b7:h.get 3=some P) (cc:h.get 4=some O) :
 eL 5 80 gQ h gQ (J.rows K (sj f kv cI cM X bj P O ov dty off n)):=by
 refine eL.drop (K:=K) (l:=sj f kv cI cM X bj P O ov dty off n) (by simp [e0,bi,bu,b7,cc]) (by simp [List.all_cons];omega) rfl rfl (bR.cons (by show(0:Nat)∈_;simp) bR.nil) ?_;exact bR.cons (IS (by show(0:Nat)∈_;simp) (by show(1:Nat)∈_;simp) (by show(2:Nat)∈_;simp) trivial (IV co (by intro i aq;have:i=0∨i=1∨i=2∨i=3∨i=4:=aq;simp;omega))) (bR.cons (fun e he=>(iz e he).eM _) (bR.cons (fun e he=>(lN X e he).eM _) (bR.cons (fun e he=>(iQ e he).eM _) (bR.cons (fun e he=>(iA e he).eM _) bR.nil))))
theorem abj(iz:dy bj)(iQ:dy P)(iA:dy O)(co:ch mI ov)(dl:Nat)(al:Bytes)(off:Nat)(aZ:al.length≤dl)(fG:X.drop off=al)(ao:off≤X.length) :
 ((shift dl al []).2=[]→hd 5 80 (cs 129 0) gQ (J.rows 5 (sj f kv cI cM X bj P O ov dty off al.length)) (.exit 0) gQ (J.rows 40 (sj f kv cI cM X bj P O ov dty (X.length- (shift dl al []).1.length) (shift dl al []).1.length))) ∧
 ((shift dl al []).2≠[]→ ∃ic jJ jK,hd 5 80 (cs 129 0) gQ (J.rows 5 (sj f kv cI cM X bj P O ov dty off al.length)) (.exit 0) gQ (J.rows 40 (tS f kv cI cM X bj P O ov dty (X.length- (shift dl al []).1.length) (shift dl al []).1.length ic jJ jK (shift dl al []).2))):=by
 have aC:=y0 fG ao
 have fin:shift dl al []=(al,[])→(al≠[]→al.isPrefixOf dW=true)→hd 5 80 (cs 129 0) gQ (J.rows 5 (sj f kv cI cM X bj P O ov dty off al.length)) (.exit 0) gQ (J.rows 40 (sj f kv cI cM X bj P O ov dty (X.length- (shift dl al []).1.length) (shift dl al []).1.length)):=by
  intro hs ah
  obtain⟨e,aU,ac,bc,rfl,rfl,e0,bi,bu,b7,cc⟩:=Qa f off kv cI cM al.length (aN X) ov bj P O dty (fun e aU ac=>e=.exit 0∧aU=gQ∧ac.get 0=some (kF f kv off al.length (.slice none 0 0) ov dty)∧ac.get 1=some bj∧ac.get 2=some (ct (aN X) 1 kv cI cM cA)∧ac.get 3=some P∧ac.get 4=some O) (by
   delta jo CJ eF
   rw [vN fG,jh];refine⟨fun h=>⟨rfl,by rw [iN];omega,⟨al,rfl⟩,fun _=>⟨rfl,rfl,rfl,rfl,rfl,rfl,rfl⟩,fun ai=> ?_⟩,fun _=>⟨rfl,rfl,rfl,rfl,rfl,rfl,rfl⟩⟩;have bX:al≠[]:=by rintro rfl;simp at h
   have:=ah bX;rw [show Array.toList #[(27:UInt8),91,50,48,49,126]=dW from rfl,this]at ai
   cases ai)
  rw [hs];simp only;rw [show X.length-al.length=off by omega];exact(dK.last aM bc).post (Qf f kv cI cM X bj P O ov dty aS iz iQ iA co e0 bi bu b7 cc)
 cases al with
 |nil =>
  have hs:shift dl [] []=([],[]):=y1 _ _;exact⟨fun _=>fin hs (fun h=>absurd rfl h),fun h=>absurd (by rw [hs]) h⟩
 |cons b r =>
  cases dl with
  |zero=>simp at aZ
  |succ dl =>
   cases aB:(b::r).isPrefixOf dW with
   |true =>
    have hs:shift (dl+1) (b::r) []=(b::r,[]):=by simp only [shift,aB,if_true]
    exact⟨fun _=>fin hs (fun _=>aB),fun h=>absurd (by rw [hs]) h⟩
   |false =>
    have gA:shift (dl+1) (b::r) []=shift dl r [b]:=by simp only [shift,aB];rfl
    rw [gA];simp only [List.length_cons]at aC aZ;refine⟨fun h=>absurd h (IY _ _ _ aM),fun _=> ?_⟩
    obtain⟨e,aU,ac,bc,rfl,rfl,j,a1,e0,bi,bu,b7,cc,kf⟩:=Qa f off kv cI cM (b::r).length (aN X) ov bj P O dty (fun e aU ac=>e=.normal∧aU=gQ∧∃j,5≤j∧ac.get 0=some (kF f kv (off+1) r.length (.slice (some ⟨j,0,0,0,1⟩) ([b]:Bytes).length ([b]:Bytes).length) ov dty)∧ac.get 1=some bj∧ac.get 2=some (ct (aN X) 1 kv cI cM cA)∧ac.get 3=some P∧ac.get 4=some O∧ac.get j=some (ct (aN [b]) 1 0 0 0 cA)) (by
     delta jo CJ eF
     rw [vN fG,jh,show off+0=off from rfl,IT fG,CM fG];refine⟨fun h=>⟨rfl,by rw [iN];simp only [List.length_cons];omega,⟨b::r,rfl⟩,fun ai=> ?_,fun _=>⟨⟨ab,h⟩,rfl,rfl,⟨ab,ab,Nat.le_refl _⟩,rfl,rfl,_, aS,rfl,rfl,rfl,rfl,rfl,rfl⟩⟩,fun h=>by simp only [List.length_cons]at h;omega⟩;rw [show Array.toList #[(27:UInt8),91,50,48,49,126]=dW from rfl,aB]at ai
     cases ai)
    obtain⟨ic,jJ,jK,dN⟩:=abi f kv cI cM X bj P O ov dty iz iQ iA co dl r [b] (off+1) 0 0 0 ab (IU fG) ab aM;exact⟨ic,jJ,jK,dK.step (bc.post (IX f kv cI cM X bj P O ov dty aS a1 iz iQ iA co e0 bi bu b7 cc kf)) dN⟩
end
theorem ox{h:J}{f:Nat}{kv pv ov:aa}{pas:Bool}{ty uty:bL}{aF al aD:Bytes}{j0 j1 j2 j3:Int}{D bj K P O:af}{ks:fY}{es:List bl}{a7:cp}{k p:Nat}(bF:Nat.ble 5 h.U=true)
 (e0:h.get 0=some (b0 0 f 1 kv pv pas ov ty)) (bi:h.get 1=some (cb aF j0 j1 j2 j3 uty)) (bu:h.get 2=some K∨a7.k=2) (b7:h.get 3=some P∨a7.p=3) (cc:h.get 4=some O) (au:jl h 0 k kv ks al) (ah:jm h 0 p pv aD)
 (ao:jn (J.of [D,bj,K,P,O]) 0 a7.o ov es) (cL:a7.u=1∧(a7.k=0∨a7.k=2)∧(a7.p=0∨a7.p=3)∧(a7.o=0∨a7.o=4)) (ahH:k=0∨(k=2∧a7.k=2)∨5≤k) (ahI:p=0∨(p=3∧a7.p=3)∨5≤p) (bX:k=0∨p=0∨k≠p) (ky:Nat.blt k h.U=true) (Qg:Nat.blt p h.U=true) :
 dP h 0 ⟨1,k,p,a7.o⟩ f pas ks al aF aD es∧Fr (J.of [D,bj,K,P,O]) h 0 a7 ⟨1,k,p,a7.o⟩ where
 left:= {
  ex:=by
   refine⟨kv,pv,ov,ty,e0,au,ah,ao.keep fun aR=> ?_⟩;rcases cL.2.2.2 with h|h
   ·exact absurd h aR
   ·rw [h,cc,J.eV];rfl
  iD:=⟨j0,j1,j2,j3,uty,bi⟩
  lt:=by have:=cL.2.2.2;have bF:=Nat.le_of_ble_eq_true bF;have ky:=Nat.blt_eq.mp ky;have Qg:=Nat.blt_eq.mp Qg;show 0<h.U∧1<h.U∧k<h.U∧p<h.U∧a7.o<h.U;omega
  ne:=bX}
 right := {
  U:=Nat.le_of_ble_eq_true bF
  get :=fun j a1 a6 n2 eY hN ha=>by
   have a1:j<5:=a1;have:(j=2∧a7.k≠2)∨(j=3∧a7.p≠3)∨j=4:= ab;rw [J.eV];rcases this with ⟨rfl,au⟩|⟨rfl,au⟩|rfl
   ·rcases bu with e|e
    ·exact e
    ·exact absurd e au
   ·rcases b7 with e|e
    ·exact e
    ·exact absurd e au
   ·exact cc
  ids:=fun x aj=>by
   show x=0∨x=a7.u∨x=a7.k∨x=a7.p∨x=a7.o∨5≤x;have aj:x=1∨x=k∨x=p∨x=a7.o:=aj
   omega}
theorem y2(h:J):jm h 0 0 (.slice none 0 0) []:= .inl ⟨rfl,rfl,rfl⟩
theorem vP{h:J}{p ad m f:Nat}{l:Bytes}{v:aa}(ah:p≠0)(aC:l≠[])(bh:v=.slice (some ⟨p,ad,0,0,1⟩) l.length l.length)(e:h.get p=some (ct (aN l) 1 ad m f cA)):jm h 0 p v l :=
 .inr ⟨ah,aC,ad,m,f,bh,by simpa using e⟩
theorem oy{h:J}{k ad m f off n:Nat}{X junk l:Bytes}(au:k≠0)(fG:X=junk++l)(ao:off=junk.length)(aR:n=l.length)(e:h.get k=some (ct (aN X) 1 ad m f cA)):jl h 0 k (.slice (some ⟨k,ad,off,0,1⟩) n n) (.grown junk) l:=by subst aR;subst ao;subst fG;exact⟨au,ad,m,f,rfl,e⟩
theorem abk{al aD:Bytes}{c:UInt8}{S:Bytes×Bytes}(cu:shift (al.length+1) (al++[c]) aD=S):Keys.cK ⟨.cK,al,[],aD⟩ c=if S.1.length=6 then(⟨.ground,[],[],[]⟩,[{kind:=4,text:=S.2}])else(⟨.cK,S.1,[],S.2⟩,[]):=by unfold Keys.cK;simp only [cu];rfl
def y3(s:bK)(c:UInt8):Prop:=s.nx=.cK∧s.aF=[]∧s.al.length<6∧s.aD.length≤65536
theorem abl{h:J}{o:Nat}{ov:aa}{es:List bl}(ac:jn h 0 o ov es)(ao:o=0∨o=4):ch mI ov:=by
 rcases ac with ⟨rfl,_⟩|⟨_,_,ad,m,f,rfl,_⟩
 ·trivial
 ·show mI o;unfold mI;omega
abbrev IZ(L:J)(a7:cp)(es:List bl)(R:bK×List bl)(v:aa)(ag:J):Prop:=v=.tuple []∧∃aO,ci ag 0 aO R.1 (es++R.2)∧Fr L ag 0 a7 aO
theorem Qh(a b c d e:af):J.rows 40 [(0,a),(1,b),(2,c),(3,d),(4,e)]=J.ar 40 [(0,a),(1,b),(2,c),(3,d),(4,e)]:= ay
theorem abm(a b c d e f:af):J.rows 40 [(0,a),(1,b),(2,c),(3,d),(4,e),(30,f)]=J.ar 40 [(0,a),(1,b),(2,c),(3,d),(4,e),(30,f)]:= ay
theorem sk{h L:J}{a7 I:cp}{ks:fY}{k p:Bytes}{es:List bl}{R:bK×List bl}(f':dP h 0 I (cy .cK) true ks k [] p es∧Fr L h 0 a7 I)(gA:qs .cK ks k)(dX:R=(⟨.cK,k,[],p⟩,[])):IZ L a7 es R (.tuple []) h:=by subst dX;exact⟨rfl,I,by rw [List.append_nil];exact⟨ks,f'.1,gA⟩,f'.2⟩
theorem I0{h L:J}{a7 I:cp}{ks:fY}{k t:Bytes}{es:List bl}{R:bK×List bl}{cD:aa}(bF:Nat.ble 5 h.U=true)(f':dP h 0 I (cy .cK) false ks k [] [] es∧Fr L h 0 a7 I)(he:cD=cB {kind:=4,text:=t})(ck:es.length<2^30)(dX:R=(⟨.ground,[],[],[]⟩,[{kind:=4,text:=t}])) :
 cq h ⟨0,0,0,0,6⟩ cD∧∀ag,cr h ⟨0,0,0,0,6⟩ cD ag→_root_.cond (Nat.ble 5 ag.U) (IZ L a7 es R (.tuple []) ag) False:=by
 subst dX;exact tE rfl (Nat.le_of_ble_eq_true bF) f' he ck aM fun ag aO g cF=>⟨rfl,aO,yd g,cF⟩
theorem abn{H:J}{d:Nat}{I:cp}{s:bK}{es:List bl}{c:UInt8}(g:ci H d I s es)(ck:es.length<2^30-8)(dX:y3 s c):∃aQ,bS 129 [.ptr (some ⟨d,0,0,0,6⟩),.int .u8 c.toNat] H (.tuple []) aQ ∧
 ∃aO,ci aQ d aO (Keys.cK s c).1 (es++(Keys.cK s c).2)∧Fr H aQ d I aO:=by
 obtain⟨ks,g,hs⟩:=g;refine g.NZ (Q:=fun h d I=>ci h d I (Keys.cK s c).1 (es++(Keys.cK s c).2)) (fun a aT=>by rw [List.mem_singleton.1 aT];exact cU.int _ _) (cU.of rfl) (fun ag aQ r d I bc iu cG q=>q.pn bc iu cG) ?_;intro kv pv ov ty uty j0 j1 j2 j3 K P O a7 gs cL ahJ iQ iA;obtain⟨au,ah,ao⟩:=nv gs;obtain⟨nx,al,aF,aD⟩:=s;obtain⟨ac,ai,lv,p3⟩:=dX;simp only at ac ai lv p3 hs gs au ah ao⊢;subst ac ai;simp only [show decide (nj.cK=nj.cK)=true from rfl]at ah ao au gs⊢;have co:=abl ao cL.2.2.2;have iz:dy (cb [] j0 j1 j2 j3 uty):=r5 _ _ _ _ _ _;have AF:=c.toNat_lt;cases cu:shift (al.length+1) (al++[c]) aD with
 |mk aK ep =>
 have nX:=abk cu
 suffices bU:∃v ag,bS 129 [.ptr (some ⟨0,0,0,0,6⟩),.int .u8 c.toNat] (J.of [b0 0 (cy .cK) 1 kv pv true ov ty,cb [] j0 j1 j2 j3 uty,K,P,O]) v ag ∧
  IZ (J.of [b0 0 (cy .cK) 1 kv pv true ov ty,cb [] j0 j1 j2 j3 uty,K,P,O]) a7 es (Keys.cK ⟨.cK,al,[],aD⟩ c) v ag by
  obtain⟨v,ag,aE,rfl,q⟩:=bU;exact⟨ag,aE,q⟩
 cases ks with
 |one=>exact hs.elim
 |nil =>
  obtain⟨rfl,rfl,kE⟩:=au;have bi:UInt8.ofNat (Int.toNat (c.toNat:Int))=c:= aM;have gA:shift 1 [c] aD=if [c].isPrefixOf dW then([c],aD)else([],if aD.length<65536 then aD++[c]else aD):=by simp only [shift]
  have cu:shift 1 [c] aD=(aK,ep):=cu;rw [gA]at cu;have pre: [c].isPrefixOf dW=true→aK=[c]∧ep=aD:=fun aB=>by rw [aB]at cu;simpa [eq_comm]using cu
  have I1: [c].isPrefixOf dW=false→aK=[]∧ep=if aD.length<65536 then aD++[c]else aD:=fun aB=>by rw [aB]at cu;simpa [eq_comm]using cu
  rcases ah with ⟨rfl,rfl,y4⟩|⟨y4,CO,y5⟩
  ·refine abe (cy .cK) c.toNat ov (cb [] j0 j1 j2 j3 uty) K P O ty _ ?_
   delta eF
   rw [bi,show Array.toList #[(27:UInt8),91,50,48,49,126]=dW from rfl];refine⟨fun aB=> ?_,fun aB=> ?_⟩
   ·obtain⟨rfl,rfl⟩:=pre aB;exact sk (ox (k:=12) (p:=0) rfl rfl rfl (.inl rfl) (.inl rfl) rfl (oy (junk:=[]) (X:=[c]) aS rfl rfl rfl rfl) (y2 _) ao cL (.inr (.inr aS)) (.inl rfl) (.inr (.inl rfl)) rfl rfl) trivial nX
   ·obtain⟨rfl,rfl⟩:=I1 aB;exact sk (ox (k:=12) (p:=49) rfl rfl rfl (.inl rfl) (.inl rfl) rfl (oy (junk:=[c]) (X:=[c]) aS rfl rfl rfl rfl) (vP (l:=[c]) aS aM rfl rfl) ao cL (.inr (.inr aS)) (.inr (.inr aS)) (.inr (.inr aS)) rfl rfl) trivial nX
  ·have nE:a7.p=3:= ab;rw [nE]at y4 y5;obtain⟨j8,pm,cY,rfl,mJ⟩:=y5;rw [J.eV]at mJ;simp only [List.getElem?_cons_zero,List.getElem?_cons_succ,Option.some.injEq,List.nil_append,List.length_nil]at mJ;subst mJ;refine abf (cy .cK) j8 pm cY aD.length (aN aD) c.toNat ov (cb [] j0 j1 j2 j3 uty) K O ty _ ?_
   delta mH eF
   rw [bi,show Array.toList #[(27:UInt8),91,50,48,49,126]=dW from rfl];have o8:=iN aD;refine⟨fun aB=> ?_,fun aB=>⟨fun cG=>⟨⟨rfl,ab,ab,ab,ab⟩,?_⟩,fun gi=> ?_⟩⟩
   ·obtain⟨rfl,rfl⟩:=pre aB;exact sk (ox (k:=12) (p:=3) rfl rfl rfl (.inl rfl) (.inr nE) rfl (oy (junk:=[]) (X:=[c]) aS rfl rfl rfl rfl) (vP aS CO rfl rfl) ao cL (.inr (.inr aS)) (.inr (.inl ⟨rfl,nE⟩)) (.inr (.inr aS)) rfl rfl) trivial nX
   ·obtain⟨rfl,rfl⟩:=I1 aB;rw [if_pos (show aD.length<65536 by omega)]at nX;exact sk (ox (k:=12) (p:=3) rfl rfl rfl (.inl rfl) (.inr nE) rfl (oy (junk:=[c]) (X:=[c]) aS rfl rfl rfl rfl) (vP (l:=aD++[c]) aS aM (by rw [List.length_append];rfl) (by rw [←CN];rfl)) ao cL (.inr (.inr aS)) (.inr (.inl ⟨rfl,nE⟩)) (.inr (.inr aS)) rfl rfl) trivial nX
   ·obtain⟨rfl,rfl⟩:=I1 aB;rw [if_neg (show ¬aD.length<65536 by omega)]at nX;exact sk (ox (k:=12) (p:=3) rfl rfl rfl (.inl rfl) (.inr nE) rfl (oy (junk:=[c]) (X:=[c]) aS rfl rfl rfl rfl) (vP aS CO rfl rfl) ao cL (.inr (.inr aS)) (.inr (.inl ⟨rfl,nE⟩)) (.inr (.inr aS)) rfl rfl) trivial nX
 |grown junk =>
  obtain⟨kE,ad,m,aG,rfl,c8⟩:=au;have cn:a7.k=2:= ab;rw [cn,J.eV]at c8;simp only [List.getElem?_cons_zero,List.getElem?_cons_succ,Option.some.injEq]at c8;subst c8;rw [cn]at ah ao⊢;have CP:aN (junk++al)++[aa.int .u8 (c.toNat:Int)]=aN (junk++(al++[c])):=by rw [CN,List.append_assoc]
  generalize I2:junk++(al++[c])=X at CP;have fG:X.drop junk.length=al++[c]:=by rw [←I2];simp
  have ahK:X.length=junk.length+al.length+1:=by rw [←I2];simp;omega
  have zN:(al++[c]).length=al.length+1:= aM;have xg:(aN (junk++al)).length=junk.length+al.length:=by rw [iN,List.length_append]
  obtain⟨t,bW⟩:=Qe (al.length+1) (al++[c]) aD;rw [cu]at bW;simp only at bW;have tT:X=(junk++t)++aK:=by rw [←I2,bW,List.append_assoc]
  have iH:X.length-aK.length=(junk++t).length:=by rw [tT];simp only [List.length_append];omega
  have I3:ad=ad∧junk.length+al.length=(aN (junk++al)).length∧al.length<al.length+1∧(al.length+1+(al.length+1)/4+512)*1≤281474976710656∧al.length+1<4611686018427387904:=⟨rfl,ab,ab,ab,ab⟩
  have m6:(aK.length:Int)=6→Keys.cK ⟨.cK,al,[],aD⟩ c=(⟨.ground,[],[],[]⟩,[{kind:=4,text:=ep}]):=fun h=>by rw [nX,if_pos (show aK.length=6 by omega)]
  have m7:¬(aK.length:Int)=6→Keys.cK ⟨.cK,al,[],aD⟩ c=(⟨.cK,aK,[],ep⟩,[]):=fun h=>by rw [nX,if_neg (show ¬aK.length=6 by omega)]
  rcases ah with ⟨rfl,rfl,y4⟩|⟨y4,CO,y5⟩
  ·
    obtain⟨et,l2⟩:=abj (cy .cK) (ad+1) m (if m=ad then(aN (junk++al)).length else min aG (aN (junk++al)).length) X (cb [] j0 j1 j2 j3 uty) P O ov ty iz iQ iA co (al.length+1) (al++[c]) junk.length ab fG ab;rw [cu]at et l2;simp only at et l2
    have yJ:∀h:J,h.get 0=some (kF (cy .cK) (ad+1) junk.length (al++[c]).length (.slice none 0 0) ov ty)→h.get 1=some (cb [] j0 j1 j2 j3 uty)→h.get 2=some (ct (aN X) 1 (ad+1) m (if m=ad then(aN (junk++al)).length else min aG (aN (junk++al)).length) cA)→h.get 3=some P→h.get 4=some O→eL 5 80 gQ h gQ (J.rows 5 (sj (cy .cK) (ad+1) m (if m=ad then(aN (junk++al)).length else min aG (aN (junk++al)).length) X (cb [] j0 j1 j2 j3 uty) P O ov ty junk.length (al++[c]).length)) :=
     fun h a0 av a2 a3 a4=>Qf _ _ _ _ _ _ _ _ _ _ (Nat.le_refl _) iz iQ iA co a0 av a2 a3 a4
    by_cases pA:ep=[]
    ·have dN:=et pA;rw [Qh]at dN;subst pA;refine abb (cy .cK) junk.length ad m aG al.length (ad+1) m (if m=ad then(aN (junk++al)).length else min aG (aN (junk++al)).length) (X.length-aK.length) aK.length (aN (junk++al)) (aN X) c.toNat (.slice none 0 0) ov (cb [] j0 j1 j2 j3 uty) P P O ty _ ?_
     delta nD eF IR qL
     refine⟨I3,?_,fun h=> ?_,fun h=> ?_⟩
     ·rw [CP,←zN];exact fw.hQ (dN.pre (yJ _ rfl rfl rfl rfl rfl))
     ·rw [m6 h];exact I0 rfl (ox (k:=2) (p:=0) rfl rfl rfl (.inr cn) (.inl rfl) rfl (oy aS tT iH rfl rfl) (y2 _) ao cL (.inr (.inl ⟨rfl,cn⟩)) (.inl rfl) (.inr (.inl rfl)) rfl rfl) rfl ab rfl
     ·rw [m7 h];exact sk (ox (k:=2) (p:=0) rfl rfl rfl (.inr cn) (.inl rfl) rfl (oy aS tT iH rfl rfl) (y2 _) ao cL (.inr (.inl ⟨rfl,cn⟩)) (.inl rfl) (.inr (.inl rfl)) rfl rfl) trivial rfl
    ·obtain⟨ic,jJ,jK,dN⟩:=l2 pA;rw [abm]at dN;have o8:=iN ep;have el:List.take ep.length (List.drop 0 (aN ep))=aN ep:=by rw [List.drop_zero,←o8,List.take_length]
     have I4:List.take ep.length (aN ep)=aN ep:=by rw [←o8,List.take_length]
     refine abd (cy .cK) junk.length ad m aG al.length (ad+1) m (if m=ad then(aN (junk++al)).length else min aG (aN (junk++al)).length) (X.length-aK.length) aK.length ic jJ jK ep.length (aN (junk++al)) (aN X) (aN ep) c.toNat (.slice none 0 0) ov (cb [] j0 j1 j2 j3 uty) P P O ty _ ?_
     delta pz nD eF vM qL
     refine⟨I3,?_,fun h=>⟨rfl,ab,⟨ep,el⟩,?_⟩,fun h=> ?_⟩
     ·rw [CP,←zN];exact fw.hQ (dN.pre (yJ _ rfl rfl rfl rfl rfl))
     ·rw [m6 h,I4,jh];exact I0 rfl (ox (k:=2) (p:=0) rfl rfl rfl (.inr cn) (.inl rfl) rfl (oy aS tT iH rfl rfl) (y2 _) ao cL (.inr (.inl ⟨rfl,cn⟩)) (.inl rfl) (.inr (.inl rfl)) rfl rfl) rfl ab rfl
     ·rw [m7 h];exact sk (ox (k:=2) (p:=30) rfl rfl rfl (.inr cn) (.inl rfl) rfl (oy aS tT iH rfl rfl) (vP aS pA rfl rfl) ao cL (.inr (.inl ⟨rfl,cn⟩)) (.inr (.inr aS)) (.inr (.inr aS)) rfl rfl) trivial rfl
  ·have nE:a7.p=3:= ab;rw [nE]at y4 y5;obtain⟨j8,pm,cY,rfl,mJ⟩:=y5;rw [J.eV]at mJ;simp only [List.getElem?_cons_zero,List.getElem?_cons_succ,Option.some.injEq,List.nil_append,List.length_nil]at mJ;subst mJ;simp only [List.length_nil]at ao⊢
   have pA:ep≠[]:=by have:=IY (al.length+1) (al++[c]) aD CO;rw [cu]at this;exact this
   obtain⟨ic,jJ,jK,dN⟩:=abh (cy .cK) (ad+1) m (if m=ad then(aN (junk++al)).length else min aG (aN (junk++al)).length) X (cb [] j0 j1 j2 j3 uty) (ct (aN aD) 1 j8 pm cY cA) O ov ty iz iQ iA co (al.length+1) (al++[c]) aD junk.length j8 pm cY ab fG ab p3;rw [cu]at dN;simp only at dN;rw [Qh]at dN;have o8:=iN ep;have el:List.take ep.length (List.drop 0 (aN ep))=aN ep:=by rw [List.drop_zero,←o8,List.take_length]
   have I4:List.take ep.length (aN ep)=aN ep:=by rw [←o8,List.take_length]
   refine abc (cy .cK) junk.length ad m aG al.length (ad+1) m (if m=ad then(aN (junk++al)).length else min aG (aN (junk++al)).length) (X.length-aK.length) aK.length ic jJ jK ep.length (aN (junk++al)) (aN X) (aN ep) c.toNat (.slice (some ⟨3,j8,0,0,1⟩) aD.length aD.length) ov (cb [] j0 j1 j2 j3 uty) (ct (aN aD) 1 j8 pm cY cA) O ty _ ?_
   delta pz nD eF vM qL
   refine⟨I3,?_,fun h=>⟨rfl,ab,⟨ep,el⟩,?_⟩,fun h=> ?_⟩
   ·rw [CP,←zN];exact fw.hQ (dN.pre (IW _ _ _ _ _ _ (ct (aN aD) 1 j8 pm cY cA) _ _ _ (Nat.le_refl _) rfl iz iQ iA co rfl rfl rfl rfl rfl rfl))
   ·rw [m6 h,I4,jh];exact I0 rfl (ox (k:=2) (p:=0) rfl rfl rfl (.inr cn) (.inr nE) rfl (oy aS tT iH rfl rfl) (y2 _) ao cL (.inr (.inl ⟨rfl,cn⟩)) (.inl rfl) (.inr (.inl rfl)) rfl rfl) rfl ab rfl
   ·rw [m7 h];exact sk (ox (k:=2) (p:=3) rfl rfl rfl (.inr cn) (.inr nE) rfl (oy aS tT iH rfl rfl) (vP aS pA rfl rfl) ao cL (.inr (.inl ⟨rfl,cn⟩)) (.inr (.inl ⟨rfl,nE⟩)) (.inr (.inr aS)) rfl rfl) trivial rfl
theorem abo:∀args h a,j5 (2^30-8) y3 Keys.cK args h=some a→a.dt Tryz.prog cX 129 args h:=r9 fun H d I s es c g ck aC dX=>abn g ck dX
noncomputable def abp:e1:=((P5.add 87 (j5 (2^30-8) yZ Keys.sequence)).add 129 (j5 (2^30-8) y3 Keys.cK))
theorem sl:eJ Tryz.prog cX abp:=(P6.add aa9).add abo
abbrev nF(H:J):J:=(J.mk (H.U+4+6) (J.aH (J.mk (H.U+1+3) (J.aH (J.mk (H.U+1) (J.aH H))))))
theorem Qi(H:J)(B d q bv c6 n m j c:Nat)(ae:cW→bJ→J→Prop)(aW:bd B (H.U) (((j:Int)<(n:Int)→bd B (H.U+1) ((0≤(j:Int)∧(j:Int)<(n:Int))∧bM env.D 5 ⟨q,bv,c6+Int.toNat (j:Int),0,1⟩ (J.mk (H.U+4) (H.2))=some (.int .u8 (c:Int))∧bd B (H.U+4) (bM env.D 66 ⟨d,0,0,0,6⟩ (J.mk (H.U+10) (H.2))=some (.func (.func 30) [.ptr (aJ d)] [])∧dA (2^30-4) mz (nF H) ⟨d,0,0,0,6⟩ (c:Int)∧∀(gD:J),dB ground (nF H) ⟨d,0,0,0,6⟩ (c:Int) gD→bd B (gD.U) ((-9223372036854775808≤(j:Int)+1∧(j:Int)+1≤9223372036854775807)∧ae .normal [(0,.ptr (aJ d)),(13,.slice (some ⟨q,bv,c6,0,1⟩) n m),(14,.int .i64 (n:Int)),(15,.int .i64 ((j:Int)+1))] (J.mk (gD.U+2) (J.aH gD))))))∧(¬(j:Int)<(n:Int)→ae (.exit 0) [(0,.ptr (aJ d)),(13,.slice (some ⟨q,bv,c6,0,1⟩) n m),(14,.int .i64 (n:Int)),(15,.int .i64 (j:Int))] (J.mk (H.U+1) (J.aH H))))) :
 ∃e aU ac,dc B 34 (cs 26 0) [(0,.ptr (aJ d)),(13,.slice (some ⟨q,bv,c6,0,1⟩) n m),(14,.int .i64 n),(15,.int .i64 j)] H e aU ac∧ae e aU ac :=
 fP eN mixed sl (hs:= .aI 5000 (ak 6000 (.az (.val 6001 (.int .u8 (c:Int))) (.az (.val 7003 (.func (.func 30) [.ptr (aJ d)] [])) (ak 8000 .nil)))) .nil) (keep:=[0,13,14,15]) ay aW
theorem abq(H:J)(B d q bv c6 n m j c:Nat)(ae:cW→bJ→J→Prop)(aW:bd B (H.U) (((j:Int)<(n:Int)→bd B (H.U+1) ((0≤(j:Int)∧(j:Int)<(n:Int))∧bM env.D 5 ⟨q,bv,c6+Int.toNat (j:Int),0,1⟩ (J.mk (H.U+4) (H.2))=some (.int .u8 (c:Int))∧bd B (H.U+4) (bM env.D 66 ⟨d,0,0,0,6⟩ (J.mk (H.U+10) (H.2))=some (.func (.func 59) [.ptr (aJ d)] [])∧dA (2^30-8) ym (nF H) ⟨d,0,0,0,6⟩ (c:Int)∧∀(gD:J),dB dj (nF H) ⟨d,0,0,0,6⟩ (c:Int) gD→bd B (gD.U) ((-9223372036854775808≤(j:Int)+1∧(j:Int)+1≤9223372036854775807)∧ae .normal [(0,.ptr (aJ d)),(13,.slice (some ⟨q,bv,c6,0,1⟩) n m),(14,.int .i64 (n:Int)),(15,.int .i64 ((j:Int)+1))] (J.mk (gD.U+2) (J.aH gD))))))∧(¬(j:Int)<(n:Int)→ae (.exit 0) [(0,.ptr (aJ d)),(13,.slice (some ⟨q,bv,c6,0,1⟩) n m),(14,.int .i64 (n:Int)),(15,.int .i64 (j:Int))] (J.mk (H.U+1) (J.aH H))))) :
 ∃e aU ac,dc B 34 (cs 26 0) [(0,.ptr (aJ d)),(13,.slice (some ⟨q,bv,c6,0,1⟩) n m),(14,.int .i64 n),(15,.int .i64 j)] H e aU ac∧ae e aU ac :=
 fP eN mixed sl (hs:= .aI 5000 (ak 6000 (.az (.val 6001 (.int .u8 (c:Int))) (.az (.val 7003 (.func (.func 59) [.ptr (aJ d)] [])) (ak 8000 .nil)))) .nil) (keep:=[0,13,14,15]) ay aW
theorem abr(H:J)(B d q bv c6 n m j c:Nat)(ae:cW→bJ→J→Prop)(aW:bd B (H.U) (((j:Int)<(n:Int)→bd B (H.U+1) ((0≤(j:Int)∧(j:Int)<(n:Int))∧bM env.D 5 ⟨q,bv,c6+Int.toNat (j:Int),0,1⟩ (J.mk (H.U+4) (H.2))=some (.int .u8 (c:Int))∧bd B (H.U+4) (bM env.D 66 ⟨d,0,0,0,6⟩ (J.mk (H.U+10) (H.2))=some (.func (.func 90) [.ptr (aJ d)] [])∧dA (2^30-8) yG (nF H) ⟨d,0,0,0,6⟩ (c:Int)∧∀(gD:J),dB da (nF H) ⟨d,0,0,0,6⟩ (c:Int) gD→bd B (gD.U) ((-9223372036854775808≤(j:Int)+1∧(j:Int)+1≤9223372036854775807)∧ae .normal [(0,.ptr (aJ d)),(13,.slice (some ⟨q,bv,c6,0,1⟩) n m),(14,.int .i64 (n:Int)),(15,.int .i64 ((j:Int)+1))] (J.mk (gD.U+2) (J.aH gD))))))∧(¬(j:Int)<(n:Int)→ae (.exit 0) [(0,.ptr (aJ d)),(13,.slice (some ⟨q,bv,c6,0,1⟩) n m),(14,.int .i64 (n:Int)),(15,.int .i64 (j:Int))] (J.mk (H.U+1) (J.aH H))))) :
 ∃e aU ac,dc B 34 (cs 26 0) [(0,.ptr (aJ d)),(13,.slice (some ⟨q,bv,c6,0,1⟩) n m),(14,.int .i64 n),(15,.int .i64 j)] H e aU ac∧ae e aU ac :=
 fP eN mixed sl (hs:= .aI 5000 (ak 6000 (.az (.val 6001 (.int .u8 (c:Int))) (.az (.val 7003 (.func (.func 90) [.ptr (aJ d)] [])) (ak 8000 .nil)))) .nil) (keep:=[0,13,14,15]) ay aW
theorem abt(H:J)(B d q bv c6 n m j c:Nat)(ae:cW→bJ→J→Prop)(aW:bd B (H.U) (((j:Int)<(n:Int)→bd B (H.U+1) ((0≤(j:Int)∧(j:Int)<(n:Int))∧bM env.D 5 ⟨q,bv,c6+Int.toNat (j:Int),0,1⟩ (J.mk (H.U+4) (H.2))=some (.int .u8 (c:Int))∧bd B (H.U+4) (bM env.D 66 ⟨d,0,0,0,6⟩ (J.mk (H.U+10) (H.2))=some (.func (.func 87) [.ptr (aJ d)] [])∧dA (2^30-8) yZ (nF H) ⟨d,0,0,0,6⟩ (c:Int)∧∀(gD:J),dB sequence (nF H) ⟨d,0,0,0,6⟩ (c:Int) gD→bd B (gD.U) ((-9223372036854775808≤(j:Int)+1∧(j:Int)+1≤9223372036854775807)∧ae .normal [(0,.ptr (aJ d)),(13,.slice (some ⟨q,bv,c6,0,1⟩) n m),(14,.int .i64 (n:Int)),(15,.int .i64 ((j:Int)+1))] (J.mk (gD.U+2) (J.aH gD))))))∧(¬(j:Int)<(n:Int)→ae (.exit 0) [(0,.ptr (aJ d)),(13,.slice (some ⟨q,bv,c6,0,1⟩) n m),(14,.int .i64 (n:Int)),(15,.int .i64 (j:Int))] (J.mk (H.U+1) (J.aH H))))) :
 ∃e aU ac,dc B 34 (cs 26 0) [(0,.ptr (aJ d)),(13,.slice (some ⟨q,bv,c6,0,1⟩) n m),(14,.int .i64 n),(15,.int .i64 j)] H e aU ac∧ae e aU ac :=
 fP eN mixed sl (hs:= .aI 5000 (ak 6000 (.az (.val 6001 (.int .u8 (c:Int))) (.az (.val 7003 (.func (.func 87) [.ptr (aJ d)] [])) (ak 8000 .nil)))) .nil) (keep:=[0,13,14,15]) ay aW
theorem abu(H:J)(B d q bv c6 n m j c:Nat)(ae:cW→bJ→J→Prop)(aW:bd B (H.U) (((j:Int)<(n:Int)→bd B (H.U+1) ((0≤(j:Int)∧(j:Int)<(n:Int))∧bM env.D 5 ⟨q,bv,c6+Int.toNat (j:Int),0,1⟩ (J.mk (H.U+4) (H.2))=some (.int .u8 (c:Int))∧bd B (H.U+4) (bM env.D 66 ⟨d,0,0,0,6⟩ (J.mk (H.U+10) (H.2))=some (.func (.func 88) [.ptr (aJ d)] [])∧dA (2^30-8) singleR (nF H) ⟨d,0,0,0,6⟩ (c:Int)∧∀(gD:J),dB single (nF H) ⟨d,0,0,0,6⟩ (c:Int) gD→bd B (gD.U) ((-9223372036854775808≤(j:Int)+1∧(j:Int)+1≤9223372036854775807)∧ae .normal [(0,.ptr (aJ d)),(13,.slice (some ⟨q,bv,c6,0,1⟩) n m),(14,.int .i64 (n:Int)),(15,.int .i64 ((j:Int)+1))] (J.mk (gD.U+2) (J.aH gD))))))∧(¬(j:Int)<(n:Int)→ae (.exit 0) [(0,.ptr (aJ d)),(13,.slice (some ⟨q,bv,c6,0,1⟩) n m),(14,.int .i64 (n:Int)),(15,.int .i64 (j:Int))] (J.mk (H.U+1) (J.aH H))))) :
 ∃e aU ac,dc B 34 (cs 26 0) [(0,.ptr (aJ d)),(13,.slice (some ⟨q,bv,c6,0,1⟩) n m),(14,.int .i64 n),(15,.int .i64 j)] H e aU ac∧ae e aU ac :=
 fP eN mixed sl (hs:= .aI 5000 (ak 6000 (.az (.val 6001 (.int .u8 (c:Int))) (.az (.val 7003 (.func (.func 88) [.ptr (aJ d)] [])) (ak 8000 .nil)))) .nil) (keep:=[0,13,14,15]) ay aW
theorem abv(H:J)(B d q bv c6 n m j c:Nat)(ae:cW→bJ→J→Prop)(aW:bd B (H.U) (((j:Int)<(n:Int)→bd B (H.U+1) ((0≤(j:Int)∧(j:Int)<(n:Int))∧bM env.D 5 ⟨q,bv,c6+Int.toNat (j:Int),0,1⟩ (J.mk (H.U+4) (H.2))=some (.int .u8 (c:Int))∧bd B (H.U+4) (bM env.D 66 ⟨d,0,0,0,6⟩ (J.mk (H.U+10) (H.2))=some (.func (.func 129) [.ptr (aJ d)] [])∧dA (2^30-8) y3 (nF H) ⟨d,0,0,0,6⟩ (c:Int)∧∀(gD:J),dB cK (nF H) ⟨d,0,0,0,6⟩ (c:Int) gD→bd B (gD.U) ((-9223372036854775808≤(j:Int)+1∧(j:Int)+1≤9223372036854775807)∧ae .normal [(0,.ptr (aJ d)),(13,.slice (some ⟨q,bv,c6,0,1⟩) n m),(14,.int .i64 (n:Int)),(15,.int .i64 ((j:Int)+1))] (J.mk (gD.U+2) (J.aH gD))))))∧(¬(j:Int)<(n:Int)→ae (.exit 0) [(0,.ptr (aJ d)),(13,.slice (some ⟨q,bv,c6,0,1⟩) n m),(14,.int .i64 (n:Int)),(15,.int .i64 (j:Int))] (J.mk (H.U+1) (J.aH H))))) :
 ∃e aU ac,dc B 34 (cs 26 0) [(0,.ptr (aJ d)),(13,.slice (some ⟨q,bv,c6,0,1⟩) n m),(14,.int .i64 n),(15,.int .i64 j)] H e aU ac∧ae e aU ac :=
 fP eN mixed sl (hs:= .aI 5000 (ak 6000 (.az (.val 6001 (.int .u8 (c:Int))) (.az (.val 7003 (.func (.func 129) [.ptr (aJ d)] [])) (ak 8000 .nil)))) .nil) (keep:=[0,13,14,15]) ay aW
theorem abw(H:J)(B d:Nat)(bs:aa)(ae:cW→bJ→J→Prop)(aW:bd B (H.U) (ae (.exit 0) [(0,.ptr (aJ d)),(13,bs),(14,.int .i64 0),(15,.int .i64 0)] (J.mk (H.U+1) (J.aH H)))) :
 ∃e aU ac,dc B 34 (cs 26 0) [(0,.ptr (aJ d)),(13,bs),(14,.int .i64 0),(15,.int .i64 0)] H e aU ac∧ae e aU ac :=
 fP eN mixed sl (hs:= .nil) (keep:=[0,13,14,15]) ay aW
theorem abx(H H1 H2 aX:J)(d n m:Nat)(o:Option bA)(ov gm:aa)(ae:bI)(aW:bd (H.U) (H.U) (bd (H.U) (H.U+1) (bd (H.U) (H.U+3) (bN env dF (H.U+6) (bD [(12,.ptr (some ⟨d,0,0,5,6⟩)),(11,.ptr (aJ d)),(10,.ptr (aJ d)),(9,.bool false),(8,.ptr (aJ d)),(4,.slice none 0 0),(0,.ptr (aJ d)),(1,.slice o n m)]) (J.mk (H.U+7) (H.2)) (Op.store 56 (Operand.tmp 12) (Operand.const (Value.slice none 0 0)))=some (aa.tuple [],H1)∧bd (H.U) (H1.U) (dc (H.U) 34 (Code.loop (cs 26 0)) [(0,.ptr (aJ d)),(13,.slice o n m),(14,.int .i64 (n:Int)),(15,.int .i64 0)] (J.mk (H1.U+3) (J.aH H1)) (.exit 0) [(0,.ptr (aJ d)),(13,.slice o n m),(14,.int .i64 (n:Int)),(15,gm)] H2∧bd (H.U) (H2.U) (bM env.D 56 ⟨d,0,0,5,6⟩ (J.mk (H2.U+5) (H2.2))=some ov∧bd (H.U) (H2.U+5) (bN env dF (H2.U+8) (bD [(32,.ptr (some ⟨d,0,0,5,6⟩)),(31,.ptr (aJ d)),(30,.ptr (aJ d)),(7,ov),(29,ov),(28,.ptr (some ⟨d,0,0,5,6⟩)),(27,.ptr (aJ d)),(26,.ptr (aJ d)),(0,.ptr (aJ d)),(13,.slice o n m),(14,.int .i64 (n:Int)),(15,gm)]) (J.mk (H2.U+9) (H2.2)) (Op.store 56 (Operand.tmp 32) (Operand.const (Value.slice none 0 0)))=some (aa.tuple [],aX)∧bd (H.U) (aX.U) (bC (H.U) (aX.U+2) (ae ov (J.mk (aX.U+2) (J.aH aX))))))))))) :
 b4 26 [.ptr (aJ d),.slice o n m] H ae :=
 b9 sl (.az (.act 3003 (.tuple []) fun x=>H1) (.az (.keep [0,13,14,15]) (.az (.loop [(0,.ptr (aJ d)),(13,.slice o n m),(14,.int .i64 (n:Int)),(15,gm)] H2 (.exit 0)) (.az (.val 9003 ov) (.az (.act 10003 (.tuple []) fun x=>aX) .nil))))) aW
theorem aby{h:J}{d f u:Nat}{kv pv ov:aa}{pas:Bool}{ty:bL}(e:h.get d=some (b0 d f u kv pv pas ov ty)):bM (bY.D env) 66 ⟨d,0,0,0,6⟩ h=some (.func (.func f) [.ptr (some ⟨d,0,0,0,6⟩)] []):=by have bZ:(bY.D env 66).map (fun d=>d.kind.isAgg)=some false:= ay;obtain⟨x,ac,ai⟩:=Option.map_eq_some_iff.1 bZ;unfold bM;rw [ac,e];simp [af.elem?,af.cC,hZ,ai,af.an]
theorem Qj{h:J}{d f u:Nat}{kv pv ov:aa}{pas:Bool}{ty:bL}(e:h.get d=some (b0 d f u kv pv pas ov ty)):bM (bY.D env) 56 ⟨d,0,0,5,6⟩ h=some ov:=by have bZ:(bY.D env 56).map (fun d=>d.kind.isAgg)=some false:= ay;obtain⟨x,ac,ai⟩:=Option.map_eq_some_iff.1 bZ;unfold bM;rw [ac,e];simp [af.elem?,af.cC,hZ,ai,af.an]
theorem CQ{h:J}{d f u:Nat}{kv pv ov:aa}{pas:Bool}{ty:bL}(e:h.get d=some (b0 d f u kv pv pas ov ty)):hL (bY.D env) 56 ⟨d,0,0,5,6⟩ (.slice none 0 0) h=some (h.set d (b0 d f u kv pv pas (.slice none 0 0) ty)):=by have bZ:(bY.D env 56).map (fun d=>(d.kind.isAgg,d.size))=some (false,1):= ay;obtain⟨x,ac,ai⟩:=Option.map_eq_some_iff.1 bZ;simp only [Prod.mk.injEq]at ai;unfold hL;rw [ac,e];simp [aa.fits,ai.1,ai.2,af.an,sE,aa.cells,iZ]
theorem abz{h:J}{q v i:Nat}{b:af}{c:Int}(e:h.get q=some b)(he:b.elem? v i=some (.int .u8 c)):bM (bY.D env) 5 ⟨q,v,i,0,1⟩ h=some (.int .u8 c):=by have bZ:(bY.D env 5).map (fun d=>d.kind.isAgg)=some false:= ay;obtain⟨x,ac,ai⟩:=Option.map_eq_some_iff.1 bZ;unfold bM;rw [ac,e];simp only [he,hZ,ai,Bool.false_eq_true,if_false,if_true]
structure sn(H:J)(q bv c6:Nat)(bs:Bytes):Prop where
 ex:∃b,H.get q=some b∧∀(j:Nat)(h:j<bs.length),b.elem? bv (c6+j)=some (.int .u8 bs[j].toNat)
theorem sn.keep{H aQ:J}{q bv c6:Nat}{bs:Bytes}(h:sn H q bv c6 bs)(e:aQ.get q=H.get q):sn aQ q bv c6 bs:=by obtain⟨b,ac,ai⟩:=h.ex;exact⟨b,by rw [e];exact ac,ai⟩
structure lV(q d:Nat)(I:cp):Prop where
 d:q≠d
 u:q≠I.u
 k:q≠I.k
 p:q≠I.p
 o:q≠I.o
theorem lV.cF{h ag:J}{q d:Nat}{I aO:cp}(o:lV q d I)(cF:Fr h ag d I aO)(aB:q<h.U):lV q d aO where
 d:=o.d
 u e:=by have:=cF.ids q (.inl e);have:=o.d;have:=o.u;have:=o.k;have:=o.p;have:=o.o;omega
 k e:=by have:=cF.ids q (.inr (.inl e));have:=o.d;have:=o.u;have:=o.k;have:=o.p;have:=o.o;omega
 p e:=by have:=cF.ids q (.inr (.inr (.inl e)));have:=o.d;have:=o.u;have:=o.k;have:=o.p;have:=o.o;omega
 o e:=by have:=cF.ids q (.inr (.inr (.inr e)));have:=o.d;have:=o.u;have:=o.k;have:=o.p;have:=o.o;omega
theorem lV.get{h ag:J}{q d:Nat}{I aO:cp}(o:lV q d I)(cF:Fr h ag d I aO)(aB:q<h.U):ag.get q=h.get q:=cF.get q aB o.d o.u o.k o.p o.o
theorem qM{h:J}{d:Nat}{I:cp}{s:bK}{es:List bl}{k:Nat}(g:ci h d I s es):ci ⟨h.U+k,h.aH⟩ d I s es:=by obtain⟨ks,g,hs⟩:=g;refine⟨ks,⟨g.ex,g.iD,?_,g.ne⟩,hs⟩;have:=g.lt;show d<h.U+k∧I.u<h.U+k∧I.k<h.U+k∧I.p<h.U+k∧I.o<h.U+k;omega
theorem I5{h ag:J}{d:Nat}{I aO:cp}{k:Nat}(cF:Fr h ag d I aO):Fr h ⟨ag.U+k,ag.aH⟩ d I aO where
 U:=by have:=cF.U;show h.U≤ag.U+k;omega
 get:=cF.get
 ids:=cF.ids
theorem Qk{h ag:J}{d:Nat}{I aO:cp}{k:Nat}(cF:Fr ⟨h.U+k,h.aH⟩ ag d I aO):Fr h ag d I aO where
 U:=by have:h.U+k≤ag.U:=cF.U;omega
 get j a1:=cF.get j (by show j<h.U+k;omega)
 ids x aj:=by have:x=d∨x=I.u∨x=I.k∨x=I.p∨x=I.o∨h.U+k≤x:=cF.ids x aj;omega
abbrev ld(d q bv c6 n m j:Nat):bJ:=[(0,.ptr (some ⟨d,0,0,0,6⟩)),(13,.slice (some ⟨q,bv,c6,0,1⟩) n m),(14,.int .i64 (n:Nat)),(15,.int .i64 (j:Nat))]
theorem abA{a b:Nat}(h:a≤b):(Nat.ble a b&&true)=true:=by rw [Nat.ble_eq.mpr h];rfl
theorem aY{a b:Nat}{p:Prop}(h:a≤b)(k:p):_root_.cond (Nat.ble a b&&true) p False:=by rw [abA h];exact k
theorem vQ{H:J}{B d q bv c6 n m j c N:Nat}{R:bK→UInt8→Prop}{F:bK→UInt8→bK×List bl}{g:aa}{ae:cW→bJ→J→Prop}(cH:B≤H.U)(a1:j<n)(aR:n<2^62)(ac:J)(bi:ac=⟨H.U+10,H.aH⟩)
 (iJ:bM (bY.D env) 5 ⟨q,bv,c6+Int.toNat (j:Int),0,1⟩ ⟨H.U+4,H.aH⟩=some (.int .u8 (c:Int))) (lf:bM (bY.D env) 66 ⟨d,0,0,0,6⟩ ⟨H.U+10,H.aH⟩=some g)
 (pre:dA N R ⟨H.U+10,H.aH⟩ ⟨d,0,0,0,6⟩ (c:Int)) (post:∀h,dB F ⟨H.U+10,H.aH⟩ ⟨d,0,0,0,6⟩ (c:Int) h→ae .normal (ld d q bv c6 n m (j+1)) ⟨h.U+2,h.aH⟩) (X:Prop) :
 _root_.cond (Nat.ble B H.U&&true) (((j:Int)<(n:Int)→_root_.cond (Nat.ble B (H.U+1)&&true) ((0≤(j:Int)∧(j:Int)<(n:Int))∧bM (bY.D env) 5 ⟨q,bv,c6+Int.toNat (j:Int),0,1⟩ ⟨H.U+4,H.aH⟩=some (.int .u8 (c:Int))∧_root_.cond (Nat.ble B (H.U+4)&&true) (bM (bY.D env) 66 ⟨d,0,0,0,6⟩ ⟨H.U+10,H.aH⟩=some g∧dA N R ac ⟨d,0,0,0,6⟩ (c:Int) ∧
  ∀h,dB F ac ⟨d,0,0,0,6⟩ (c:Int) h→_root_.cond (Nat.ble B h.U&&true) ((-9223372036854775808≤(j:Int)+1∧(j:Int)+1≤9223372036854775807)∧ae .normal [(0,.ptr (some ⟨d,0,0,0,6⟩)),(13,.slice (some ⟨q,bv,c6,0,1⟩) n m),(14,.int .i64 (n:Nat)),(15,.int .i64 ((j:Int)+1))] ⟨h.U+2,h.aH⟩) False) False) False)∧(¬(j:Int)<(n:Int)→X)) False:=by
 subst bi;refine aY cH ⟨fun _=>aY ab ⟨⟨ab,ab⟩,iJ,aY ab ⟨lf,pre,fun h t=> ?_⟩⟩,fun h=>absurd ab h⟩;have jH:H.U+10≤h.U:=t.U;exact aY ab ⟨⟨ab,ab⟩,by rw [show((j:Int)+1)=((j+1:Nat):Int)by omega];exact post h t⟩
theorem abB{H:J}{B d q bv c6 m j:Nat}{I:cp}{s:bK}{es:List bl}{bs:Bytes}(cH:B≤H.U)(g:ci H d I s es)(fa:Keys.Good s)(ck:es.length<2^30-8)(ax:sn H q bv c6 bs)(a1:j<bs.length)(aR:bs.length<2^62) :
 ∃aQ aO,dc B 34 (cs 26 0) (ld d q bv c6 bs.length m j) H .normal (ld d q bv c6 bs.length m (j+1)) aQ∧ci aQ d aO (Keys.step s bs[j]).1 (es++(Keys.step s bs[j]).2)∧Fr H aQ d I aO:=by
 have aw:=bs[j].toNat_lt;obtain⟨b,hE,kV⟩:=ax.ex;have iJ:bM (bY.D env) 5 ⟨q,bv,c6+Int.toNat (j:Int),0,1⟩ ⟨H.U+4,H.aH⟩=some (.int .u8 (bs[j].toNat:Int)):=abz hE (by rw [show c6+Int.toNat (j:Int)=c6+j by simp];exact kV j a1)
 have pR:∃kv pv ov ty,H.get d=some (b0 d (cy s.nx) I.u kv pv (decide (s.nx=.cK)) ov ty):=by obtain⟨ks,mK,_⟩:=g;obtain⟨kv,pv,ov,ty,e,_⟩:=mK.ex;exact⟨kv,pv,ov,ty,e⟩
 obtain⟨kv,pv,ov,ty,gX⟩:=pR;have lf:=aby (h:=⟨H.U+10,H.aH⟩) gX
 have Ql:s.aF.length≤4:=by
  obtain⟨nx,al,aF,aD⟩:=s;cases nx with
  |da=>have:=fa.2.2.2.1;simp only at this⊢; omega
  |ground=>have:=fa.2.1;simp only at this;simp [this]
  |dj=>have:=fa.2.1;simp only at this;simp [this]
  |sequence=>have:=fa.1;simp only at this;simp [this]
  |single=>have:=fa.1;simp only at this;simp [this]
  |cK=>have:=fa.1;simp only at this;simp [this]
 have key:∀{N:Nat}{R:bK→UInt8→Prop}{F:bK→UInt8→bK×List bl},es.length<N→R s bs[j]→F s bs[j]=Keys.step s bs[j] →
  dA N R ⟨H.U+10,H.aH⟩ ⟨d,0,0,0,6⟩ (bs[j].toNat:Int)∧∀h,dB F ⟨H.U+10,H.aH⟩ ⟨d,0,0,0,6⟩ (bs[j].toNat:Int) h→cW.normal=.normal∧ld d q bv c6 bs.length m (j+1)=ld d q bv c6 bs.length m (j+1)∧∃aO,ci ⟨h.U+2,h.aH⟩ d aO (Keys.step s bs[j]).1 (es++(Keys.step s bs[j]).2)∧Fr H ⟨h.U+2,h.aH⟩ d I aO:=by
  intro N R F db dX fx;refine⟨⟨rfl,⟨I,s,es,qM g,db,Ql,by rw [vw];exact dX⟩,ab⟩,fun h t=>⟨rfl,rfl,?_⟩⟩;obtain⟨aO,dp,fZ⟩:=t.all I s es (qM g) Ql;rw [vw,fx]at dp;exact⟨aO,qM dp,I5 (Qk fZ)⟩
 have fin:∀{e:cW}{aU:bJ}{ac:J},dc B 34 (cs 26 0) (ld d q bv c6 bs.length m j) H e aU ac→(e=.normal∧aU=ld d q bv c6 bs.length m (j+1)∧∃aO,ci ac d aO (Keys.step s bs[j]).1 (es++(Keys.step s bs[j]).2)∧Fr H ac d I aO) →
  ∃aQ aO,dc B 34 (cs 26 0) (ld d q bv c6 bs.length m j) H .normal (ld d q bv c6 bs.length m (j+1)) aQ∧ci aQ d aO (Keys.step s bs[j]).1 (es++(Keys.step s bs[j]).2)∧Fr H aQ d I aO:=by
  rintro e aU ac bc ⟨rfl,rfl,aO,q⟩;exact⟨ac,aO,bc,q⟩
 let ae:cW→bJ→J→Prop:=fun e aU ac=>e=.normal∧aU=ld d q bv c6 bs.length m (j+1)∧∃aO,ci ac d aO (Keys.step s bs[j]).1 (es++(Keys.step s bs[j]).2)∧Fr H ac d I aO
 cases aj:s.nx with
 |ground =>
  rw [aj]at lf;obtain⟨nx,al,aF,aD⟩:=s;simp only at aj;subst aj;obtain⟨aK,aP⟩:=key (N:=2^30-4) (R:=mz) (F:=Keys.ground) ab ⟨fa.2.1,rfl⟩ rfl;obtain⟨e,aU,ac,bc,au⟩:=Qi H B d q bv c6 bs.length m j bs[j].toNat ae (vQ cH a1 aR _ rfl iJ lf aK aP _);exact fin bc au
 |dj =>
  rw [aj]at lf;obtain⟨nx,al,aF,aD⟩:=s;simp only at aj;subst aj;obtain⟨aK,aP⟩:=key (N:=2^30-8) (R:=ym) (F:=Keys.dj) ab ⟨fa.2.1,rfl⟩ rfl;obtain⟨e,aU,ac,bc,au⟩:=abq H B d q bv c6 bs.length m j bs[j].toNat ae (vQ cH a1 aR _ rfl iJ lf aK aP _);exact fin bc au
 |da =>
  rw [aj]at lf;obtain⟨nx,al,aF,aD⟩:=s;simp only at aj;subst aj;obtain⟨aK,aP⟩:=key (N:=2^30-8) (R:=yG) (F:=Keys.da) ab ⟨rfl,fa.2.1,fa.2.2.1,fa.2.2.2.1,fa.2.2.2.2⟩ rfl;obtain⟨e,aU,ac,bc,au⟩:=abr H B d q bv c6 bs.length m j bs[j].toNat ae (vQ cH a1 aR _ rfl iJ lf aK aP _);exact fin bc au
 |sequence =>
  rw [aj]at lf;obtain⟨nx,al,aF,aD⟩:=s;simp only at aj;subst aj;obtain⟨aK,aP⟩:=key (N:=2^30-8) (R:=yZ) (F:=Keys.sequence) ab ⟨rfl,fa.1,fa.2.2.1,fa.2.2.2⟩ rfl;obtain⟨e,aU,ac,bc,au⟩:=abt H B d q bv c6 bs.length m j bs[j].toNat ae (vQ cH a1 aR _ rfl iJ lf aK aP _);exact fin bc au
 |single =>
  rw [aj]at lf;obtain⟨nx,al,aF,aD⟩:=s;simp only at aj;subst aj;obtain⟨aK,aP⟩:=key (N:=2^30-8) (R:=singleR) (F:=Keys.single) ab ⟨fa.1,rfl⟩ rfl;obtain⟨e,aU,ac,bc,au⟩:=abu H B d q bv c6 bs.length m j bs[j].toNat ae (vQ cH a1 aR _ rfl iJ lf aK aP _);exact fin bc au
 |cK =>
  rw [aj]at lf;obtain⟨nx,al,aF,aD⟩:=s;simp only at aj;subst aj;obtain⟨aK,aP⟩:=key (N:=2^30-8) (R:=y3) (F:=Keys.cK) ab ⟨rfl,fa.1,fa.2.1,fa.2.2.2⟩ rfl;obtain⟨e,aU,ac,bc,au⟩:=abv H B d q bv c6 bs.length m j bs[j].toNat ae (vQ cH a1 aR _ rfl iJ lf aK aP _);exact fin bc au
theorem abC{B d q bv c6 m:Nat}{bs:Bytes}(aR:bs.length<2^28):∀(k j:Nat)(H:J)(I:cp)(s:bK)(es:List bl),bs.length-j≤k→j≤bs.length→B≤H.U→ci H d I s es→Keys.Good s→es.length+2* (bs.length-j)<2^30-8→sn H q bv c6 bs→q<H.U→lV q d I →
 ∃aQ aO,hd B 34 (cs 26 0) (ld d q bv c6 bs.length m j) H (.exit 0) (ld d q bv c6 bs.length m bs.length) aQ∧ci aQ d aO (dd s (bs.drop j)).1 (es++(dd s (bs.drop j)).2)∧Fr H aQ d I aO:=by
 intro k
 have fin:∀(H:J)(I:cp)(s:bK)(es:List bl),B≤H.U→ci H d I s es→ ∃aQ aO,hd B 34 (cs 26 0) (ld d q bv c6 bs.length m bs.length) H (.exit 0) (ld d q bv c6 bs.length m bs.length) aQ∧ci aQ d aO (dd s (bs.drop bs.length)).1 (es++(dd s (bs.drop bs.length)).2)∧Fr H aQ d I aO:=by
  intro H I s es cH g;obtain⟨e,aU,ac,bc,rfl,rfl,rfl⟩:=Qi H B d q bv c6 bs.length m bs.length 0 (fun e aU ac=>e=.exit 0∧aU=ld d q bv c6 bs.length m bs.length∧ac=⟨H.U+1,H.aH⟩) (aY cH ⟨fun h=> ab,fun _=>⟨rfl,rfl,rfl⟩⟩);refine⟨_,I,dK.last aM bc,?_,?_⟩
  ·rw [List.drop_length];simp only [dd,List.append_nil];exact qM g
  ·exact⟨by show H.U≤H.U+1;omega,fun j _ _ _ _ _ _=>rfl,fun x aj=> ab⟩
 induction k with
 |zero =>
  intro j H I s es au a1 cH g fa ck ax aB ao;obtain rfl:j=bs.length:= ab;exact fin H I s es cH g
 |succ k ih =>
  intro j H I s es au a1 cH g fa ck ax aB ao;by_cases aw:j<bs.length
  ·obtain⟨H1,oh,bc,g1,lU⟩:=abB (m:=m) cH g fa ab ax aw ab;have ai:=Wr s bs[j];have lQ:=lU.U;obtain⟨H2,cZ,aC,g2,qN⟩:=ih (j+1) H1 oh _ _ ab ab ab g1 (xR _ fa) (by rw [List.length_append];omega) (ax.keep (ao.get lU aB)) ab (ao.cF lU aB);refine⟨H2,cZ,dK.step bc aC,?_,lU.trans qN⟩;rw [List.drop_eq_getElem_cons aw];simp only [dd];rw [←List.append_assoc];exact g2
  ·obtain rfl:j=bs.length:= ab;exact fin H I s es cH g
def oz(H:J)(v:aa)(es:List bl)(o:Nat):Prop :=
 (v=.slice none 0 0∧es=[])∨(es≠[]∧o<H.U∧∃ad m f,v=.slice (some ⟨o,ad,0,0,6⟩) es.length es.length∧H.get o=some (ct (es.map cB) 6 ad m f k'))
theorem ci.clear{H:J}{d:Nat}{I:cp}{s:bK}{es:List bl}(g:ci H d I s es):∃f kv pv pas ov ty,H.get d=some (b0 d f I.u kv pv pas ov ty)∧jn H d I.o ov es∧I.u≠d ∧
 ∀k,ci ((⟨H.U+k,H.aH⟩:J).set d (b0 d f I.u kv pv pas (.slice none 0 0) ty)) d ⟨I.u,I.k,I.p,d⟩ s []∧Fr H ((⟨H.U+k,H.aH⟩:J).set d (b0 d f I.u kv pv pas (.slice none 0 0) ty)) d I ⟨I.u,I.k,I.p,d⟩:=by
 obtain⟨ks,g,hs⟩:=g;obtain⟨kv,pv,ov,ty,e,au,ah,ao⟩:=g.ex;obtain⟨j0,j1,j2,j3,uty,hu⟩:=g.iD
 have mY:I.u≠d:=by intro h;rw [h,e]at hu;simp [af.an]at hu
 refine⟨_,kv,pv,_,ov,ty,e,ao,mY,fun k=>⟨⟨ks,⟨⟨kv,pv,.slice none 0 0,ty,?_,?_,?_,.inl ⟨rfl,rfl,rfl⟩⟩,⟨j0,j1,j2,j3,uty,?_⟩,?_,g.ne⟩,hs⟩,?_,?_,?_⟩⟩
 ·exact J.gE _ _ _
 ·exact au.keep fun aR=>J.fg _ _ (Ne.symm aR)
 ·exact ah.keep fun aR=>J.fg _ _ (Ne.symm aR)
 ·show((⟨H.U+k,H.aH⟩:J).set d _).get I.u=_;rw [J.fg _ _ (Ne.symm mY)];exact hu
 ·have:=g.lt;show d<H.U+k∧I.u<H.U+k∧I.k<H.U+k∧I.p<H.U+k∧d<H.U+k;omega
 ·show H.U≤H.U+k;omega
 ·intro j a1 a6 n2 eY hN ha;exact J.fg _ _ (Ne.symm a6)
 ·intro x aj;have aj:x=I.u∨x=I.k∨x=I.p∨x=d:=aj;omega
def Qm(H:J)(d:Nat)(I:cp)(o:Option bA)(bs:Bytes):Prop:=(o=none∧bs=[])∨ ∃q bv c6,o=some ⟨q,bv,c6,0,1⟩∧sn H q bv c6 bs∧q<H.U∧lV q d I
theorem pB{t:TypeId}{F:bJ}{H H1:J}{a:bA}{nid k:Nat}(aZ:bD F (.tmp k)=.ptr (some a))(hs:hL (bY.D env) t a (.slice none 0 0) H=some H1):bN env dF nid (bD F) H (Op.store t (Operand.tmp k) (Operand.const (Value.slice none 0 0)))=some (.tuple [],H1):=by have aw:bD F (Operand.const (Value.slice none 0 0))=.slice none 0 0:=rfl;simp only [bN,aZ,aw,hs,Option.map_some]
theorem abD{H:J}{d m:Nat}{I:cp}{s:bK}{es:List bl}{bs:Bytes}{o:Option bA}(g:ci H d I s es)(fa:Keys.Good s)(aR:bs.length<2^28)(aT:Qm H d I o bs) :
 ∃aQ v aO eB,bS 26 [.ptr (some ⟨d,0,0,0,6⟩),.slice o bs.length m] H v aQ∧ci aQ d aO (dd s bs).1 []∧Fr H aQ d I aO∧oz aQ v (dd s bs).2 eB∧((dd s bs).2≠[]→lV eB d aO∧(eB=I.u∨eB=I.k∨eB=I.p∨H.U≤eB)):=by
 obtain⟨f,kv,pv,pas,ov,ty,gX,ao,mY,gI⟩:=g.clear;obtain⟨g1,lU⟩:=gI 7;generalize y6:((⟨H.U+7,H.aH⟩:J).set d (b0 d f I.u kv pv pas (.slice none 0 0) ty))=H1 at g1 lU;have hF:hL (bY.D env) 56 ⟨d,0,0,5,6⟩ (.slice none 0 0) ⟨H.U+7,H.aH⟩=some H1:=by rw [←y6];exact CQ gX
 have lg:H1.U=H.U+7:=by rw [←y6];rfl
 have ou:ci ⟨H1.U+3,H1.aH⟩ d ⟨I.u,I.k,I.p,d⟩ s []:=qM g1
 have AP:∃H2 cZ gm,dc H.U 34 (Code.loop (cs 26 0)) [(0,.ptr (some ⟨d,0,0,0,6⟩)),(13,.slice o bs.length m),(14,.int .i64 bs.length),(15,.int .i64 0)] ⟨H1.U+3,H1.aH⟩ (.exit 0) [(0,.ptr (some ⟨d,0,0,0,6⟩)),(13,.slice o bs.length m),(14,.int .i64 bs.length),(15,gm)] H2 ∧
  ci H2 d cZ (dd s bs).1 (dd s bs).2∧Fr H1 H2 d ⟨I.u,I.k,I.p,d⟩ cZ:=by
  rcases aT with ⟨rfl,rfl⟩|⟨q,bv,c6,rfl,ax,aB,iH⟩
  ·obtain⟨e,aU,ac,bc,rfl,rfl,rfl⟩:=abw ⟨H1.U+3,H1.aH⟩ H.U d (.slice none 0 m) (fun e aU ac=>e=.exit 0∧aU=[(0,.ptr (some ⟨d,0,0,0,6⟩)),(13,.slice none 0 m),(14,.int .i64 0),(15,.int .i64 0)]∧ac=⟨H1.U+3+1,H1.aH⟩) (aY (by show H.U≤H1.U+3;omega) ⟨rfl,rfl,rfl⟩);refine⟨_,⟨I.u,I.k,I.p,d⟩,.int .i64 0,fw.hQ (dK.last aM bc),qM ou,?_⟩
   exact⟨by show H1.U≤H1.U+3+1;omega,fun j _ _ _ _ _ _=>rfl,fun x aj=>by
    have aj:x=I.u∨x=I.k∨x=I.p∨x=d:=aj;show x=d∨x=I.u∨x=I.k∨x=I.p∨x=d∨_
    omega⟩
  ·have I6:sn ⟨H1.U+3,H1.aH⟩ q bv c6 bs:=ax.keep (by show H1.get q=H.get q;exact iH.get lU aB);have abE:lV q d ⟨I.u,I.k,I.p,d⟩:=iH.cF lU aB;obtain⟨H2,cZ,aC,g2,qN⟩:=abC (B:=H.U) (m:=m) aR bs.length 0 ⟨H1.U+3,H1.aH⟩ ⟨I.u,I.k,I.p,d⟩ s [] ab ab (by show H.U≤H1.U+3;omega) ou fa (by simp only [List.length_nil];omega) I6 (by show q<H1.U+3;omega) abE;rw [List.drop_zero,List.nil_append]at g2;exact⟨H2,cZ,.int .i64 bs.length,fw.hQ aC,g2,Qk qN⟩
 obtain⟨H2,cZ,gm,dN,g2,qN⟩:=AP;obtain⟨f2,vr,vt,r2,r4,nt,I7,ib,ahL,abF⟩:=g2.clear;obtain⟨g3,y7⟩:=abF 9;generalize kk:((⟨H2.U+9,H2.aH⟩:J).set d (b0 d f2 cZ.u vr vt r2 (.slice none 0 0) nt))=aX at g3 y7;have abG:hL (bY.D env) 56 ⟨d,0,0,5,6⟩ (.slice none 0 0) ⟨H2.U+9,H2.aH⟩=some aX:=by rw [←kk];exact CQ I7
 have jH:=qN.U;have iR:aX.U=H2.U+9:=by rw [←kk];rfl
 have Az:Fr H ⟨aX.U+2,aX.aH⟩ d I ⟨cZ.u,cZ.k,cZ.p,d⟩:=I5 (lU.trans (qN.trans y7))
 obtain⟨v,ag,aE,bh,bU⟩:=abx H H1 H2 aX d bs.length m o r4 gm (fun v ag=>v=r4∧ag=⟨aX.U+2,aX.aH⟩) (by
  refine aY (Nat.le_refl _) (aY ab (aY ab ⟨pB rfl hF,aY ab ⟨dN,aY ab ⟨Qj I7,aY ab ⟨pB rfl abG,aY ab ?_⟩⟩⟩⟩));refine r' ab ?_
  exact⟨rfl,rfl⟩)
 subst bh bU;have f':ci ⟨aX.U+2,aX.aH⟩ d ⟨cZ.u,cZ.k,cZ.p,d⟩ (dd s bs).1 []:=qM g3;rcases ib with ⟨ac,ai,a8⟩|⟨ac,ai,ad,so,mT,a8,bQ⟩
 ·exact⟨_,_,_,0,aE,f',Az,.inl ⟨ac,ai⟩,fun h=>absurd ai h⟩
 ·have abH:=(by obtain⟨ks,mK,_⟩:=g2;exact mK.lt:d<H2.U∧cZ.u<H2.U∧cZ.k<H2.U∧cZ.p<H2.U∧cZ.o<H2.U)
  have eX:(⟨aX.U+2,aX.aH⟩:J).get cZ.o=some (ct ((dd s bs).2.map cB) 6 ad so mT k'):=by rw [←bQ];show aX.get cZ.o=H2.get cZ.o;rw [←kk,J.fg _ _ (Ne.symm ac)];rfl
  have iH:lV cZ.o d ⟨cZ.u,cZ.k,cZ.p,d⟩:=by
   obtain⟨ks,mK,_⟩:=g2;obtain⟨G3,ic,G4,G5,dS,eg,en,hD⟩:=mK.ex;obtain⟨j0,j1,j2,j3,uty,hu⟩:=mK.iD;refine⟨ac,fun h=> ?_,fun h=> ?_,fun h=> ?_,ac⟩
   ·have h:cZ.o=cZ.u:=h;rw [h,hu]at bQ;simp [af.an]at bQ
   ·have h:cZ.o=cZ.k:=h;cases ks with
    |nil=>exact ac (by rw [h];exact eg.2.2)
    |one=>have:=eg.2.2.1;rw [←h,bQ]at this;simp [af.an]at this
    |grown junk=>obtain⟨_,_,_,_,_,this⟩:=eg;rw [←h,bQ]at this;simp at this
   ·have h:cZ.o=cZ.p:=h;rcases en with ⟨_,_,en⟩|⟨_,_,_,_,_,_,this⟩
    ·exact ac (by rw [h];exact en)
    ·rw [←h,bQ]at this;simp at this
  refine⟨_,_,_,cZ.o,aE,f',Az,.inr ⟨ai,by show cZ.o<aX.U+2;omega,ad,so,mT,a8,eX⟩,fun _=>⟨iH,?_⟩⟩;have hid:cZ.o=d∨cZ.o=I.u∨cZ.o=I.k∨cZ.o=I.p∨cZ.o=d∨H1.U≤cZ.o:=qN.ids cZ.o (.inr (.inr (.inr rfl)));omega
theorem abI(ae:bI)(aW:ae (.ptr (aJ 3)) (J.ar 17 [(3,(af.an ([.agg [.func (.func 30) [.ptr (aJ 3)] [],.slice none 0 0,.slice none 0 0,.bool false,.ptr (some ⟨7,0,0,0,5⟩),.slice none 0 0]]) 6 true (some (68,6)))),(7,af.an [.agg [.int .u8 0,.int .u8 0,.int .u8 0,.int .u8 0,.int .i64 0]] 5 true (some (97,5)))])) :
 b4 14 [] (⟨0,.nil⟩) ae :=
 b9 gC (he 1000 .nil) aW
theorem abJ(f eH cR cI pm:Nat)(hV jC:Option bA)(pas:Bool)(ov:aa)(bj K P O:af)(dty:bL)(ae:bI)(aW:(-9223372036854775808≤(cR:Int)+(eH:Int)∧(cR:Int)+(eH:Int)≤9223372036854775807)∧ae (.int .i64 ((cR:Int)+(eH:Int))) (J.ar 20 [(0,⟨[.agg [(eF f),.slice hV eH cI,.slice jC cR pm,.bool pas,.ptr (some ⟨1,0,0,0,5⟩),ov]],6,true,false,0,0,0,dty⟩),(1,bj),(2,K),(3,P),(4,O)])) :
 b4 16 [.ptr (aJ 0)] (J.of [b0 0 f 1 (.slice hV eH cI) (.slice jC cR pm) pas ov dty,bj,K,P,O]) ae :=
 b9 gC (ak 3010 .nil) aW
theorem abK(bx aK aP bt:Int)(n:Nat)(ty:bL)(ae:bI)(aW:((n:Int)=0→ae (.slice none 0 0) (J.ar 12 [(0,⟨[.agg [.int .u8 bx,.int .u8 aK,.int .u8 aP,.int .u8 bt,.int .i64 (n:Int)]],5,true,false,0,0,0,ty⟩)]))∧(¬(n:Int)=0→ae (.slice (cm 15) 1 1) (J.ar 17 [(0,(hI bx aK aP bt ty)),(15,af.an [.int .i32 65533] 1 true)]))) :
 b4 57 [.ptr (some ⟨0,0,0,0,5⟩)] (J.of [hg bx aK aP bt n ty]) ae :=
 b9 gC (.aI 1007 .nil .nil) aW
theorem abL(H:J):∃aQ d I,bS 14 [] H (.ptr (some ⟨d,0,0,0,6⟩)) aQ∧ci aQ d I ⟨.ground,[],[],[]⟩ []∧H.U≤d∧H.U≤I.u∧I.k=d∧I.p=d∧I.o=d∧H.U≤aQ.U∧∀j,j<H.U→aQ.get j=H.get j:=by
 obtain⟨v,ac,aE,rfl,b7,abM,aR⟩:=abI (fun v ac=>v=.ptr (some ⟨3,0,0,0,6⟩)∧ac.get 3=some (b0 3 (cy .ground) 7 (.slice none 0 0) (.slice none 0 0) false (.slice none 0 0) (some (68,6)))∧ac.get 7=some (hg 0 0 0 0 0 (some (97,5)))∧ac.U=17) ⟨rfl,rfl,rfl,rfl⟩;have abN:bS 14 [] (J.of []) (.ptr (some ⟨3,0,0,0,6⟩)) ac:=aE;obtain⟨aQ,gk,lQ,eX,kd⟩:=abN.place aM (fun b ax=>by cases ax) trivial (H:=H) [] List.nodup_nil (fun j a1=>by cases a1) rfl (fun i b h=>by simp at h);have r:∀i,dJ [] H.U i=H.U+i:=fun i=>by rw [n9 aM];simp
 have g3:=eX 3 _ b7;have g7:=eX 7 _ abM;rw [r,(r5 _ _ _ _ _ _).bg]at g7;rw [r]at g3
 have e0:(b0 3 (cy .ground) 7 (.slice none 0 0) (.slice none 0 0) false (.slice none 0 0) (some (68,6))).bg (dJ [] H.U)=b0 (H.U+3) (cy .ground) (H.U+7) (.slice none 0 0) (.slice none 0 0) false (.slice none 0 0) (some (68,6)):=by simp [af.bg,af.an,aa.bg,aa.gK,bA.bg,r]
 rw [e0]at g3;have ahM:aQ.U=H.U+17:=by rw [lQ,aR];simp
 refine⟨aQ,H.U+3,⟨H.U+7,H.U+3,H.U+3,H.U+3⟩,?_,⟨.nil,⟨⟨_,_,_,_,g3,⟨rfl,rfl,rfl⟩,.inl ⟨rfl,rfl,rfl⟩,.inl ⟨rfl,rfl,rfl⟩⟩,⟨0,0,0,0,_,g7⟩,?_,.inl rfl⟩,trivial⟩,ab,by show H.U≤H.U+7;omega,rfl,rfl,rfl,ab,fun j a1=>kd j a1 aM⟩
 ·simpa [aa.bg,bA.bg,r]using gk
 ·show H.U+3<aQ.U∧H.U+7<aQ.U∧H.U+3<aQ.U∧H.U+3<aQ.U∧H.U+3<aQ.U;omega
theorem I8{h:J}{d k:Nat}{v:aa}{ks:fY}{l:Bytes}(au:jl h d k v ks l):∃o,v=.slice o l.length l.length:=by
 cases ks with
 |nil=>obtain⟨rfl,rfl,_⟩:=au;exact⟨none,rfl⟩
 |one=>obtain⟨_,rfl,_,rfl⟩:=au;exact⟨_,rfl⟩
 |grown j=>obtain⟨_,_,_,_,rfl,_⟩:=au;exact⟨_,rfl⟩
theorem abO{h:J}{d k:Nat}{v:aa}{l:Bytes}(ah:jm h d k v l):∃o,v=.slice o l.length l.length:=by
 rcases ah with ⟨rfl,rfl,_⟩|⟨_,_,_,_,_,rfl,_⟩
 ·exact⟨none,rfl⟩
 ·exact⟨_,rfl⟩
theorem abP{H:J}{d:Nat}{I:cp}{s:bK}{es:List bl}(g:ci H d I s es)(au:s.al.length<2^40)(ah:s.aD.length<2^40):∃aQ,bS 16 [.ptr (some ⟨d,0,0,0,6⟩)] H (.int .i64 (held s:Nat)) aQ∧∃aO,ci aQ d aO s es∧Fr H aQ d I aO:=by
 obtain⟨ks,g,hs⟩:=g;refine g.lift (Q:=fun h d I=>ci h d I s es) (rest:=[]) (fun a aT=>by cases aT) (cU.int _ _) (fun ag aQ r d I bc iu cG q=>q.pn bc iu cG) ?_;intro kv pv ov ty uty j0 j1 j2 j3 K P O a7 gs cL;obtain⟨abQ,x0,ip,pq⟩:=a7;obtain rfl:abQ=1:=cL.1;obtain⟨gh,pA,jD⟩:=nv gs;obtain⟨hV,rfl⟩:=I8 gh;obtain⟨jC,rfl⟩:=abO pA
 obtain⟨v,ag,aE,rfl,e0,bi,bu,b7,cc,aR⟩:=abJ (cy s.nx) s.al.length s.aD.length s.al.length s.aD.length hV jC (decide (s.nx=.cK)) ov (cb s.aF j0 j1 j2 j3 uty) K P O ty (fun v ag=>v=.int .i64 (held s:Nat)∧ag.get 0=some (b0 0 (cy s.nx) 1 (.slice hV s.al.length s.al.length) (.slice jC s.aD.length s.aD.length) (decide (s.nx=.cK)) ov ty)∧ag.get 1=some (cb s.aF j0 j1 j2 j3 uty)∧ag.get 2=some K∧ag.get 3=some P∧ag.get 4=some O∧ag.U=20)
  ⟨⟨ab,ab⟩,by unfold held;rw [show((s.aD.length+s.al.length:Nat):Int)=(s.aD.length:Int)+(s.al.length:Int)by omega],rfl,rfl,rfl,rfl,rfl,rfl⟩
 refine⟨ag,aE,⟨1,x0,ip,pq⟩,⟨ks,⟨⟨_,_,_,_,e0,?_,?_,?_⟩,⟨j0,j1,j2,j3,uty,bi⟩,?_,gs.ne⟩,hs⟩,⟨by show 5≤ag.U;omega,?_,fun x aj=> ?_⟩⟩
 ·exact gh.keep fun aR=>by
   rcases cL.2.1 with h|h
   ·exact absurd h aR
   ·simp only at h;subst h;rw [bu,J.eV];rfl
 ·exact pA.keep fun aR=>by
   rcases cL.2.2.1 with h|h
   ·exact absurd h aR
   ·simp only at h;subst h;rw [b7,J.eV];rfl
 ·exact jD.keep fun aR=>by
   rcases cL.2.2.2 with h|h
   ·exact absurd h aR
   ·simp only at h;subst h;rw [cc,J.eV];rfl
 ·have ai:=cL.2.1;have a8:=cL.2.2.1;have bQ:=cL.2.2.2;simp only at ai a8 bQ;show 0<ag.U∧1<ag.U∧x0<ag.U∧ip<ag.U∧pq<ag.U;omega
 ·intro j a1 a6 n2 eY hN ha;have a1:j<5:=a1;have n2:j≠1:=n2;have:j=2∨j=3∨j=4:= ab;rw [J.eV];rcases this with rfl|rfl|rfl
  ·rw [bu];rfl
  ·rw [b7];rfl
  ·rw [cc];rfl
 ·have aj:x=1∨x=x0∨x=ip∨x=pq:=aj;show x=0∨x=1∨x=x0∨x=ip∨x=pq∨5≤x;omega
theorem abR{f:FuncId}{args:List aa}{h ag:J}{v:aa}(k:bS f args h v ag):bS f args h .undef ag:=by intro be bo db fm φ w dk ed cH ea;obtain⟨a,b⟩:=k be bo db fm φ w dk ed cH ea;exact⟨a,b.mono fun e bq ⟨br,bE,dh,du,fE,k2,ns,tw⟩=>⟨br,bE,dh,du,by simp only [aL],k2,ns,tw⟩⟩
structure abS(h:J)(a:bA):Prop where
 at':a=⟨a.id,0,0,0,5⟩
 lt:a.id<h.U
 ex:∃aF j0 j1 j2 j3 ty,h.get a.id=some (cb aF j0 j1 j2 j3 ty)
structure abT(h:J)(a:bA)(ag:J):Prop where
 all:∀aF j0 j1 j2 j3 ty,h.get a.id=some (cb aF j0 j1 j2 j3 ty)→ ∃i0 i1 i2 i3,ag.get a.id=some (cb [] i0 i1 i2 i3 ty)
 get:∀j,j<h.U→j≠a.id→ag.get j=h.get j
 U:h.U≤ag.U
def I9:List aa→J→Option ey:=fun args h=>match args with
 |[.ptr (some a)]=>some (.some .undef [abS h a] (abT h a))
 |_=>none
theorem Qn{H:J}{u:Nat}{aF:Bytes}{j0 j1 j2 j3:Int}{ty:bL}(hu:u<H.U)(ak:H.get u=some (cb aF j0 j1 j2 j3 ty)):∃aQ i0 i1 i2 i3,bS 57 [.ptr (some ⟨u,0,0,0,5⟩)] H .undef aQ∧aQ.get u=some (cb [] i0 i1 i2 i3 ty)∧(∀j,j<H.U→j≠u→aQ.get j=H.get j)∧H.U≤aQ.U:=by
 obtain⟨v,ac,aE,hT,lg⟩:=abK (b8 aF 0 j0) (b8 aF 1 j1) (b8 aF 2 j2) (b8 aF 3 j3) aF.length ty (fun v ac=>ac.get 0=some (hg (b8 aF 0 j0) (b8 aF 1 j1) (b8 aF 2 j2) (b8 aF 3 j3) 0 ty)∧1≤ac.U) ⟨fun h=>⟨by rw [h];rfl,by show 1≤12;decide⟩,fun _=>⟨rfl,by show 1≤17;decide⟩⟩
 obtain⟨aQ,gk,lQ,eX,kd⟩:=aE.place lg (fun b ax=>by rw [List.mem_singleton.1 ax];exact(r5 _ _ _ _ _ _).eM _) (by exact⟨by show 0<1;decide,trivial⟩) (H:=H) [u] aM (fun j a1=>by rw [List.mem_singleton.1 a1];exact hu) rfl (fun i b h=>by
  have aq:i=0:=by have:=(List.getElem?_eq_some_iff.1 h).1;simpa using this
  subst aq;simp only [List.getElem?_cons_zero,Option.some.injEq]at h;subst h;rw [(r5 _ _ _ _ _ _).bg]
  exact ak)
 refine⟨aQ,b8 aF 0 j0,b8 aF 1 j1,b8 aF 2 j2,b8 aF 3 j3,?_,?_,fun j a1 bX=>kd j a1 (by simpa using bX),ab⟩
 ·have:=abR gk;simpa [aa.bg,bA.bg,dJ]using this
 ·have:=eX 0 _ hT;rw [(r5 _ _ _ _ _ _).bg]at this;exact this
theorem abU{h ai:Bytes}{j0 j1 j2 j3 i0 i1 i2 i3:Int}{ty nt:bL}(e:cb h j0 j1 j2 j3 ty=cb ai i0 i1 i2 i3 nt):ty=nt:=by simp only [af.an,af.mk.injEq]at e;exact e.2.2.2.2.2.2.2
theorem abV:∀args h a,I9 args h=some a→a.dt Tryz.prog cX 57 args h:=by
 intro args h a e;unfold I9 at e;split at e<;>first|(cases e;done)|skip
 rename_i a;simp only [Option.some.injEq]at e;subst e;intro ah;obtain⟨aF,j0,j1,j2,j3,ty,ak⟩:=ah.head.ex;obtain⟨aQ,i0,i1,i2,i3,aE,g1,g2,g3⟩:=Qn ah.head.lt ak;rw [←ah.head.at']at aE;refine⟨aQ,aE,⟨fun BR bx aK aP bt nt mu=> ?_,g2,g3⟩⟩;rw [ak]at mu;have:=abU (Option.some.inj mu);subst this;exact⟨i0,i1,i2,i3,g1⟩
noncomputable def abW:e1:=BV.add 57 I9
theorem vR:eJ Tryz.prog cX abW:=x1.add abV
theorem abX(H:J)(d:Nat)(ae:bI)(aW:bd (H.U) (H.U) (bd (H.U) (H.U+1) (bM env.D 4 ⟨d,0,0,3,6⟩ (J.mk (H.U+17) (H.2))=some (aa.bool true)∧bd (H.U) (H.U+17) (bC (H.U) (H.U+18) (ae (.slice none 0 0) (J.mk (H.U+17+1) (J.aH (J.mk (H.U+1+16) (J.aH (J.mk (H.U+1) (J.aH H))))))))))) :
 b4 27 [.ptr (aJ d)] H ae :=
 b9 vR (.az (.val 1006 (.bool true)) .nil) aW
theorem abY(H:J)(d:Nat)(hV:Option bA)(ae:bI)(aW:bd (H.U) (H.U) (bd (H.U) (H.U+1) (bM env.D 4 ⟨d,0,0,3,6⟩ (J.mk (H.U+17) (H.2))=some (aa.bool false)∧bM env.D 34 ⟨d,0,0,1,6⟩ (J.mk (H.U+17) (H.2))=some (aa.slice hV 0 0)∧bd (H.U) (H.U+17) (bC (H.U) (H.U+18) (ae (.slice none 0 0) (J.mk (H.U+17+1) (J.aH (J.mk (H.U+1+16) (J.aH (J.mk (H.U+1) (J.aH H))))))))))) :
 b4 27 [.ptr (aJ d)] H ae :=
 b9 vR (.az (.val 1006 (.bool false)) (.az (.val 1012 (.slice hV 0 0)) .nil)) aW
abbrev y8(bO:J):J:=(J.mk (bO.U+2) (J.aH bO))
abbrev CR(bO:J)(x:Nat)(ov:aa):c':=(.az (.val 13003 ov) (.az (.act 14003 (.tuple []) fun x=>bO) .nil))
abbrev Qo(t:Bytes):aa:=aa.agg [.int .i8 7,.int .i32 0,.int .u8 0,.int .i64 0,.int .i64 0,.str t]
abbrev CS(x:Nat):aa:=aa.agg [.int .i8 1,.int .i32 (x:Int),.int .u8 2,.int .i64 0,.int .i64 0,.str []]
theorem CT(H H1 H2 aX bO:J)(d u eH x:Nat)(hV tU:Option bA)(t:Bytes)(ov:aa)(ae:bI)(aW:bd (H.U) (H.U) (bd (H.U) (H.U+1) (bM env.D 4 ⟨d,0,0,3,6⟩ (J.mk (H.U+17) (H.2))=some (aa.bool false)∧bM env.D 34 ⟨d,0,0,1,6⟩ (J.mk (H.U+17) (H.2))=some (aa.slice hV (eH+1) (eH+1))∧bd (H.U) (H.U+17) (bN env dF (H.U+20) (bD [(23,.ptr (some ⟨d,0,0,5,6⟩)),(22,.ptr (aJ d)),(21,.ptr (aJ d)),(20,.bool false),(19,.bool false),(18,.int .i64 (↑(eH+1):Int)),(17,.slice hV (eH+1) (eH+1)),(16,.ptr (some ⟨d,0,0,1,6⟩)),(15,.ptr (aJ d)),(14,.ptr (aJ d)),(13,.bool false),(12,.bool false),(11,.bool false),(10,.ptr (some ⟨d,0,0,3,6⟩)),(9,.ptr (aJ d)),(8,.ptr (aJ d)),(7,.bool false),(6,.bool false),(5,.ptr (aJ d)),(2,.slice none 0 0),(0,.ptr (aJ d))]) (J.mk (H.U+21) (H.2)) (Op.store 56 (Operand.tmp 23) (Operand.const (Value.slice none 0 0)))=some (aa.tuple [],H1)∧bd (H.U) (H1.U) (bM env.D 64 ⟨d,0,0,4,6⟩ (J.mk (H1.U+5) (H1.2))=some (aa.ptr (some ⟨u,0,0,0,5⟩))∧ca 57 [.ptr (some ⟨u,0,0,0,5⟩)] (J.mk (H1.U+5) (H1.2)) aa.undef H2∧bd (H.U) (H2.U) (bM env.D 34 ⟨d,0,0,1,6⟩ (J.mk (H2.U+6) (H2.2))=some (aa.slice tU (eH+1) (eH+1))∧e7 env (H2.U+4) (bD [(32,.slice tU (eH+1) (eH+1)),(31,.ptr (some ⟨d,0,0,1,6⟩)),(30,.ptr (aJ d)),(29,.ptr (aJ d)),(28,aa.undef),(27,.ptr (some ⟨u,0,0,0,5⟩)),(26,.ptr (some ⟨d,0,0,4,6⟩)),(25,.ptr (aJ d)),(24,.ptr (aJ d)),(23,.ptr (some ⟨d,0,0,5,6⟩)),(22,.ptr (aJ d)),(21,.ptr (aJ d)),(20,.bool false),(19,.bool false),(18,.int .i64 (↑(eH+1):Int)),(17,.slice hV (eH+1) (eH+1)),(16,.ptr (some ⟨d,0,0,1,6⟩)),(15,.ptr (aJ d)),(14,.ptr (aJ d)),(13,.bool false),(12,.bool false),(11,.bool false),(10,.ptr (some ⟨d,0,0,3,6⟩)),(9,.ptr (aJ d)),(8,.ptr (aJ d)),(7,.bool false),(6,.bool false),(5,.ptr (aJ d)),(2,.slice none 0 0),(0,.ptr (aJ d))]) (J.mk (H2.U+6) (H2.2)) (Op.convert 34 9 (Operand.tmp 32))=some (aa.str t,(J.mk (H2.U+6) (H2.2)))∧bd (H.U) (H2.U+6) (bd (H.U) (H2.U+7) ((t=[(27:UInt8)]→bd (H.U) (H2.U+9) (ca 58 [.ptr (aJ d),fL] (J.mk (H2.U+12) (H2.2)) (.tuple []) aX∧bd (H.U) (aX.U) (bM env.D 56 ⟨d,0,0,5,6⟩ (J.mk (aX.U+5) (aX.2))=some ov∧bd (H.U) (aX.U+5) (bN env dF (aX.U+8) (bD [(59,.ptr (some ⟨d,0,0,5,6⟩)),(58,.ptr (aJ d)),(57,.ptr (aJ d)),(4,ov),(56,ov),(55,.ptr (some ⟨d,0,0,5,6⟩)),(54,.ptr (aJ d)),(53,.ptr (aJ d)),(43,.tuple []),(42,fL),(41,.ptr (aJ d)),(39,.bool true),(40,.bool true),(34,.str t),(3,.str t),(33,.str t),(32,.slice tU (eH+1) (eH+1)),(31,.ptr (some ⟨d,0,0,1,6⟩)),(30,.ptr (aJ d)),(29,.ptr (aJ d)),(28,aa.undef),(27,.ptr (some ⟨u,0,0,0,5⟩)),(26,.ptr (some ⟨d,0,0,4,6⟩)),(25,.ptr (aJ d)),(24,.ptr (aJ d)),(23,.ptr (some ⟨d,0,0,5,6⟩)),(22,.ptr (aJ d)),(21,.ptr (aJ d)),(20,.bool false),(19,.bool false),(18,.int .i64 (↑(eH+1):Int)),(17,.slice hV (eH+1) (eH+1)),(16,.ptr (some ⟨d,0,0,1,6⟩)),(15,.ptr (aJ d)),(14,.ptr (aJ d)),(13,.bool false),(12,.bool false),(11,.bool false),(10,.ptr (some ⟨d,0,0,3,6⟩)),(9,.ptr (aJ d)),(8,.ptr (aJ d)),(7,.bool false),(6,.bool false),(5,.ptr (aJ d)),(2,.slice none 0 0),(0,.ptr (aJ d))]) (J.mk (aX.U+9) (aX.2)) (Op.store 56 (Operand.tmp 59) (Operand.const (Value.slice none 0 0)))=some (aa.tuple [],bO)∧bd (H.U) (bO.U) (bC (H.U) (bO.U+2) (ae ov (y8 bO)))))))∧(¬t=[(27:UInt8)]→bd (H.U) (H2.U+9) ((t=[(27:UInt8),(91:UInt8)]→bd (H.U) (H2.U+11) (oM env.D 9 (.str t) (.int .i64 1)=some (.int .u8 (x:Int))∧(-2147483648≤(x:Int)∧(x:Int)≤2147483647)∧ca 58 [.ptr (aJ d),(CS x)] (J.mk (H2.U+17) (H2.2)) (.tuple []) aX∧bd (H.U) (aX.U) (bM env.D 56 ⟨d,0,0,5,6⟩ (J.mk (aX.U+5) (aX.2))=some ov∧bd (H.U) (aX.U+5) (bN env dF (aX.U+8) (bD [(59,.ptr (some ⟨d,0,0,5,6⟩)),(58,.ptr (aJ d)),(57,.ptr (aJ d)),(4,ov),(56,ov),(55,.ptr (some ⟨d,0,0,5,6⟩)),(54,.ptr (aJ d)),(53,.ptr (aJ d)),(52,.tuple []),(51,(CS x)),(50,.int .i32 (x:Int)),(49,.int .u8 (x:Int)),(48,.str t),(47,.ptr (aJ d)),(44,.bool true),(45,.bool true),(39,.bool false),(40,.bool false),(34,.str t),(3,.str t),(33,.str t),(32,.slice tU (eH+1) (eH+1)),(31,.ptr (some ⟨d,0,0,1,6⟩)),(30,.ptr (aJ d)),(29,.ptr (aJ d)),(28,aa.undef),(27,.ptr (some ⟨u,0,0,0,5⟩)),(26,.ptr (some ⟨d,0,0,4,6⟩)),(25,.ptr (aJ d)),(24,.ptr (aJ d)),(23,.ptr (some ⟨d,0,0,5,6⟩)),(22,.ptr (aJ d)),(21,.ptr (aJ d)),(20,.bool false),(19,.bool false),(18,.int .i64 (↑(eH+1):Int)),(17,.slice hV (eH+1) (eH+1)),(16,.ptr (some ⟨d,0,0,1,6⟩)),(15,.ptr (aJ d)),(14,.ptr (aJ d)),(13,.bool false),(12,.bool false),(11,.bool false),(10,.ptr (some ⟨d,0,0,3,6⟩)),(9,.ptr (aJ d)),(8,.ptr (aJ d)),(7,.bool false),(6,.bool false),(5,.ptr (aJ d)),(2,.slice none 0 0),(0,.ptr (aJ d))]) (J.mk (aX.U+9) (aX.2)) (Op.store 56 (Operand.tmp 59) (Operand.const (Value.slice none 0 0)))=some (aa.tuple [],bO)∧bd (H.U) (bO.U) (bC (H.U) (bO.U+2) (ae ov (y8 bO)))))))∧(¬t=[(27:UInt8),(91:UInt8)]→bd (H.U) (H2.U+11) ((t=[(27:UInt8),(79:UInt8)]→bd (H.U) (H2.U+13) (oM env.D 9 (.str t) (.int .i64 1)=some (.int .u8 (x:Int))∧(-2147483648≤(x:Int)∧(x:Int)≤2147483647)∧ca 58 [.ptr (aJ d),(CS x)] (J.mk (H2.U+19) (H2.2)) (.tuple []) aX∧bd (H.U) (aX.U) (bM env.D 56 ⟨d,0,0,5,6⟩ (J.mk (aX.U+5) (aX.2))=some ov∧bd (H.U) (aX.U+5) (bN env dF (aX.U+8) (bD [(59,.ptr (some ⟨d,0,0,5,6⟩)),(58,.ptr (aJ d)),(57,.ptr (aJ d)),(4,ov),(56,ov),(55,.ptr (some ⟨d,0,0,5,6⟩)),(54,.ptr (aJ d)),(53,.ptr (aJ d)),(52,.tuple []),(51,(CS x)),(50,.int .i32 (x:Int)),(49,.int .u8 (x:Int)),(48,.str t),(47,.ptr (aJ d)),(44,.bool true),(46,.bool true),(45,.bool false),(39,.bool false),(40,.bool false),(34,.str t),(3,.str t),(33,.str t),(32,.slice tU (eH+1) (eH+1)),(31,.ptr (some ⟨d,0,0,1,6⟩)),(30,.ptr (aJ d)),(29,.ptr (aJ d)),(28,aa.undef),(27,.ptr (some ⟨u,0,0,0,5⟩)),(26,.ptr (some ⟨d,0,0,4,6⟩)),(25,.ptr (aJ d)),(24,.ptr (aJ d)),(23,.ptr (some ⟨d,0,0,5,6⟩)),(22,.ptr (aJ d)),(21,.ptr (aJ d)),(20,.bool false),(19,.bool false),(18,.int .i64 (↑(eH+1):Int)),(17,.slice hV (eH+1) (eH+1)),(16,.ptr (some ⟨d,0,0,1,6⟩)),(15,.ptr (aJ d)),(14,.ptr (aJ d)),(13,.bool false),(12,.bool false),(11,.bool false),(10,.ptr (some ⟨d,0,0,3,6⟩)),(9,.ptr (aJ d)),(8,.ptr (aJ d)),(7,.bool false),(6,.bool false),(5,.ptr (aJ d)),(2,.slice none 0 0),(0,.ptr (aJ d))]) (J.mk (aX.U+9) (aX.2)) (Op.store 56 (Operand.tmp 59) (Operand.const (Value.slice none 0 0)))=some (aa.tuple [],bO)∧bd (H.U) (bO.U) (bC (H.U) (bO.U+2) (ae ov (y8 bO)))))))∧(¬t=[(27:UInt8),(79:UInt8)]→bd (H.U) (H2.U+13) (ca 58 [.ptr (aJ d),(Qo t)] (J.mk (H2.U+17) (H2.2)) (.tuple []) aX∧bd (H.U) (aX.U) (bM env.D 56 ⟨d,0,0,5,6⟩ (J.mk (aX.U+5) (aX.2))=some ov∧bd (H.U) (aX.U+5) (bN env dF (aX.U+8) (bD [(59,.ptr (some ⟨d,0,0,5,6⟩)),(58,.ptr (aJ d)),(57,.ptr (aJ d)),(4,ov),(56,ov),(55,.ptr (some ⟨d,0,0,5,6⟩)),(54,.ptr (aJ d)),(53,.ptr (aJ d)),(38,.tuple []),(37,(Qo t)),(36,.str t),(35,.ptr (aJ d)),(44,.bool false),(46,.bool false),(45,.bool false),(39,.bool false),(40,.bool false),(34,.str t),(3,.str t),(33,.str t),(32,.slice tU (eH+1) (eH+1)),(31,.ptr (some ⟨d,0,0,1,6⟩)),(30,.ptr (aJ d)),(29,.ptr (aJ d)),(28,aa.undef),(27,.ptr (some ⟨u,0,0,0,5⟩)),(26,.ptr (some ⟨d,0,0,4,6⟩)),(25,.ptr (aJ d)),(24,.ptr (aJ d)),(23,.ptr (some ⟨d,0,0,5,6⟩)),(22,.ptr (aJ d)),(21,.ptr (aJ d)),(20,.bool false),(19,.bool false),(18,.int .i64 (↑(eH+1):Int)),(17,.slice hV (eH+1) (eH+1)),(16,.ptr (some ⟨d,0,0,1,6⟩)),(15,.ptr (aJ d)),(14,.ptr (aJ d)),(13,.bool false),(12,.bool false),(11,.bool false),(10,.ptr (some ⟨d,0,0,3,6⟩)),(9,.ptr (aJ d)),(8,.ptr (aJ d)),(7,.bool false),(6,.bool false),(5,.ptr (aJ d)),(2,.slice none 0 0),(0,.ptr (aJ d))]) (J.mk (aX.U+9) (aX.2)) (Op.store 56 (Operand.tmp 59) (Operand.const (Value.slice none 0 0)))=some (aa.tuple [],bO)∧bd (H.U) (bO.U) (bC (H.U) (bO.U+2) (ae ov (y8 bO))))))))))))))))))) :
 b4 27 [.ptr (aJ d)] H ae :=
 b9 vR (.az (.val 1006 (.bool false)) (.az (.val 1012 (.slice hV (eH+1) (eH+1))) (.az (.act 3003 (.tuple []) fun x=>H1) (.az (.val 4003 (.ptr (some ⟨u,0,0,0,5⟩))) (.az (.act 4004 aa.undef fun x=>H2) (.az (.val 5003 (.slice tU (eH+1) (eH+1))) (.az (.mm 5004 (.str t) fun h=>h) (.aI 8000 (.az (.act 9002 (.tuple []) fun x=>aX) (CR bO x ov)) (.aI 10000 (.az (.val 12002 (.int .u8 (x:Int))) (ak 12003 (.az (.act 12005 (.tuple []) fun x=>aX) (CR bO x ov)))) (.aI 11000 (.az (.val 12002 (.int .u8 (x:Int))) (ak 12003 (.az (.act 12005 (.tuple []) fun x=>aX) (CR bO x ov)))) (.az (.act 7003 (.tuple []) fun x=>aX) (CR bO x ov)))))))))))) aW
theorem Qp{h:J}{d f u:Nat}{kv pv ov:aa}{pas:Bool}{ty:bL}(e:h.get d=some (b0 d f u kv pv pas ov ty)):bM (bY.D env) 4 ⟨d,0,0,3,6⟩ h=some (.bool pas):=by have bZ:(bY.D env 4).map (fun d=>d.kind.isAgg)=some false:= ay;obtain⟨x,ac,ai⟩:=Option.map_eq_some_iff.1 bZ;unfold bM;rw [ac,e];simp [af.elem?,af.cC,hZ,ai,af.an]
theorem Qq{h:J}{d f u:Nat}{kv pv ov:aa}{pas:Bool}{ty:bL}(e:h.get d=some (b0 d f u kv pv pas ov ty)):bM (bY.D env) 34 ⟨d,0,0,1,6⟩ h=some kv:=by have bZ:(bY.D env 34).map (fun d=>d.kind.isAgg)=some false:= ay;obtain⟨x,ac,ai⟩:=Option.map_eq_some_iff.1 bZ;unfold bM;rw [ac,e];simp [af.elem?,af.cC,hZ,ai,af.an]
theorem abZ{h:J}{d f u:Nat}{kv pv ov:aa}{pas:Bool}{ty:bL}(e:h.get d=some (b0 d f u kv pv pas ov ty)):bM (bY.D env) 64 ⟨d,0,0,4,6⟩ h=some (.ptr (some ⟨u,0,0,0,5⟩)):=by have bZ:(bY.D env 64).map (fun d=>d.kind.isAgg)=some false:= ay;obtain⟨x,ac,ai⟩:=Option.map_eq_some_iff.1 bZ;unfold bM;rw [ac,e];simp [af.elem?,af.cC,hZ,ai,af.an]
theorem ab0{H:J}{d k:Nat}{v:aa}{ks:fY}{l:Bytes}(au:jl H d k v ks l)(bX:l≠[]):∃a,v=.slice (some a) l.length l.length∧fU 1 (.slice (some a) l.length l.length) H=some (aN l):=by
 cases ks with
 |nil=>exact absurd au.2.1 bX
 |one =>
  obtain⟨_,rfl,ak,rfl⟩:=au;refine⟨_,rfl,?_⟩;simp only [fU,if_true,ak];rfl
 |grown j =>
  obtain⟨_,ad,m,f,rfl,ak⟩:=au;refine⟨_,rfl,?_⟩;have aR:l.length≠0:=fun h=>bX (List.length_eq_zero_iff.1 h)
  simp only [fU,if_true,ak];rw [if_neg aR,if_pos ⟨by simp [af.cC,aN],by simp [aN]⟩];simp only [aN,List.map_append];rw [List.drop_left' aM,List.take_of_length_le aM]
theorem CU{F:bJ}{nid k n c:Nat}{H:J}{a:bA}{l:Bytes}(aZ:bD F (.tmp k)=.slice (some a) n c)(fO:fU 1 (.slice (some a) n c) H=some (aN l)):e7 env nid (bD F) H (Op.convert 34 9 (Operand.tmp k))=some (.str l,H):=by have ac:(bY.D env 34).map (fun d=>d.kind)=some (.slice 5):= ay;have ai:(bY.D env 9).map (fun d=>d.kind)=some .string:= ay;have a8:(bY.D env 5).map (fun d=>d.kind)=some (.int .u8):= ay;obtain⟨kY,d1,aK⟩:=Option.map_eq_some_iff.1 ac;obtain⟨wS,d2,aP⟩:=Option.map_eq_some_iff.1 ai;obtain⟨w7,d3,bt⟩:=Option.map_eq_some_iff.1 a8;simp only [e7,aZ,q',d1,d2,aK,aP,d3,bt,fO,Bg,Option.map_some]
theorem ab1{H H2:J}{d:Nat}{I:cp}{f:Nat}{pas:Bool}{ks:fY}{al aF aD:Bytes}{es:List bl}{k:Nat}(g:dP H d I f pas ks al aF aD es)(aE:I.u≠d)(hu:∃i0 i1 i2 i3 ty,H2.get I.u=some (cb [] i0 i1 i2 i3 ty))(ak:∀j,j<H.U+k→j≠I.u→H2.get j=H.get j)(aR:H.U+k≤H2.U)(ab2:I.k≠d→I.k≠I.u)(ab3:I.p≠d→I.p≠I.u)(no:I.o≠d→I.o≠I.u):dP H2 d I f pas ks al [] aD es:=by obtain⟨kv,pv,ov,ty,e,au,ah,ao⟩:=g.ex;have aC:=g.lt;refine⟨⟨kv,pv,ov,ty,?_,au.keep fun h=>ak _ ab (ab2 h),ah.keep fun h=>ak _ ab (ab3 h),ao.keep fun h=>ak _ ab (no h)⟩,hu,ab,g.ne⟩;rw [ak d ab (Ne.symm aE)];exact e
theorem dP.apart{H:J}{d:Nat}{I:cp}{f:Nat}{pas:Bool}{ks:fY}{al aF aD:Bytes}{es:List bl}(g:dP H d I f pas ks al aF aD es):I.u≠d∧(I.k≠d→I.k≠I.u)∧(I.p≠d→I.p≠I.u)∧(I.o≠d→I.o≠I.u):=by
 obtain⟨kv,pv,ov,ty,e,au,ah,ao⟩:=g.ex;obtain⟨j0,j1,j2,j3,uty,hu⟩:=g.iD;refine⟨fun h=> ?_,fun ac h=> ?_,fun ac h=> ?_,fun ac h=> ?_⟩
 ·rw [h,e]at hu;simp [af.an]at hu
 ·cases ks with
  |nil=>exact ac au.2.2
  |one=>have:=au.2.2.1;rw [h,hu]at this;simp [af.an]at this
  |grown junk=>obtain⟨_,_,_,_,_,this⟩:=au;rw [h,hu]at this;simp [af.an]at this
 ·rcases ah with ⟨_,_,ah⟩|⟨_,_,_,_,_,_,this⟩
  ·exact ac ah
  ·rw [h,hu]at this;simp [af.an]at this
 ·rcases ao with ⟨_,_,ah⟩|⟨_,_,_,_,_,_,this⟩
  ·exact ac ah
  ·rw [h,hu]at this;simp [af.an]at this
theorem dP.U{h:J}{d:Nat}{I:cp}{f:Nat}{pas:Bool}{ks:fY}{al aF aD:Bytes}{es:List bl}{k:Nat}(g:dP h d I f pas ks al aF aD es):dP ⟨h.U+k,h.aH⟩ d I f pas ks al aF aD es:=by refine⟨g.ex,g.iD,?_,g.ne⟩;have:=g.lt;show d<h.U+k∧I.u<h.U+k∧I.k<h.U+k∧I.p<h.U+k∧I.o<h.U+k;omega
structure y9(H:J)(d:Nat)(I aO:cp)(o:Nat):Prop where
 off:lV o d aO
 of:o=I.u∨o=I.k∨o=I.p∨o=I.o∨H.U≤o
theorem ab4{H2:J}{d:Nat}{cZ:cp}{s:bK}{es:List bl}{f2:Nat}{vr vt r4:aa}{r2:Bool}{nt:bL}{a b:Nat}(g2:ci H2 d cZ s es)(I7:H2.get d=some (b0 d f2 cZ.u vr vt r2 r4 nt))(ib:jn H2 d cZ.o r4 es) :
 ∀(aX:J),((⟨H2.U+a,H2.aH⟩:J).set d (b0 d f2 cZ.u vr vt r2 (.slice none 0 0) nt))=aX→oz ⟨aX.U+b,aX.aH⟩ r4 es cZ.o∧(es≠[]→lV cZ.o d ⟨cZ.u,cZ.k,cZ.p,d⟩):=by
 intro aX kk;have iR:aX.U=H2.U+a:=by rw [←kk];rfl
 rcases ib with ⟨ac,ai,a8⟩|⟨ac,ai,ad,so,mT,a8,bQ⟩
 ·exact⟨.inl ⟨ac,ai⟩,fun h=>absurd ai h⟩
 ·have abH:=(by obtain⟨ks,mK,_⟩:=g2;exact mK.lt:d<H2.U∧cZ.u<H2.U∧cZ.k<H2.U∧cZ.p<H2.U∧cZ.o<H2.U)
  have eX:(⟨aX.U+b,aX.aH⟩:J).get cZ.o=some (ct (es.map cB) 6 ad so mT k'):=by rw [←bQ];show aX.get cZ.o=H2.get cZ.o;rw [←kk,J.fg _ _ (Ne.symm ac)];rfl
  have iH:lV cZ.o d ⟨cZ.u,cZ.k,cZ.p,d⟩:=by
   obtain⟨ks,mK,_⟩:=g2;obtain⟨G3,ic,G4,G5,dS,eg,en,hD⟩:=mK.ex;obtain⟨j0,j1,j2,j3,uty,hu⟩:=mK.iD;refine⟨ac,fun h=> ?_,fun h=> ?_,fun h=> ?_,ac⟩
   ·have h:cZ.o=cZ.u:=h;rw [h,hu]at bQ;simp [af.an]at bQ
   ·have h:cZ.o=cZ.k:=h;cases ks with
    |nil=>exact ac (by rw [h];exact eg.2.2)
    |one=>have:=eg.2.2.1;rw [←h,bQ]at this;simp [af.an]at this
    |grown junk=>obtain⟨_,_,_,_,_,this⟩:=eg;rw [←h,bQ]at this;simp at this
   ·have h:cZ.o=cZ.p:=h;rcases en with ⟨_,_,en⟩|⟨_,_,_,_,_,_,this⟩
    ·exact ac (by rw [h];exact en)
    ·rw [←h,bQ]at this;simp at this
  exact⟨.inr ⟨ai,by show cZ.o<aX.U+b;omega,ad,so,mT,a8,eX⟩,fun _=>iH⟩
theorem ab5{H:J}{d:Nat}{I:cp}{s:bK}(g:ci H d I s [])(fa:Keys.Good s)(lv:s.al.length<2^40) :
 ∃aQ v aO eB,bS 27 [.ptr (some ⟨d,0,0,0,6⟩)] H v aQ∧ci aQ d aO (flush s).1 []∧Fr H aQ d I aO∧oz aQ v (flush s).2 eB∧((flush s).2≠[]→y9 H d I aO eB):=by
 have Qr:∀v ag,v=aa.slice none 0 0∧ag=⟨H.U+18,H.aH⟩→flush s=(s,[])→bS 27 [.ptr (some ⟨d,0,0,0,6⟩)] H v ag →
  ∃aQ v aO eB,bS 27 [.ptr (some ⟨d,0,0,0,6⟩)] H v aQ∧ci aQ d aO (flush s).1 []∧Fr H aQ d I aO∧oz aQ v (flush s).2 eB∧((flush s).2≠[]→y9 H d I aO eB):=by
  rintro v ag ⟨rfl,rfl⟩ aZ aE;refine⟨_,_,I,0,aE,by rw [aZ];exact qM g,⟨by show H.U≤H.U+18;omega,fun j _ _ _ _ _ _=>rfl,fun x aj=> ab⟩,.inl ⟨rfl,by rw [aZ]⟩,fun h=>absurd (by rw [aZ]) h⟩
 obtain⟨ks,mK,hs⟩:=id g;obtain⟨kv,pv,ov,ty,e,au,ah,ao⟩:=mK.ex;by_cases nu:s.nx=.cK
 ·have aC:=Qp (h:=⟨H.U+17,H.aH⟩) e;rw [decide_eq_true nu]at aC;obtain⟨v,ag,aE,aB⟩:=abX H d (fun v ag=>v=aa.slice none 0 0∧ag=⟨H.U+18,H.aH⟩) (aY (Nat.le_refl _) (aY ab ⟨aC,aY ab (r' ab ⟨rfl,rfl⟩)⟩));exact Qr v ag aB (by unfold flush;rw [if_pos (.inl nu)]) aE
 have jO:=Qp (h:=⟨H.U+17,H.aH⟩) e;rw [decide_eq_false nu]at jO;have kE:=Qq (h:=⟨H.U+17,H.aH⟩) e;by_cases gx:s.al=[]
 ·obtain⟨hV,bh⟩:=I8 au;rw [bh,gx]at kE;obtain⟨v,ag,aE,aB⟩:=abY H d hV (fun v ag=>v=aa.slice none 0 0∧ag=⟨H.U+18,H.aH⟩) (aY (Nat.le_refl _) (aY ab ⟨jO,kE,aY ab (r' ab ⟨rfl,rfl⟩)⟩));exact Qr v ag aB (by unfold flush;rw [if_pos (.inr gx)]) aE
 obtain⟨eH,ky⟩:∃eH,s.al.length=eH+1:=⟨s.al.length-1,by have:s.al.length≠0:=fun h=>gx (List.length_eq_zero_iff.1 h);omega⟩
 obtain⟨f,xZ,lP,ab6,BU,ab7,gX,ahN,mY,gI⟩:=g.clear;obtain⟨g1,lU⟩:=gI 21;generalize y6:((⟨H.U+21,H.aH⟩:J).set d (b0 d f I.u xZ lP ab6 (.slice none 0 0) ab7))=H1 at g1 lU;have hF:hL (bY.D env) 56 ⟨d,0,0,5,6⟩ (.slice none 0 0) ⟨H.U+21,H.aH⟩=some H1:=by rw [←y6];exact CQ gX
 have lg:H1.U=H.U+21:=by rw [←y6];rfl
 obtain⟨ab8,y',ec⟩:=id g1;obtain⟨ahO,j8,ahP,ahQ,bi,gh,pA,jD⟩:=y'.ex;obtain⟨j0,j1,j2,j3,uty,ab9⟩:=y'.iD;have CV:=y'.apart;have ab':=y'.lt;have sQ:=abZ (h:=⟨H1.U+5,H1.aH⟩) bi;obtain⟨H2,i0,i1,i2,i3,wV,aca,mu,jH⟩:=Qn (H:=⟨H1.U+5,H1.aH⟩) (u:=I.u) (by have:=ab'.2.1;show I.u<H1.U+5;exact Nat.lt_of_lt_of_le this ab) ab9;have jH:H1.U+5≤H2.U:=jH;have I':dP H2 d ⟨I.u,I.k,I.p,d⟩ (cy s.nx) (decide (s.nx=.cK)) ab8 s.al [] s.aD []:=ab1 y' CV.1 ⟨_,_,_,_,_,aca⟩ mu jH CV.2.1 CV.2.2.1 CV.2.2.2;obtain⟨vr,vt,r4,nt,bu,cn,vu,ib⟩:=I'.ex;obtain⟨a,uz,fO⟩:=ab0 cn gx;have za:=Qq (h:=⟨H2.U+6,H2.aH⟩) bu;obtain⟨hV,bh⟩:=I8 au;rw [bh,ky]at kE;rw [uz,ky]at za;rw [ky]at fO;rw [decide_eq_false nu]at I'
 have tail:∀(m:Nat)(x:bl),∃aX bO v aO eB,bS 58 [.ptr (some ⟨d,0,0,0,6⟩),cB x] ⟨H2.U+m,H2.aH⟩ (.tuple []) aX∧H.U≤aX.U∧bM (bY.D env) 56 ⟨d,0,0,5,6⟩ ⟨aX.U+5,aX.aH⟩=some v∧hL (bY.D env) 56 ⟨d,0,0,5,6⟩ (.slice none 0 0) ⟨aX.U+9,aX.aH⟩=some bO∧H.U≤bO.U ∧
  ci ⟨bO.U+2,bO.aH⟩ d aO ⟨.ground,[],[],s.aD⟩ []∧Fr H ⟨bO.U+2,bO.aH⟩ d I aO∧oz ⟨bO.U+2,bO.aH⟩ v [x] eB∧y9 H d I aO eB:=by
  intro m x;obtain⟨aX,acb,qO,acd,y7⟩:=N2 (I'.U (k:=m)) x aM;have g3:ci aX d qO ⟨.ground,[],[],s.aD⟩ [x]:=⟨.nil,acd,trivial⟩
  have Qs:=y7.U;have Qs:H2.U+m≤aX.U:=Qs;obtain⟨f3,ace,acf,acg,ach,aci,Ja,iO,ahR,acj⟩:=g3.clear;obtain⟨g4,Qt⟩:=acj 9;have out:=fun bO=>ab4 (a:=9) (b:=2) g3 Ja iO bO
  generalize Jb:((⟨aX.U+9,aX.aH⟩:J).set d (b0 d f3 qO.u ace acf acg (.slice none 0 0) aci))=bO at g4 Qt;have ack:hL (bY.D env) 56 ⟨d,0,0,5,6⟩ (.slice none 0 0) ⟨aX.U+9,aX.aH⟩=some bO:=by rw [←Jb];exact CQ Ja
  obtain⟨BS,GZ⟩:=out bO Jb;have acm:bO.U=aX.U+9:=by rw [←Jb];rfl
  have qN:Fr H1 ⟨H2.U+m,H2.aH⟩ d ⟨I.u,I.k,I.p,d⟩ ⟨I.u,I.k,I.p,d⟩:=by refine⟨by show H1.U≤H2.U+m;omega,fun j a1 a6 n2 eY hN ha=> ?_,fun y bV=> ab⟩;exact mu j (by show j<H1.U+5;omega) n2
  have Qu:=lU.trans (qN.trans y7);refine⟨aX,bO,ach,⟨qO.u,qO.k,qO.p,d⟩,qO.o,acb,ab,Qj Ja,ack,ab,qM g4,I5 (Qu.trans Qt),BS,GZ aM,?_⟩;have:=Qu.ids qO.o (.inr (.inr (.inr rfl)));have bX:=(GZ aM).d;omega
 have done:∀(x:bl)(bO:J)(v:aa)(aO:cp)(eB:Nat),flush s=(⟨.ground,[],[],s.aD⟩,[x])→bS 27 [.ptr (some ⟨d,0,0,0,6⟩)] H v ⟨bO.U+2,bO.aH⟩→ci ⟨bO.U+2,bO.aH⟩ d aO ⟨.ground,[],[],s.aD⟩ []→Fr H ⟨bO.U+2,bO.aH⟩ d I aO→oz ⟨bO.U+2,bO.aH⟩ v [x] eB→y9 H d I aO eB →
  ∃aQ v aO eB,bS 27 [.ptr (some ⟨d,0,0,0,6⟩)] H v aQ∧ci aQ d aO (flush s).1 []∧Fr H aQ d I aO∧oz aQ v (flush s).2 eB∧((flush s).2≠[]→y9 H d I aO eB):=by
  intro x bO v aO eB aZ aE dh du fE k2;rw [aZ];exact⟨_,v,aO,eB,aE,dh,du,fE,fun _=>k2⟩
 have fb:∀{a b:Nat}{p:Prop},a≤b→p→_root_.cond (Nat.ble a b) p False:=fun h k=>by rw [Nat.ble_eq.mpr h];exact k
 by_cases dI:s.al=[27]
 ·obtain⟨aX,bO,v,aO,eB,t1,t2,t3,t4,t5,t6,t7,t8,t9⟩:=tail 12 (er 4);obtain⟨v2,ai,aE,rfl,rfl⟩:=CT H H1 H2 aX bO d I.u eH 0 hV (some a) s.al v (fun v2 ai=>v2=v∧ai=⟨bO.U+2,bO.aH⟩) (aY (Nat.le_refl _) (aY ab ⟨jO,kE,aY ab ⟨pB rfl hF,aY ab ⟨sQ,⟨wV⟩,aY ab ⟨za,CU rfl fO,aY ab (aY ab ⟨fun _=>aY ab ⟨⟨t1⟩,aY t2 ⟨t3,aY ab ⟨pB rfl t4,aY t5 (fb ab ⟨rfl,rfl⟩)⟩⟩⟩,fun h=>absurd dI h⟩)⟩⟩⟩⟩));exact done _ _ _ _ _ (by unfold flush;rw [if_neg (by simp [nu,gx]),if_pos dI];rfl) aE t6 t7 t8 t9
 by_cases c2:s.al=[27,91]
 ·obtain⟨aX,bO,v,aO,eB,t1,t2,t3,t4,t5,t6,t7,t8,t9⟩:=tail 17 (fi 91 2);obtain⟨v2,ai,aE,rfl,rfl⟩:=CT H H1 H2 aX bO d I.u eH 91 hV (some a) s.al v (fun v2 ai=>v2=v∧ai=⟨bO.U+2,bO.aH⟩) (aY (Nat.le_refl _) (aY ab ⟨jO,kE,aY ab ⟨pB rfl hF,aY ab ⟨sQ,⟨wV⟩,aY ab ⟨za,CU rfl fO,aY ab (aY ab ⟨fun h=>absurd h dI,fun _=>aY ab ⟨fun _=>aY ab ⟨by rw [c2];kernel_rfl,⟨aS,aS⟩,⟨t1⟩,aY t2 ⟨t3,aY ab ⟨pB rfl t4,aY t5 (fb ab ⟨rfl,rfl⟩)⟩⟩⟩,fun h=>absurd c2 h⟩⟩)⟩⟩⟩⟩));exact done _ _ _ _ _ (by unfold flush;rw [if_neg (by simp [nu,gx]),if_neg dI,if_pos (.inl c2),c2];rfl) aE t6 t7 t8 t9
 by_cases c3:s.al=[27,79]
 ·obtain⟨aX,bO,v,aO,eB,t1,t2,t3,t4,t5,t6,t7,t8,t9⟩:=tail 19 (fi 79 2);obtain⟨v2,ai,aE,rfl,rfl⟩:=CT H H1 H2 aX bO d I.u eH 79 hV (some a) s.al v (fun v2 ai=>v2=v∧ai=⟨bO.U+2,bO.aH⟩) (aY (Nat.le_refl _) (aY ab ⟨jO,kE,aY ab ⟨pB rfl hF,aY ab ⟨sQ,⟨wV⟩,aY ab ⟨za,CU rfl fO,aY ab (aY ab ⟨fun h=>absurd h dI,fun _=>aY ab ⟨fun h=>absurd h c2,fun _=>aY ab ⟨fun _=>aY ab ⟨by rw [c3];kernel_rfl,⟨aS,aS⟩,⟨t1⟩,aY t2 ⟨t3,aY ab ⟨pB rfl t4,aY t5 (fb ab ⟨rfl,rfl⟩)⟩⟩⟩,fun h=>absurd c3 h⟩⟩⟩)⟩⟩⟩⟩));exact done _ _ _ _ _ (by unfold flush;rw [if_neg (by simp [nu,gx]),if_neg dI,if_pos (.inr c3),c3];rfl) aE t6 t7 t8 t9
 ·obtain⟨aX,bO,v,aO,eB,t1,t2,t3,t4,t5,t6,t7,t8,t9⟩:=tail 17 (gM s.al);obtain⟨v2,ai,aE,rfl,rfl⟩:=CT H H1 H2 aX bO d I.u eH 0 hV (some a) s.al v (fun v2 ai=>v2=v∧ai=⟨bO.U+2,bO.aH⟩) (aY (Nat.le_refl _) (aY ab ⟨jO,kE,aY ab ⟨pB rfl hF,aY ab ⟨sQ,⟨wV⟩,aY ab ⟨za,CU rfl fO,aY ab (aY ab ⟨fun h=>absurd h dI,fun _=>aY ab ⟨fun h=>absurd h c2,fun _=>aY ab ⟨fun h=>absurd h c3,fun _=>aY ab ⟨⟨t1⟩,aY t2 ⟨t3,aY ab ⟨pB rfl t4,aY t5 (fb ab ⟨rfl,rfl⟩)⟩⟩⟩⟩⟩⟩)⟩⟩⟩⟩));exact done _ _ _ _ _ (by unfold flush;rw [if_neg (by simp [nu,gx]),if_neg dI,if_neg (by simp [c2,c3])];rfl) aE t6 t7 t8 t9
def pC(l:List aa):Bool:=l.all fun x=>match x with|.int _ _=>true|_=>false
theorem Jc{h:J}{o ad m f i:Nat}{es:List bl}(e:h.get o=some (ct (es.map cB) 6 ad m f k'))(a1:i<es.length):bM (bY.D env) 42 ⟨o,ad,i,0,6⟩ h=some (cB es[i]):=by
 have bZ:(bY.D env 42).map (fun d=>(d.kind.isAgg,d.size))=some (true,6):= ay;obtain⟨x,ac,ai⟩:=Option.map_eq_some_iff.1 bZ;simp only [Prod.mk.injEq]at ai;unfold bM;rw [ac,e]
 have fO:(ct (es.map cB) 6 ad m f k').elem? ad i=some (cB es[i]):=by unfold af.elem?;rw [if_pos (by simpa [af.cC]using a1)];simp [a1]
 simp only [fO];simp [hZ,ai.1,ai.2,cB]
theorem acn{l:List aa}(h:pC l=true):∀e∈l,cU e:=by intro e he;have:=List.all_eq_true.1 h e he;cases e<;>first|exact cU.int _ _|(simp at this)
abbrev h8:bK:=⟨.ground,[],[],[]⟩
theorem vS:Keys.Good h8:=by unfold Keys.Good;simp
theorem oz.cases{H:J}{v:aa}{e:bl}{es:List bl}{o:Nat}(h:oz H v (e::es) o):∃ad m f,v=.slice (some ⟨o,ad,0,0,6⟩) (e::es).length (e::es).length∧H.get o=some (ct ((e::es).map cB) 6 ad m f k')∧o<H.U:=by
 rcases h with h|⟨ac,ai,ad,m,f,a8,bQ⟩
 ·exact absurd h.2 aM
 ·exact⟨ad,m,f,a8,bQ,ai⟩
theorem tV{t:TypeId}{F:bJ}{H H1:J}{a:bA}{v:aa}{nid k m:Nat}(aZ:bD F (.tmp k)=.ptr (some a))(hm:bD F (.tmp m)=v)(hs:hL (bY.D env) t a v H=some H1):bN env dF nid (bD F) H (Op.store t (Operand.tmp k) (Operand.tmp m))=some (.tuple [],H1):=by simp only [bN,aZ,hm,hs,Option.map_some]
structure fM(H aQ:J)(col fc:Nat→Nat)(L:List Nat):Prop where
 U:H.U≤aQ.U
 get:∀x,x<H.U→col x ∉ L→aQ.get x=H.get x
 col:∀x,x<H.U→col x ∉ L→fc x=col x
theorem fM.trans{H H1 H2:J}{c dI c2:Nat→Nat}{Qv Qw:List Nat}(a:fM H H1 c dI Qv)(b:fM H1 H2 dI c2 Qw):fM H H2 c c2 (Qv++Qw) where
 U:=Nat.le_trans a.U b.U
 get x aj h:=by simp only [List.mem_append,not_or]at h;have aR:=a.U;rw [b.get x ab (by rw [a.col x aj h.1];exact h.2),a.get x aj h.1]
 col x aj h:=by simp only [List.mem_append,not_or]at h;have aR:=a.U;rw [b.col x ab (by rw [a.col x aj h.1];exact h.2),a.col x aj h.1]
theorem fM.sub{H aQ:J}{c ft:Nat→Nat}{L M:List Nat}(a:fM H aQ c ft L)(h:∀x∈L,x∈M):fM H aQ c ft M where
 U:=a.U
 get x aj k:=a.get x aj fun q=>k (h _ q)
 col x aj k:=a.col x aj fun q=>k (h _ q)
def fresh(H:J)(col:Nat→Nat):Nat→Nat:=fun x=>if x<H.U then col x else 8
theorem fM.fresh(H:J)(col:Nat→Nat)(k:Nat):fM H ⟨H.U+k,H.aH⟩ col (fresh H col) [] where
 U:=by show H.U≤H.U+k;omega
 get _ _ _:=rfl
 col x aj _:=by unfold Proofs.YtddnafghiejcoaaGreatDoor.fresh;rw [if_pos aj]
def lW(d:Nat)(I:cp)(x:Nat):Prop:=x=d∨x=I.u∨x=I.k∨x=I.p∨x=I.o
structure jp(H:J)(col:Nat→Nat)(c d:Nat)(I:cp)(s:bK):Prop where
 at':ci H d I s []
 col:∀x,lW d I x→col x=c
theorem jp.lt{H:J}{col:Nat→Nat}{c d:Nat}{I:cp}{s:bK}(h:jp H col c d I s):∀x,lW d I x→x<H.U:=by obtain⟨ks,g,_⟩:=h.at';have:=g.lt;intro x aj;unfold lW at aj;omega
theorem jp.ga{H aQ:J}{col fc:Nat→Nat}{c d:Nat}{I:cp}{s:bK}{L:List Nat}(h:jp H col c d I s)(m:fM H aQ col fc L)(aw:c ∉ L):jp aQ fc c d I s:=by
 have lt:=h.lt;have ak:∀x,lW d I x→aQ.get x=H.get x:=fun x aj=>m.get x (lt x aj) (by rw [h.col x aj];exact aw)
 refine⟨?_,fun x aj=>by rw [m.col x (lt x aj) (by rw [h.col x aj];exact aw)];exact h.col x aj⟩;obtain⟨ks,g,hs⟩:=h.at';obtain⟨kv,pv,ov,ty,e,au,ah,ao⟩:=g.ex;obtain⟨j0,j1,j2,j3,uty,hu⟩:=g.iD;have aC:=g.lt;have aR:=m.U;exact⟨ks,⟨⟨kv,pv,ov,ty,by rw [ak d (.inl rfl)];exact e,au.keep fun _=>ak _ (.inr (.inr (.inl rfl))),ah.keep fun _=>ak _ (.inr (.inr (.inr (.inl rfl)))),ao.keep fun _=>ak _ (.inr (.inr (.inr (.inr rfl))))⟩,⟨j0,j1,j2,j3,uty,by rw [ak I.u (.inr (.inl rfl))];exact hu⟩,ab,g.ne⟩,hs⟩
structure sp(H:J)(col:Nat→Nat)(c sz:Nat)(ty:bL)(v:aa)(l:List aa):Prop where
 ex:(v=.slice none 0 0∧l=[])∨(l≠[]∧∃o,o<H.U∧col o=c∧∃ad m f,v=.slice (some ⟨o,ad,0,0,sz⟩) l.length l.length∧H.get o=some (ct l sz ad m f ty))
theorem sp.ga{H aQ:J}{col fc:Nat→Nat}{c sz:Nat}{ty:bL}{v:aa}{l:List aa}{L:List Nat}(h:sp H col c sz ty v l)(m:fM H aQ col fc L)(aw:c ∉ L):sp aQ fc c sz ty v l:=by
 rcases h.ex with h|⟨ac,o,ai,a8,ad,so,f,bQ,bF⟩
 ·exact⟨.inl h⟩
 ·have aR:=m.U;exact⟨.inr ⟨ac,o,ab,by rw [m.col o ai (by rw [a8];exact aw)];exact a8,ad,so,f,bQ,by rw [m.get o ai (by rw [a8];exact aw)];exact bF⟩⟩
theorem Jd{H aQ:J}{col:Nat→Nat}{c d:Nat}{I aO:cp}{s bG:bK}(g:jp H col c d I s)(dp:ci aQ d aO bG [])(cF:Fr H aQ d I aO)(P:Prop)[Decidable P](o:Nat)(ao:P→lV o d aO∧(lW d I o∨H.U≤o)) :
 ∃fc,jp aQ fc c d aO bG∧fM H aQ col fc [c]∧(P→fc o=7):=by
 have cG:=g.lt;refine⟨fun x=>if x=o∧P then 7 else if x<H.U then col x else c,⟨dp,fun x aj=> ?_⟩,⟨cF.U,fun x aj h=> ?_,fun x aj h=> ?_⟩,fun mJ=>by simp [mJ]⟩
 ·have jf:¬(x=o∧P):=by rintro ⟨rfl,mJ⟩;have:=(ao mJ).1;have dh:=this.d;have du:=this.u;have fE:=this.k;have k2:=this.p;have ns:=this.o;unfold lW at aj;omega
  show(if x=o∧P then 7 else if x<H.U then col x else c)=c;rw [if_neg jf];split
  ·rename_i aC
   have aco:lW d I x:=by
    rcases aj with aj|aj
    ·exact .inl aj
    ·have:=cF.ids x aj;unfold lW;omega
   exact g.col x aco
  ·rfl
 ·have aR:¬lW d I x:=fun k=>h (by rw [g.col x k];simp)
  unfold lW at aR;simp only [not_or]at aR;exact cF.get x aj aR.1 aR.2.1 aR.2.2.1 aR.2.2.2.1 aR.2.2.2.2
 ·show(if x=o∧P then 7 else if x<H.U then col x else c)=col x;rw [if_neg,if_pos aj];rintro ⟨rfl,mJ⟩;rcases (ao mJ).2 with k|k
  ·exact h (by rw [g.col x k];simp)
  ·omega
theorem Qx{H:J}{col:Nat→Nat}{c:Nat}{v:aa}{es:List bl}{o:Nat}(h:oz H v es o)(aw:es≠[]→col o=c):sp H col c 6 k' v (es.map cB):=by
 rcases h with ⟨ac,ai⟩|⟨ac,ai,ad,m,f,a8,bQ⟩
 ·exact⟨.inl ⟨ac,by rw [ai];rfl⟩⟩
 ·exact⟨.inr ⟨by simpa using ac,o,ai,aw ac,ad,m,f,by rw [List.length_map];exact a8,bQ⟩⟩
theorem Je{H:J}{col:Nat→Nat}{c:Nat}{v:aa}{es:List bl}(h:sp H col c 6 k' v (es.map cB)):∃o,oz H v es o∧(es≠[]→col o=c):=by
 rcases h.ex with ⟨ac,ai⟩|⟨ac,o,ai,a8,ad,m,f,bQ,bF⟩
 ·have:es=[]:=by simpa using ai
  exact⟨0,.inl ⟨ac,this⟩,fun h=>absurd this h⟩
 ·exact⟨o,.inr ⟨by simpa using ac,ai,ad,m,f,by rw [List.length_map]at bQ;exact bQ,bF⟩,fun _=>a8⟩
theorem fM.pad(H:J)(col:Nat→Nat):fM H ⟨H.U+1,H.aH⟩ col col []:=⟨by show H.U≤H.U+1;omega,fun _ _ _=>rfl,fun _ _ _=>rfl⟩
theorem Qy{f:FuncId}{args:List aa}{h ag:J}{v:aa}(k:bS f args h v ag):bS f args h v ⟨ag.U+1,ag.aH⟩:=k.pad (by show ag.U≤ag.U+1;omega) (fun _ _=>rfl)
structure zb(H:J)(col:Nat→Nat)(c:Nat)(o:Option bA)(bs:Bytes):Prop where
 ex:(o=none∧bs=[])∨ ∃q bv c6,o=some ⟨q,bv,c6,0,1⟩∧sn H q bv c6 bs∧q<H.U∧col q=c
theorem zb.ga{H aQ:J}{col fc:Nat→Nat}{c:Nat}{o:Option bA}{bs:Bytes}{L:List Nat}(h:zb H col c o bs)(m:fM H aQ col fc L)(aw:c ∉ L):zb aQ fc c o bs:=by
 rcases h.ex with h|⟨q,bv,c6,ac,ai,a8,bQ⟩
 ·exact⟨.inl h⟩
 ·have aR:=m.U;exact⟨.inr ⟨q,bv,c6,ac,ai.keep (m.get q a8 (by rw [bQ];exact aw)),ab,by rw [m.col q a8 (by rw [bQ];exact aw)];exact bQ⟩⟩
theorem jp.new(H:J)(col:Nat→Nat)(c:Nat):∃aQ d I fc,bS 14 [] H (.ptr (some ⟨d,0,0,0,6⟩)) aQ∧jp aQ fc c d I h8∧fM H aQ col fc []:=by obtain⟨aQ,d,I,aE,g,a6,n2,eY,hN,ha,vT,acp⟩:=abL H;refine⟨aQ,d,I,fun x=>if x<H.U then col x else c,aE,⟨g,fun x aj=> ?_⟩,⟨vT,fun x aj _=>acp x aj,fun x aj _=>if_pos aj⟩⟩;unfold lW at aj;exact if_neg ab
theorem jp.held{H:J}{col:Nat→Nat}{c d:Nat}{I:cp}{s:bK}(g:jp H col c d I s)(au:s.al.length<2^40)(ah:s.aD.length<2^40):∃aQ aO fc,bS 16 [.ptr (some ⟨d,0,0,0,6⟩)] H (.int .i64 (held s:Nat)) aQ∧jp aQ fc c d aO s∧fM H aQ col fc [c]∧H.U<aQ.U:=by obtain⟨aQ,aE,aO,dp,cF⟩:=abP g.at' au ah;obtain⟨fc,dh,du,_⟩:=Jd g dp cF False 0 (fun h=>h.elim);have aR:=cF.U;exact⟨_,aO,fc,Qy aE,dh.ga (fM.pad aQ fc) aM,(du.trans (fM.pad aQ fc)).sub aM,by show H.U<aQ.U+1;omega⟩
theorem jp.flush{H:J}{col:Nat→Nat}{c d:Nat}{I:cp}{s:bK}(g:jp H col c d I s)(fa:Keys.Good s)(au:s.al.length<2^40):∃aQ v aO fc,bS 27 [.ptr (some ⟨d,0,0,0,6⟩)] H v aQ∧jp aQ fc c d aO (Keys.flush s).1∧sp aQ fc 7 6 k' v ((Keys.flush s).2.map cB)∧fM H aQ col fc [c]∧H.U<aQ.U:=by
 obtain⟨aQ,v,aO,o,aE,dp,cF,he,iH⟩:=ab5 g.at' fa au
 obtain⟨fc,dh,du,fE⟩:=Jd g dp cF ((Keys.flush s).2≠[]) o (fun h=>by
  have k:=iH h;have acq:=k.off.d;refine⟨k.off,?_⟩;have:=k.of;unfold lW
  omega)
 have aR:=cF.U;exact⟨_,v,aO,fc,Qy aE,dh.ga (fM.pad aQ fc) aM,(Qx he fE).ga (fM.pad aQ fc) aM,(du.trans (fM.pad aQ fc)).sub aM,by show H.U<aQ.U+1;omega⟩
theorem jp.feed{H:J}{col:Nat→Nat}{c c2 d m:Nat}{I:cp}{s:bK}{bs:Bytes}{o:Option bA}(g:jp H col c d I s)(fa:Keys.Good s)(aR:bs.length<2^28)(aT:zb H col c2 o bs)(aw:c2≠c):∃aQ v aO fc,bS 26 [.ptr (some ⟨d,0,0,0,6⟩),.slice o bs.length m] H v aQ∧jp aQ fc c d aO (dd s bs).1∧sp aQ fc 7 6 k' v ((dd s bs).2.map cB)∧fM H aQ col fc [c]:=by
 have acr:Qm H d I o bs:=by
  rcases aT.ex with h|⟨q,bv,c6,ac,ai,a8,bQ⟩
  ·exact .inl h
  ·have bX:∀x,lW d I x→q≠x:=fun x aj e=>aw (by rw [←bQ,e];exact g.col x aj)
   exact .inr ⟨q,bv,c6,ac,ai,a8,⟨bX _ (.inl rfl),bX _ (.inr (.inl rfl)),bX _ (.inr (.inr (.inl rfl))),bX _ (.inr (.inr (.inr (.inl rfl)))),bX _ (.inr (.inr (.inr (.inr rfl))))⟩⟩
 obtain⟨aQ,v,aO,eB,aE,dp,cF,he,iH⟩:=abD (m:=m) g.at' fa aR acr
 obtain⟨fc,dh,du,fE⟩:=Jd g dp cF ((dd s bs).2≠[]) eB (fun h=>by
  have k:=iH h;have acq:=k.1.d;refine⟨k.1,?_⟩;have:=k.2;unfold lW
  omega)
 exact⟨aQ,v,aO,fc,aE,dh,Qx he fE,du⟩
theorem vU:xD env.D 34 5 1 1:=by have ac:(env.D 5).map (fun x=>(x.size,x.bytes,x.ul))=some (1,1,true):= ay;have ai:(env.D 34).map (fun x=>x.kind)=some (.slice 5):= ay;obtain⟨x,aj,k⟩:=Option.map_eq_some_iff.1 ac;obtain⟨d,aE,acs⟩:=Option.map_eq_some_iff.1 ai;simp only [Prod.mk.injEq]at k;exact⟨d,x,aE,acs,aj,k.1,k.2.1,aS,k.2.2⟩
end Go.Proofs.YtddnafghiejcoaaGreatDoor
namespace Go.Keys
def zero:bK:=⟨.ground,[],[],[]⟩
theorem Qz{s:bK}(h:Good s)(n:s.nx=.ground):s=zero:=by obtain⟨nx,al,aF,aD⟩:=s;simp only at n;subst n;obtain⟨a,b,c⟩:=h;simp only at a b c;subst a b c;rfl
def zc(s:bK)(c:UInt8)(r:bK×List bl):Prop :=
 r.1.nx=.ground∨r.1.nx=.cK∨(r.2=[]∧r.1.al=s.al++[c])∨(r.1=(ground zero c).1∧(ground zero c).2=[]∧r.1.al=[c])
theorem acu(s:bK)(au:s.al=[])(c:UInt8):(ground s c).1.nx=.ground∨((ground s c).2=[]∧(ground s c).1.al=[c]):=by
 unfold ground;split
 ·rename_i aw;exact .inr ⟨rfl,by rw [aw]⟩
 ·unfold iv;split
  ·exact .inl rfl
  ·unfold gv;simp only;split
   ·exact .inr ⟨rfl,by simp [au]⟩
   ·split
    ·split
     ·exact .inl rfl
     ·exact .inl rfl
    ·exact .inl rfl
theorem CW{s s1:bK}{c:UInt8}{r:bK×List bl}(ac:s1=zero)(e:r.1=(ground s1 c).1):zc s c r:=by
 subst ac;rcases acu zero rfl c with h|⟨ac,ai⟩
 ·exact .inl (by rw [e];exact h)
 ·exact .inr (.inr (.inr ⟨e,ac,by rw [e];exact ai⟩))
theorem QA{s:bK}{c:UInt8}{no:bK→bK×List bl}(jf:∀s1:bK,s1.aF=[]→s1.aD=s.aD→zc s c (no s1)):zc s c (gv s c no):=by
 unfold gv;simp only;split
 ·exact .inr (.inr (.inl ⟨rfl,rfl⟩))
 ·split
  ·split
   ·exact .inl rfl
   ·exact .inl rfl
  ·exact jf _ rfl rfl
theorem Jf{s s1:bK}{c:UInt8}(ac:s1.aF=[])(ai:s1.aD=[]):zc s c (bad s1 c):=by refine CW (s1:=(tell s1 (gM s1.al)).1) ?_ rfl;obtain⟨nx,al,aF,aD⟩:=s1;simp only at ac ai;subst ac ai;rfl
theorem QB{s:bK}{e:bl}(ac:s.aF=[])(ai:s.aD=[]):(tell s e).1=zero:=by obtain⟨nx,al,aF,aD⟩:=s;simp only at ac ai;subst ac ai;rfl
theorem acv{s:bK}(c:UInt8)(h:Good s)(aR:s.nx≠ .cK):zc s c (step s c):=by
 obtain⟨nx,al,aF,aD⟩:=s;unfold step;cases nx with
 |ground =>
  obtain⟨ac,ai,a8⟩:=h;simp only at ac ai a8⊢;subst ac ai a8;exact CW (s1:=zero) rfl rfl
 |dj =>
  obtain⟨ac,ai,a8⟩:=h;simp only at ac ai a8⊢;unfold dj;split
  ·exact CW (QB ai a8) rfl
  ·split
   ·exact .inr (.inr (.inl ⟨rfl,rfl⟩))
   ·split
    ·exact .inr (.inr (.inl ⟨rfl,rfl⟩))
    ·unfold plain iv;split
     ·exact .inl rfl
     ·exact QA fun s1 a b=>Jf a (by rw [b];exact a8)
 |da =>
  obtain⟨ac,ai,a8,bQ,bF⟩:=h;simp only at ac⊢;exact QA fun s1 a b=>Jf a (by rw [b];exact ac)
 |sequence =>
  obtain⟨ac,ai,a8,bQ⟩:=h;simp only at ac ai⊢;unfold sequence;split
  ·unfold done;split
   ·exact .inr (.inl rfl)
   ·exact .inl rfl
  ·split
   ·exact Jf ac ai
   ·split
    ·exact .inl rfl
    ·exact .inr (.inr (.inl ⟨rfl,rfl⟩))
 |single =>
  obtain⟨ac,ai,a8⟩:=h;simp only at ac ai a8⊢;unfold single;split
  ·exact .inl rfl
  ·split
   ·exact .inl rfl
   ·split
    ·exact .inl rfl
    ·exact CW (QB ac ai) rfl
 |cK=>exact absurd rfl aR
def Path(s:bK):Prop:=s.nx=.cK∨dd zero s.al=(s,[])
theorem vV(s:bK)(c:UInt8):dd s [c]=step s c:=by simp [dd]
end Go.Keys
namespace Go.Keys
def Seq(s:bK):Prop:=s.nx=.sequence→ ∃w,s.al=27::91::w
end Go.Keys
namespace Go.Keys
def sq(k:Int):Prop:=(1≤k∧k≤14)∨(21≤k∧k≤32)
def Jg(e:bl):Prop:=e.x=0∧e.y=0∧e.text=[]
def tW(e:bl):Prop :=
 (e.kind=1∧0≤e.df∧e.df≤7∧shown e.code=true∧Jg e) ∨
 (e.kind=2∧0≤e.df∧e.df≤7∧sq e.code∧Jg e) ∨
 (e.kind=3∧0≤e.df∧e.df≤7∧0≤e.code∧e.code≤6∧0≤e.x∧e.x<4096∧0≤e.y∧e.y<4096∧e.text=[]) ∨
 (e.kind=5∧e.df=0∧(e.code=0∨e.code=1)∧Jg e)
theorem zd{k m:Int}(h:sq k)(bf:0≤m)(cE:m≤7):tW (er k m):= .inr (.inl ⟨rfl,bf,cE,h,rfl,rfl,rfl⟩)
theorem acw{k m:Int}(h:shown k=true)(bf:0≤m)(cE:m≤7):tW (fi k m):= .inl ⟨rfl,bf,cE,h,rfl,rfl,rfl⟩
theorem QC{c:Nat}(h:0<gw c):sq (gw c):=by
 unfold gw at h⊢;unfold sq
 repeat' split at h
 all_goals (first|(rename_i ac;simp only [ac];split<;>(try split)<;>omega)|omega|(split<;>(try split)<;>(try split)<;>omega))
theorem acx{n:Nat}(h:0<iM n):sq (iM n):=by unfold iM at h⊢;unfold sq;split<;>(try split)<;>(try split)<;>(try split)<;>(try split)<;>(try split)<;>(try split)<;>first|omega|(simp_all;done)
theorem acy{c:Nat}{m:Int}{e:bl}(bf:0≤m)(cE:m≤7)(h:dL c m=some e):tW e:=by
 unfold dL at h
 repeat' split at h
 all_goals first
  |(cases h;done)
  |(simp only [Option.some.injEq]at h;subst h;exact zd (by unfold sq;omega) bf cE)
  |(rename_i aB;simp only [Option.some.injEq]at h;subst h;exact acw (by simp only [not_or,Bool.not_eq_false]at aB;exact aB.2) bf cE)
theorem acz{w:Bytes}{c:Nat}{e:bl}(h:e2 w c=some e):tW e:=by
 unfold e2 at h;split at h
 ·split at h
  ·rename_i ap a6 n2 aB;simp only at h;have hm:(0:Int)≤((ap/4%8:Nat):Int)∧((ap/4%8:Nat):Int)≤7:= ab;split at h
   ·cases h
   ·rename_i ax;simp only [not_or]at ax;have go:∀k:Int,0≤k→k≤6→tW ⟨3,k,((ap/4%8:Nat):Int),(a6:Int)-1,(n2:Int)-1,[]⟩:=fun k bf dv=> .inr (.inr (.inl ⟨rfl,hm.1,hm.2,bf,dv,by show(0:Int)≤(a6:Int)-1;omega,by show(a6:Int)-1<4096;omega,by show(0:Int)≤(n2:Int)-1;omega,by show(n2:Int)-1<4096;omega,rfl⟩))
    split at h
    ·simp only [Option.some.injEq]at h;subst h;exact go 3 aS aS
    ·split at h
     ·rename_i au;simp only [Option.some.injEq]at h;subst h;exact go _ ab ab
     ·split at h
      ·simp only [Option.some.injEq]at h;subst h;exact go 6 aS aS
      ·split at h
       ·simp only [Option.some.injEq]at h;subst h;exact go 4 aS aS
       ·split at h
        ·simp only [Option.some.injEq]at h;subst h;exact go 5 aS aS
        ·cases h
  ·cases h
 ·cases h
theorem QD{ap k j:Nat}{m:Int}{c:UInt8}{e:bl}(h:(if 1<k∨m<1∨8<m then none else if 0<gw c.toNat∧ap=1∧k=j then some (er (gw c.toNat) (m-1))else if c=126∧0<iM ap then some (er (iM ap) (m-1))else if c=117 then dL ap (m-1)else none)=some e):tW e:=by
 split at h
 ·cases h
 ·rename_i hm;simp only [not_or]at hm;split at h
  ·rename_i aT;simp only [Option.some.injEq]at h;subst h;exact zd (QC aT.1) ab ab
  ·split at h
   ·rename_i aT;simp only [Option.some.injEq]at h;subst h;exact zd (acx aT.2) ab ab
   ·split at h
    ·exact acy ab ab h
    ·cases h
theorem acA{w:Bytes}{c:UInt8}{e:bl}(h:told w c=some e):tW e∨e=⟨6,0,0,0,0,w++[c]⟩:=by
 unfold told at h;split at h
 ·simp only [Option.some.injEq]at h;subst h;exact .inr rfl
 ·refine .inl ?_;split at h
  ·exact acz h
  ·split at h
   ·cases h
   ·split at h
    ·simp only [Option.some.injEq]at h;subst h;exact zd (by unfold sq;omega) aS aS
    ·split at h
     ·simp only [Option.some.injEq]at h;subst h;exact .inr (.inr (.inr ⟨rfl,rfl,.inr rfl,rfl,rfl,rfl⟩))
     ·split at h
      ·simp only [Option.some.injEq]at h;subst h;exact .inr (.inr (.inr ⟨rfl,rfl,.inl rfl,rfl,rfl,rfl⟩))
      ·split at h
       ·rename_i aT;simp only [Option.some.injEq]at h;subst h;exact zd (QC aT) aS aS
       ·cases h
   ·rename_i ap r aB;rcases r with _|⟨x,_|⟨y,t⟩⟩
    ·exact QD h
    ·exact QD h
    ·simp only [List.length_cons]at h;rw [if_pos (.inl ab)]at h;cases h
end Go.Keys
namespace Go.Keys
open Go.Lib
def d':List Nat→Bytes
 |[]=> []
 |[n]=>decDigits n
 |n::m::r=>decDigits n++59::d' (m::r)
def eO(e:Bytes)(l:List Nat):Bytes:=27::91::(d' l++e)
def tX(r:Nat):Option UInt8 :=
 if r=32 then some 0 else if 97≤r∧r≤122∧r≠105∧r≠109 then some (u8 (r%32))else if 92≤r∧r≤95 then some (u8 (r%32))else none
def jL(r m:Nat):Bytes :=
 if m=0 then put r
 else if m=2∧r≠91∧r≠79 then 27::put r
 else if m=4∨m=6 then
  match tX r with
  |some c=>if m=4 then [c]else [27,c]
  |none=>eO [117] [r,m+1]
 else eO [117] [r,m+1]
def nG(k:Nat):Nat:=if k=1 then 13 else if k=2 then 9 else if k=3 then 127 else 27
def sr(k:Nat):Option UInt8 :=
 if 5≤k∧k≤8 then some (u8 (60+k))else if k=9 then some 72 else if k=10 then some 70 else none
def qP(k:Nat):Option Nat :=
 if k=11∨k=12 then some (k-9)else if k=13∨k=14 then some (k-8)
 else if 21≤k∧k≤25 then some (k-10)else if 26≤k∧k≤30 then some (k-9)else if k=31∨k=32 then some (k-8)else none
def kG(k m:Nat):Option Bytes :=
 if 1≤k∧k≤4 then
  if m=0 then some [u8 (nG k)]
  else if m=2∧k≠4 then some [27,u8 (nG k)]
  else if m=1∧k=2 then some (eO [90] [])
  else some (eO [117] [nG k,m+1])
 else match sr k with
 |some c=>if m=0 then some (eO [c] [])else some (eO [c] [1,m+1])
 |none =>
  if m=0∧21≤k∧k≤24 then some [27,79,u8 (80+(k-21))]
  else match qP k with
  |some n=>if m=0 then some (eO [126] [n])else some (eO [126] [n,m+1])
  |none=>none
def gp(c:Nat):Nat:=if c=1 then 1 else if c=2 then 2 else if c=4 then 64 else if c=5 then 65 else if c=6 then 35 else 0
def lX(c m x y:Nat):Bytes:=27::91::60::(d' [gp c+4*m,x+1,y+1]++[if c=3 then 109 else 77])
def ss(e:bl):Bool:=decide (0≤e.code)&&decide (e.code≤6)&&decide (e.df≤7)&&decide (0≤e.x)&&decide (e.x<4096)&&decide (0≤e.y)&&decide (e.y<4096)&&decide (e.text=[])
def hasEnd:Bytes→Bool
 |[]=>false
 |b::r=>dW.isPrefixOf (b::r) || hasEnd r
def mL:Bytes:=[27,91,50,48,48,126]
def qQ(e:bl):Bool:=decide (e.x=0)&&decide (e.y=0)&&decide (e.text=[])
def enc(e:bl):Option Bytes :=
 if e.kind=3 then if ss e=true then some (lX e.code.toNat e.df.toNat e.x.toNat e.y.toNat)else none
 else if 7<e.df then none
 else if e.kind=1∧qQ e=true∧shown e.code=true then some (jL e.code.toNat e.df.toNat)
 else if e.kind=2∧qQ e=true then if 0≤e.code then kG e.code.toNat e.df.toNat else none
 else if e=⟨5,0,0,0,0,[]⟩then some (eO [79] [])
 else if e=⟨5,1,0,0,0,[]⟩then some (eO [73] [])
 else if e=⟨4,0,0,0,0,e.text⟩∧e.text.length≤65536∧hasEnd e.text=false then some (mL++(e.text++dW))
 else if e=⟨6,0,0,0,0,e.text⟩∧e.text.length≤62 then
  if(dd zero (27::91::e.text)).2=[e]∧held (dd zero (27::91::e.text)).1=0 then some (27::91::e.text)else none
 else none
theorem CX:∀(n:Nat),(decDigits n).all digit=true:=by
 intro n;induction n using Nat.strongRecOn with
 |ind n ih =>
  rw [decDigits];split
  ·rename_i h;simp only [List.all_cons,List.all_nil,Bool.and_true,digit,Bool.and_eq_true,decide_eq_true_eq,UInt8.toNat_ofNat'];omega
  ·rename_i h;rw [List.all_append,ih _ ab];simp only [List.all_cons,List.all_nil,Bool.and_true,Bool.true_and,digit,Bool.and_eq_true,decide_eq_true_eq,UInt8.toNat_ofNat'];omega
theorem acB(w:Bytes)(b:UInt8):number (w++[b])=10*number w+(b.toNat-48):=by unfold number;rw [List.foldl_append];rfl
theorem QE:∀(n:Nat),number (decDigits n)=n:=by
 intro n;induction n using Nat.strongRecOn with
 |ind n ih =>
  rw [decDigits];split
  ·rename_i h;show 10*0+((UInt8.ofNat (48+n)).toNat-48)=n;rw [UInt8.toNat_ofNat'];omega
  ·rename_i h;rw [acB,ih _ ab,UInt8.toNat_ofNat'];omega
theorem Jh(n:Nat):decDigits n≠[]:=by intro h;have:=decDigits_length n;rw [h]at this;have:=nDigits_pos n;simp at *; omega
theorem kH{n k:Nat}(h:n<10^(k+1)):(decDigits n).length≤k+1:=by
 rw [decDigits_length];induction k generalizing n with
 |zero=>rw [nDigits_small (by simpa using h)];omega
 |succ k ih =>
  by_cases pX:n<10
  ·rw [nDigits_small pX];omega
  ·rw [nDigits_big pX];have:=ih (n:=n/10) (by rw [Nat.pow_succ]at h;omega);omega
theorem acC{n:Nat}(h:n<1000000000):¬(decDigits n=[]∨9<(decDigits n).length∨(decDigits n).all digit=false):=by have:=kH (n:=n) (k:=8) (by simpa using h);rw [CX];simp [Jh];omega
theorem acD{w:Bytes}(h:w.all digit=true)(r:Bytes):splitAt 59 (w++59::r)=w::splitAt 59 r:=by
 induction w with
 |nil=>rw [List.nil_append,splitAt,if_pos rfl]
 |cons b t ih =>
  simp only [List.all_cons,Bool.and_eq_true]at h;have ax:¬b=59:=by rintro rfl;exact absurd h.1 aS
  rw [List.cons_append,splitAt,if_neg ax,ih h.2]
theorem acE{w:Bytes}(h:w.all digit=true):splitAt 59 w=[w]:=by
 induction w with
 |nil=>rfl
 |cons b t ih =>
  simp only [List.all_cons,Bool.and_eq_true]at h;have ax:¬b=59:=by rintro rfl;exact absurd h.1 aS
  rw [splitAt,if_neg ax,ih h.2]
theorem QF:∀{l:List Nat},l≠[]→splitAt 59 (d' l)=l.map decDigits
 |[],h=>absurd rfl h
 |[n],_=>acE (CX n)
 |n::m::r,_=>by rw [d',acD (CX n),QF aM];rfl
theorem QG:∀{l:List Nat},(∀n∈l,n<1000000000)→lI (l.map decDigits)=some l
 |[],_=>rfl
 |n::r,h=>by rw [List.map_cons,lI,if_neg (acC (h n aM)),QG fun x aj=>h x (by simp [aj]),QE];rfl
theorem acF:∀{l:List Nat},l≠[]→d' l≠[]
 |[],h=>absurd rfl h
 |[n],_=>Jh n
 |n::m::r,_=>by simp [d']
theorem Ji{l:List Nat}(h:∀n∈l,n<1000000000):numbers (d' l)=some l:=by
 cases l with
 |nil=>rfl
 |cons n r =>
  unfold numbers;rw [if_neg (acF aM),QF aM,QG h]
def qR(b:UInt8):Bool:=decide (48≤b.toNat)&&decide (b.toNat≤63)
theorem acG{b:UInt8}(h:digit b=true):qR b=true:=by simp only [digit,qR,Bool.and_eq_true,decide_eq_true_eq]at *; omega
theorem QH(n:Nat):(decDigits n).all qR=true:=by have:=CX n;rw [List.all_eq_true]at *;exact fun b ax=>acG (this b ax)
theorem Jj:∀(l:List Nat),(d' l).all qR=true
 |[]=>rfl
 |[n]=>QH n
 |n::m::r=>by rw [d',List.all_append,QH,List.all_cons,Jj];rfl
theorem acH(w:Bytes)(b:UInt8):(w++[b]).getLastD 0=b:= aM
theorem QI:∀(w:Bytes){k:Bytes},w.all qR=true→k.length+w.length<64→48≤(k.getLastD 0).toNat→dd ⟨.sequence,k,[],[]⟩ w=(⟨.sequence,k++w,[],[]⟩,[])
 |[],k,_,_,_=>by simp [dd]
 |b ::r,k,hw,aC,au=>by
  simp only [List.all_cons,Bool.and_eq_true,qR,decide_eq_true_eq]at hw;simp only [List.length_cons]at aC
  have e:step ⟨.sequence,k,[],[]⟩ b=(⟨.sequence,k++[b],[],[]⟩,[]):=by show sequence _ b=_;unfold sequence;rw [if_neg ab,if_neg (by simp only;omega),if_neg (by simp only;omega)]
  rw [dd,e];simp only [List.nil_append];have:=QI r (k:=k++[b]) (by simpa using hw.2) (by simp;omega) (by rw [acH];exact hw.1.1);rw [this];simp
theorem acI{w:Bytes}(hw:w.all qR=true)(aC:w.length≤60){c:UInt8}(ac:64≤c.toNat)(ai:c.toNat≤126):dd zero (27::91::(w++[c]))=done ⟨.sequence,27::91::(w++[c]),[],[]⟩ w c:=by have e:dd zero [27,91]=(⟨.sequence,[27,91],[],[]⟩,[]):= aS;have:(27:UInt8)::91::(w++[c])=[27,91]++(w++[c]):=rfl;rw [this,Bq,e];simp only [List.nil_append];rw [Bq,QI w hw (by simp;omega) aS,vV];simp only [List.nil_append];show sequence _ c=_;unfold sequence;rw [if_pos ⟨ac,ai⟩];simp
theorem Jk{w:Bytes}{e:bl}(hw:w.all qR=true)(aC:w.length≤60){c:UInt8}(ac:64≤c.toNat)(ai:c.toNat≤126)(ah:c=126→kg w=false)(bW:told w c=some e):dd zero (27::91::(w++[c]))=(zero,[e]):=by rw [acI hw aC ac ai];unfold done;rw [if_neg (by rintro ⟨a,b⟩;rw [ah a]at b;cases b),bW];rfl
theorem ze{l:List Nat}{c:UInt8}{e:bl}(aC:(d' l).length≤60)(ac:64≤c.toNat)(ai:c.toNat≤126)(ah:c=126→kg (d' l)=false)(bW:told (d' l) c=some e):dd zero (eO [c] l)=(zero,[e]) :=
 Jk (Jj l) aC ac ai ah bW
end Go.Keys
namespace Go.Proofs.YtddnafghiejcoaaGreatDoor
open Go.cf Go.Keys
set_option maxRecDepth 1000000
abbrev gR:aa:= .int .u8 0
abbrev pD(l:List aa):af:=af.an [.agg l] 24 true (some (154,24))
abbrev kI:af:=pD [gR,gR,gR,gR,gR,gR,gR,gR,gR,gR,gR,gR,gR,gR,gR,gR,gR,gR,gR,gR,gR,gR,gR,gR]
def hW:Bytes:=Lib.smalls.data.toList
theorem acJ(u:Nat)(ae:bI)(aW:(0≤(u:Int)∧(u:Int)≤4294967295)∧((100:Int)=0→False)∧(0≤Int.tmod (u:Int) 100*2∧Int.tmod (u:Int) 100*2≤4294967295)∧(((100:Int)=0→False)∧h' .u32 (Int.tdiv (u:Int) 100))∧(0≤Int.tmod (u:Int) 100*2+1∧Int.tmod (u:Int) 100*2+1≤4294967295)∧(0≤Int.tmod (u:Int) 100*2+1∧Int.tmod (u:Int) 100*2+1<200)∧(0≤Int.tmod (u:Int) 100*2∧Int.tmod (u:Int) 100*2<200)∧(0≤48+Int.tdiv (u:Int) 100∧48+Int.tdiv (u:Int) 100≤4294967295)∧(0≤48+Int.tdiv (u:Int) 100∧48+Int.tdiv (u:Int) 100≤255)∧ae (.tuple []) (J.ar 46 [(0,(af.an ([.agg [.int .u8 (48+Int.tdiv (u:Int) 100),.int .u8 (↑(UInt8.toNat (List.getD hW (Int.toNat (Int.tmod (u:Int) 100*2)) 0)):Int),.int .u8 (↑(UInt8.toNat (List.getD hW (Int.toNat (Int.tmod (u:Int) 100*2+1)) 0)):Int),.int .u8 0,.int .u8 0,.int .u8 0,.int .u8 0,.int .u8 0,.int .u8 0,.int .u8 0,.int .u8 0,.int .u8 0,.int .u8 0,.int .u8 0,.int .u8 0,.int .u8 0,.int .u8 0,.int .u8 0,.int .u8 0,.int .u8 0,.int .u8 0,.int .u8 0,.int .u8 0,.int .u8 0]]) 24 true (some (154,24))))])) :
 b4 121 [.slice (some ⟨0,0,0,1,24⟩) 3 24,.int .u64 u] (J.rows 1 [(0,kI)]) ae :=
 b9 gC (.az (.rounds 300) (ak 12001 (ak 21001 (ak 21002 (ak 22001 (ak 23007 (ak 23008 (ak 23010 (ak 26002 (ak 26003 .nil)))))))))) aW
theorem acK(u:Nat)(ae:bI)(aW:(0≤(u:Int)∧(u:Int)≤4294967295)∧((10000:Int)=0→False)∧(((10000:Int)=0→False)∧h' .u32 (Int.tdiv (u:Int) 10000))∧(((100:Int)=0→False)∧h' .u32 (Int.tdiv (Int.tmod (u:Int) 10000) 100))∧(0≤Int.tdiv (Int.tmod (u:Int) 10000) 100*2∧Int.tdiv (Int.tmod (u:Int) 10000) 100*2≤4294967295)∧((100:Int)=0→False)∧(0≤Int.tmod (Int.tmod (u:Int) 10000) 100*2∧Int.tmod (Int.tmod (u:Int) 10000) 100*2≤4294967295)∧(0≤Int.tmod (Int.tmod (u:Int) 10000) 100*2+1∧Int.tmod (Int.tmod (u:Int) 10000) 100*2+1≤4294967295)∧(0≤Int.tmod (Int.tmod (u:Int) 10000) 100*2+1∧Int.tmod (Int.tmod (u:Int) 10000) 100*2+1<200)∧(0≤Int.tmod (Int.tmod (u:Int) 10000) 100*2∧Int.tmod (Int.tmod (u:Int) 10000) 100*2<200)∧(0≤Int.tdiv (Int.tmod (u:Int) 10000) 100*2+1∧Int.tdiv (Int.tmod (u:Int) 10000) 100*2+1≤4294967295)∧(0≤Int.tdiv (Int.tmod (u:Int) 10000) 100*2+1∧Int.tdiv (Int.tmod (u:Int) 10000) 100*2+1<200)∧(0≤Int.tdiv (Int.tmod (u:Int) 10000) 100*2∧Int.tdiv (Int.tmod (u:Int) 10000) 100*2<200)∧ae (.tuple []) (J.ar 62 [(0,(af.an ([.agg [.int .u8 (↑(UInt8.toNat (List.getD hW (Int.toNat (Int.tdiv (Int.tmod (u:Int) 10000) 100*2)) 0)):Int),.int .u8 (↑(UInt8.toNat (List.getD hW (Int.toNat (Int.tdiv (Int.tmod (u:Int) 10000) 100*2+1)) 0)):Int),.int .u8 (↑(UInt8.toNat (List.getD hW (Int.toNat (Int.tmod (Int.tmod (u:Int) 10000) 100*2)) 0)):Int),.int .u8 (↑(UInt8.toNat (List.getD hW (Int.toNat (Int.tmod (Int.tmod (u:Int) 10000) 100*2+1)) 0)):Int),.int .u8 0,.int .u8 0,.int .u8 0,.int .u8 0,.int .u8 0,.int .u8 0,.int .u8 0,.int .u8 0,.int .u8 0,.int .u8 0,.int .u8 0,.int .u8 0,.int .u8 0,.int .u8 0,.int .u8 0,.int .u8 0,.int .u8 0,.int .u8 0,.int .u8 0,.int .u8 0]]) 24 true (some (154,24))))])) :
 b4 121 [.slice (some ⟨0,0,0,1,24⟩) 4 24,.int .u64 u] (J.rows 1 [(0,kI)]) ae :=
 b9 gC (.az (.rounds 300) (ak 12001 (ak 14001 (ak 15001 (ak 16001 (ak 16002 (ak 16004 (ak 16005 (ak 17007 (ak 17008 (ak 17010 (ak 18007 (ak 18008 (ak 18010 .nil)))))))))))))) aW
theorem acL(u:Nat)(ae:bI)(aW:(0≤(u:Int)∧(u:Int)≤4294967295)∧((10000:Int)=0→False)∧(((10000:Int)=0→False)∧h' .u32 (Int.tdiv (u:Int) 10000))∧(((100:Int)=0→False)∧h' .u32 (Int.tdiv (Int.tmod (u:Int) 10000) 100))∧(0≤Int.tdiv (Int.tmod (u:Int) 10000) 100*2∧Int.tdiv (Int.tmod (u:Int) 10000) 100*2≤4294967295)∧((100:Int)=0→False)∧(0≤Int.tmod (Int.tmod (u:Int) 10000) 100*2∧Int.tmod (Int.tmod (u:Int) 10000) 100*2≤4294967295)∧(0≤Int.tmod (Int.tmod (u:Int) 10000) 100*2+1∧Int.tmod (Int.tmod (u:Int) 10000) 100*2+1≤4294967295)∧(0≤Int.tmod (Int.tmod (u:Int) 10000) 100*2+1∧Int.tmod (Int.tmod (u:Int) 10000) 100*2+1<200)∧(0≤Int.tmod (Int.tmod (u:Int) 10000) 100*2∧Int.tmod (Int.tmod (u:Int) 10000) 100*2<200)∧(0≤Int.tdiv (Int.tmod (u:Int) 10000) 100*2+1∧Int.tdiv (Int.tmod (u:Int) 10000) 100*2+1≤4294967295)∧(0≤Int.tdiv (Int.tmod (u:Int) 10000) 100*2+1∧Int.tdiv (Int.tmod (u:Int) 10000) 100*2+1<200)∧(0≤Int.tdiv (Int.tmod (u:Int) 10000) 100*2∧Int.tdiv (Int.tmod (u:Int) 10000) 100*2<200)∧(0≤48+Int.tdiv (u:Int) 10000∧48+Int.tdiv (u:Int) 10000≤4294967295)∧(0≤48+Int.tdiv (u:Int) 10000∧48+Int.tdiv (u:Int) 10000≤255)∧ae (.tuple []) (J.ar 68 [(0,(af.an ([.agg [.int .u8 (48+Int.tdiv (u:Int) 10000),.int .u8 (↑(UInt8.toNat (List.getD hW (Int.toNat (Int.tdiv (Int.tmod (u:Int) 10000) 100*2)) 0)):Int),.int .u8 (↑(UInt8.toNat (List.getD hW (Int.toNat (Int.tdiv (Int.tmod (u:Int) 10000) 100*2+1)) 0)):Int),.int .u8 (↑(UInt8.toNat (List.getD hW (Int.toNat (Int.tmod (Int.tmod (u:Int) 10000) 100*2)) 0)):Int),.int .u8 (↑(UInt8.toNat (List.getD hW (Int.toNat (Int.tmod (Int.tmod (u:Int) 10000) 100*2+1)) 0)):Int),.int .u8 0,.int .u8 0,.int .u8 0,.int .u8 0,.int .u8 0,.int .u8 0,.int .u8 0,.int .u8 0,.int .u8 0,.int .u8 0,.int .u8 0,.int .u8 0,.int .u8 0,.int .u8 0,.int .u8 0,.int .u8 0,.int .u8 0,.int .u8 0,.int .u8 0]]) 24 true (some (154,24))))])) :
 b4 121 [.slice (some ⟨0,0,0,1,24⟩) 5 24,.int .u64 u] (J.rows 1 [(0,kI)]) ae :=
 b9 gC (.az (.rounds 300) (ak 12001 (ak 14001 (ak 15001 (ak 16001 (ak 16002 (ak 16004 (ak 16005 (ak 17007 (ak 17008 (ak 17010 (ak 18007 (ak 18008 (ak 18010 (ak 26002 (ak 26003 .nil)))))))))))))))) aW
theorem acM(u:Nat)(ae:bI)(aW:(0≤(u:Int)∧(u:Int)≤4294967295)∧((10000:Int)=0→False)∧(((10000:Int)=0→False)∧h' .u32 (Int.tdiv (u:Int) 10000))∧(((100:Int)=0→False)∧h' .u32 (Int.tdiv (Int.tmod (u:Int) 10000) 100))∧(0≤Int.tdiv (Int.tmod (u:Int) 10000) 100*2∧Int.tdiv (Int.tmod (u:Int) 10000) 100*2≤4294967295)∧((100:Int)=0→False)∧(0≤Int.tmod (Int.tmod (u:Int) 10000) 100*2∧Int.tmod (Int.tmod (u:Int) 10000) 100*2≤4294967295)∧(0≤Int.tmod (Int.tmod (u:Int) 10000) 100*2+1∧Int.tmod (Int.tmod (u:Int) 10000) 100*2+1≤4294967295)∧(0≤Int.tmod (Int.tmod (u:Int) 10000) 100*2+1∧Int.tmod (Int.tmod (u:Int) 10000) 100*2+1<200)∧(0≤Int.tmod (Int.tmod (u:Int) 10000) 100*2∧Int.tmod (Int.tmod (u:Int) 10000) 100*2<200)∧(0≤Int.tdiv (Int.tmod (u:Int) 10000) 100*2+1∧Int.tdiv (Int.tmod (u:Int) 10000) 100*2+1≤4294967295)∧(0≤Int.tdiv (Int.tmod (u:Int) 10000) 100*2+1∧Int.tdiv (Int.tmod (u:Int) 10000) 100*2+1<200)∧(0≤Int.tdiv (Int.tmod (u:Int) 10000) 100*2∧Int.tdiv (Int.tmod (u:Int) 10000) 100*2<200)∧((100:Int)=0→False)∧(0≤Int.tmod (Int.tdiv (u:Int) 10000) 100*2∧Int.tmod (Int.tdiv (u:Int) 10000) 100*2≤4294967295)∧(((100:Int)=0→False)∧h' .u32 (Int.tdiv (Int.tdiv (u:Int) 10000) 100))∧(0≤Int.tmod (Int.tdiv (u:Int) 10000) 100*2+1∧Int.tmod (Int.tdiv (u:Int) 10000) 100*2+1≤4294967295)∧(0≤Int.tmod (Int.tdiv (u:Int) 10000) 100*2+1∧Int.tmod (Int.tdiv (u:Int) 10000) 100*2+1<200)∧(0≤Int.tmod (Int.tdiv (u:Int) 10000) 100*2∧Int.tmod (Int.tdiv (u:Int) 10000) 100*2<200)∧ae (.tuple []) (J.ar 87 [(0,(af.an ([.agg [.int .u8 (↑(UInt8.toNat (List.getD hW (Int.toNat (Int.tmod (Int.tdiv (u:Int) 10000) 100*2)) 0)):Int),.int .u8 (↑(UInt8.toNat (List.getD hW (Int.toNat (Int.tmod (Int.tdiv (u:Int) 10000) 100*2+1)) 0)):Int),.int .u8 (↑(UInt8.toNat (List.getD hW (Int.toNat (Int.tdiv (Int.tmod (u:Int) 10000) 100*2)) 0)):Int),.int .u8 (↑(UInt8.toNat (List.getD hW (Int.toNat (Int.tdiv (Int.tmod (u:Int) 10000) 100*2+1)) 0)):Int),.int .u8 (↑(UInt8.toNat (List.getD hW (Int.toNat (Int.tmod (Int.tmod (u:Int) 10000) 100*2)) 0)):Int),.int .u8 (↑(UInt8.toNat (List.getD hW (Int.toNat (Int.tmod (Int.tmod (u:Int) 10000) 100*2+1)) 0)):Int),.int .u8 0,.int .u8 0,.int .u8 0,.int .u8 0,.int .u8 0,.int .u8 0,.int .u8 0,.int .u8 0,.int .u8 0,.int .u8 0,.int .u8 0,.int .u8 0,.int .u8 0,.int .u8 0,.int .u8 0,.int .u8 0,.int .u8 0,.int .u8 0]]) 24 true (some (154,24))))])) :
 b4 121 [.slice (some ⟨0,0,0,1,24⟩) 6 24,.int .u64 u] (J.rows 1 [(0,kI)]) ae :=
 b9 gC (.az (.rounds 300) (ak 12001 (ak 14001 (ak 15001 (ak 16001 (ak 16002 (ak 16004 (ak 16005 (ak 17007 (ak 17008 (ak 17010 (ak 18007 (ak 18008 (ak 18010 (ak 21001 (ak 21002 (ak 22001 (ak 23007 (ak 23008 (ak 23010 .nil)))))))))))))))))))) aW
theorem acN(u:Nat)(ae:bI)(aW:(0≤(u:Int)∧(u:Int)≤4294967295)∧((10000:Int)=0→False)∧(((10000:Int)=0→False)∧h' .u32 (Int.tdiv (u:Int) 10000))∧(((100:Int)=0→False)∧h' .u32 (Int.tdiv (Int.tmod (u:Int) 10000) 100))∧(0≤Int.tdiv (Int.tmod (u:Int) 10000) 100*2∧Int.tdiv (Int.tmod (u:Int) 10000) 100*2≤4294967295)∧((100:Int)=0→False)∧(0≤Int.tmod (Int.tmod (u:Int) 10000) 100*2∧Int.tmod (Int.tmod (u:Int) 10000) 100*2≤4294967295)∧(0≤Int.tmod (Int.tmod (u:Int) 10000) 100*2+1∧Int.tmod (Int.tmod (u:Int) 10000) 100*2+1≤4294967295)∧(0≤Int.tmod (Int.tmod (u:Int) 10000) 100*2+1∧Int.tmod (Int.tmod (u:Int) 10000) 100*2+1<200)∧(0≤Int.tmod (Int.tmod (u:Int) 10000) 100*2∧Int.tmod (Int.tmod (u:Int) 10000) 100*2<200)∧(0≤Int.tdiv (Int.tmod (u:Int) 10000) 100*2+1∧Int.tdiv (Int.tmod (u:Int) 10000) 100*2+1≤4294967295)∧(0≤Int.tdiv (Int.tmod (u:Int) 10000) 100*2+1∧Int.tdiv (Int.tmod (u:Int) 10000) 100*2+1<200)∧(0≤Int.tdiv (Int.tmod (u:Int) 10000) 100*2∧Int.tdiv (Int.tmod (u:Int) 10000) 100*2<200)∧((100:Int)=0→False)∧(0≤Int.tmod (Int.tdiv (u:Int) 10000) 100*2∧Int.tmod (Int.tdiv (u:Int) 10000) 100*2≤4294967295)∧(((100:Int)=0→False)∧h' .u32 (Int.tdiv (Int.tdiv (u:Int) 10000) 100))∧(0≤Int.tmod (Int.tdiv (u:Int) 10000) 100*2+1∧Int.tmod (Int.tdiv (u:Int) 10000) 100*2+1≤4294967295)∧(0≤Int.tmod (Int.tdiv (u:Int) 10000) 100*2+1∧Int.tmod (Int.tdiv (u:Int) 10000) 100*2+1<200)∧(0≤Int.tmod (Int.tdiv (u:Int) 10000) 100*2∧Int.tmod (Int.tdiv (u:Int) 10000) 100*2<200)∧(0≤48+Int.tdiv (Int.tdiv (u:Int) 10000) 100∧48+Int.tdiv (Int.tdiv (u:Int) 10000) 100≤4294967295)∧(0≤48+Int.tdiv (Int.tdiv (u:Int) 10000) 100∧48+Int.tdiv (Int.tdiv (u:Int) 10000) 100≤255)∧ae (.tuple []) (J.ar 93 [(0,(af.an ([.agg [.int .u8 (48+Int.tdiv (Int.tdiv (u:Int) 10000) 100),.int .u8 (↑(UInt8.toNat (List.getD hW (Int.toNat (Int.tmod (Int.tdiv (u:Int) 10000) 100*2)) 0)):Int),.int .u8 (↑(UInt8.toNat (List.getD hW (Int.toNat (Int.tmod (Int.tdiv (u:Int) 10000) 100*2+1)) 0)):Int),.int .u8 (↑(UInt8.toNat (List.getD hW (Int.toNat (Int.tdiv (Int.tmod (u:Int) 10000) 100*2)) 0)):Int),.int .u8 (↑(UInt8.toNat (List.getD hW (Int.toNat (Int.tdiv (Int.tmod (u:Int) 10000) 100*2+1)) 0)):Int),.int .u8 (↑(UInt8.toNat (List.getD hW (Int.toNat (Int.tmod (Int.tmod (u:Int) 10000) 100*2)) 0)):Int),.int .u8 (↑(UInt8.toNat (List.getD hW (Int.toNat (Int.tmod (Int.tmod (u:Int) 10000) 100*2+1)) 0)):Int),.int .u8 0,.int .u8 0,.int .u8 0,.int .u8 0,.int .u8 0,.int .u8 0,.int .u8 0,.int .u8 0,.int .u8 0,.int .u8 0,.int .u8 0,.int .u8 0,.int .u8 0,.int .u8 0,.int .u8 0,.int .u8 0,.int .u8 0]]) 24 true (some (154,24))))])) :
 b4 121 [.slice (some ⟨0,0,0,1,24⟩) 7 24,.int .u64 u] (J.rows 1 [(0,kI)]) ae :=
 b9 gC (.az (.rounds 300) (ak 12001 (ak 14001 (ak 15001 (ak 16001 (ak 16002 (ak 16004 (ak 16005 (ak 17007 (ak 17008 (ak 17010 (ak 18007 (ak 18008 (ak 18010 (ak 21001 (ak 21002 (ak 22001 (ak 23007 (ak 23008 (ak 23010 (ak 26002 (ak 26003 .nil)))))))))))))))))))))) aW
end Go.Proofs.YtddnafghiejcoaaGreatDoor
namespace Go.Keys
open Go.Lib
def Scalar(r:Nat):Prop:=r<55296∨(57343<r∧r≤1114111)
theorem kJ{n:Nat}(h:n<256):(u8 n).toNat=n:=by unfold u8;rw [UInt8.toNat_ofNat'];omega
theorem put_eq{r:Nat}(hs:Scalar r):put r=if r<128 then [u8 r]else if r<2048 then [u8 (192+r/64),u8 (128+r%64)]
 else if r<65536 then [u8 (224+r/4096),u8 (128+r/64%64),u8 (128+r%64)]
 else [u8 (240+r/262144),u8 (128+r/4096%64),u8 (128+r/64%64),u8 (128+r%64)]:=by
 unfold Scalar at hs;have e:(if 55296≤r∧r≤57343∨1114111<r then 65533 else r)=r:=if_neg ab;unfold put;simp only [e]
theorem pj{r:Nat}(h:r<128):put r=[u8 r]:=by rw [put_eq (.inl ab),if_pos h]
theorem rT{r:Nat}(ac:128≤r)(h:r<2048):put r=[u8 (192+r/64),u8 (128+r%64)]:=by rw [put_eq (.inl ab),if_neg ab,if_pos h]
theorem qp{r:Nat}(hs:Scalar r)(ac:2048≤r)(h:r<65536):put r=[u8 (224+r/4096),u8 (128+r/64%64),u8 (128+r%64)]:=by rw [put_eq hs,if_neg ab,if_neg ab,if_pos h]
theorem rU{r:Nat}(hs:Scalar r)(ac:65536≤r):put r=[u8 (240+r/262144),u8 (128+r/4096%64),u8 (128+r/64%64),u8 (128+r%64)]:=by rw [put_eq hs,if_neg ab,if_neg ab,if_neg ab]
theorem acO{n:Nat}(h:n<128):lead n=(1,0,0):=by unfold lead;rw [if_pos h]
theorem acP{n:Nat}(ac:194≤n)(h:n≤223):lead n=(2,128,191):=by unfold lead;rw [if_neg ab,if_pos ⟨ac,h⟩]
theorem acQ{n:Nat}(ac:224≤n)(h:n≤239):lead n=(3,if n=224 then 160 else 128,if n=237 then 159 else 191):=by
 unfold lead;rw [if_neg ab,if_neg ab];by_cases a:n=224
 ·rw [if_pos a,if_pos a,if_neg ab]
 ·rw [if_neg a,if_neg a];by_cases b:n=237
  ·rw [if_pos b,if_pos b]
  ·rw [if_neg b,if_neg b,if_pos ab]
theorem acR{n:Nat}(ac:240≤n)(h:n≤244):lead n=(4,if n=240 then 144 else 128,if n=244 then 143 else 191):=by
 unfold lead;rw [if_neg ab,if_neg ab,if_neg ab,if_neg ab,if_neg ab];by_cases a:n=240
 ·rw [if_pos a,if_pos a,if_neg ab]
 ·rw [if_neg a,if_neg a];by_cases b:n=244
  ·rw [if_neg ab,if_pos b,if_pos b]
  ·rw [if_pos ab,if_neg b]
structure Jl(r:Nat):Prop where
 whole:first (put r)=(r,(put r).length,false)
 parts:∀k,0<k→k<(put r).length→(first ((put r).take k)).2.2=true
 acS:1<(put r).length→ ∀b∈put r,128≤b.toNat
theorem Jm(i bb aq v:Nat)(l:Bytes):tail 0 i bb aq v l=(v,i,false):=by unfold tail;rfl
theorem tail_nil(k i bb aq v:Nat):tail (k+1) i bb aq v []=(65533,i,true):=rfl
theorem pE{k i bb aq v:Nat}{c:UInt8}{r:Bytes}(ac:bb≤c.toNat)(ai:c.toNat≤aq):tail (k+1) i bb aq v (c::r)=tail k (i+1) 128 191 (v*64+c.toNat%64) r:=by rw [tail,if_neg ab]
theorem qS{b:UInt8}{r:Bytes}{k bb aq:Nat}(h:lead b.toNat=(k+2,bb,aq)):first (b::r)=tail (k+1) 1 bb aq (b.toNat%2^(7- (k+2))) r:=by simp only [first,h];rw [if_neg ab,if_neg ab];rfl
theorem chars{r:Nat}(hs:Scalar r):Jl r:=by
 have ev:=hs;unfold Scalar at ev;by_cases ac:r<128
 ·rw [show Jl r=Jl r from rfl];refine⟨?_,?_,?_⟩
  ·rw [pj ac];simp only [first,kJ (show r<256 by omega),acO ac];rfl
  ·rw [pj ac];intro k a b;simp only [List.length_cons,List.length_nil]at b;omega
  ·rw [pj ac];intro a;simp at a
 by_cases ai:r<2048
 ·have e:=rT ab ai;have a0:(u8 (192+r/64)).toNat=192+r/64:=kJ ab;have av:(u8 (128+r%64)).toNat=128+r%64:=kJ ab;have j7:lead (u8 (192+r/64)).toNat=(0+2,128,191):=by rw [a0];exact acP ab ab
  refine⟨?_,?_,?_⟩
  ·rw [e,qS j7,pE ab ab,Jm,a0,av];simp only [List.length_cons,List.length_nil,Prod.mk.injEq,and_true,Nat.reduceAdd];omega
  ·intro k c d;rw [e]at d⊢;simp only [List.length_cons,List.length_nil]at d;obtain rfl:k=1:= ab;show(first [_]).2.2=true;rw [qS j7,tail_nil]
  ·rw [e];intro _ b ax;simp only [List.mem_cons,List.not_mem_nil,or_false]at ax;rcases ax with rfl|rfl<;>omega
 by_cases a8:r<65536
 ·have e:=qp hs ab a8;have a0:(u8 (224+r/4096)).toNat=224+r/4096:=kJ ab;have av:(u8 (128+r/64%64)).toNat=128+r/64%64:=kJ ab;have a2:(u8 (128+r%64)).toNat=128+r%64:=kJ ab;have j7:lead (u8 (224+r/4096)).toNat=(1+2,if 224+r/4096=224 then 160 else 128,if 224+r/4096=237 then 159 else 191):=by rw [a0];exact acQ ab ab
  refine⟨?_,?_,?_⟩
  ·rw [e,qS j7,pE (by rw [av];split<;>omega) (by rw [av];split<;>omega),pE ab ab,Jm,a0,av,a2];simp only [List.length_cons,List.length_nil,Prod.mk.injEq,and_true,Nat.reduceAdd];omega
  ·intro k c d;rw [e]at d⊢;simp only [List.length_cons,List.length_nil]at d;rcases (show k=1∨k=2 by omega)with rfl|rfl
   ·show(first [_]).2.2=true;rw [qS j7,tail_nil]
   ·show(first [_,_]).2.2=true;rw [qS j7,pE (by rw [av];split<;>omega) (by rw [av];split<;>omega),tail_nil]
  ·rw [e];intro _ b ax;simp only [List.mem_cons,List.not_mem_nil,or_false]at ax;rcases ax with rfl|rfl|rfl<;>omega
 ·have e:=rU hs ab;have a0:(u8 (240+r/262144)).toNat=240+r/262144:=kJ ab;have av:(u8 (128+r/4096%64)).toNat=128+r/4096%64:=kJ ab;have a2:(u8 (128+r/64%64)).toNat=128+r/64%64:=kJ ab;have a3:(u8 (128+r%64)).toNat=128+r%64:=kJ ab;have j7:lead (u8 (240+r/262144)).toNat=(2+2,if 240+r/262144=240 then 144 else 128,if 240+r/262144=244 then 143 else 191):=by rw [a0];exact acR ab ab
  refine⟨?_,?_,?_⟩
  ·rw [e,qS j7,pE (by rw [av];split<;>omega) (by rw [av];split<;>omega),pE ab ab,pE ab ab,Jm,a0,av,a2,a3];simp only [List.length_cons,List.length_nil,Prod.mk.injEq,and_true,Nat.reduceAdd];omega
  ·intro k c d;rw [e]at d⊢;simp only [List.length_cons,List.length_nil]at d;rcases (show k=1∨k=2∨k=3 by omega)with rfl|rfl|rfl
   ·show(first [_]).2.2=true;rw [qS j7,tail_nil]
   ·show(first [_,_]).2.2=true;rw [qS j7,pE (by rw [av];split<;>omega) (by rw [av];split<;>omega),tail_nil]
   ·show(first [_,_,_]).2.2=true;rw [qS j7,pE (by rw [av];split<;>omega) (by rw [av];split<;>omega),pE ab ab,tail_nil]
  ·rw [e];intro _ b ax;simp only [List.mem_cons,List.not_mem_nil,or_false]at ax;rcases ax with rfl|rfl|rfl|rfl<;>omega
theorem zf(r:Nat):put r≠[]:=by intro h;have:=MV r;rw [h]at this;simp at this
theorem acT{r:Nat}(hs:Scalar r):eE (put r)=[r]:=by
 have h:=(chars hs).whole;unfold eE;cases ah:put r with
 |nil=>exact absurd ah (zf r)
 |cons b t =>
  rw [ah]at h;show jB (t.length+1) (b::t)=_;unfold jB;simp only [h];rw [show(b::t).drop (b::t).length=[]by simp];cases t.length<;>rfl
theorem QJ{r:Nat}(hs:Scalar r):valid (put r)=true:=by unfold valid;rw [acT hs];simp [gf]
theorem QK{k:Nat}{x:Bytes}(aj:x≠[]):hv (k+1) x=if(first x).2.2 then([],x)else((first x).1::(hv k (x.drop (first x).2.1)).1,(hv k (x.drop (first x).2.1)).2):=by
 cases x with
 |nil=>exact absurd rfl aj
 |cons b r=>rfl
theorem acU{r:Nat}(hs:Scalar r){h:Bytes}{c:UInt8}(e:put r=h++[c]):b' h c=([r],[]):=by have w:=(chars hs).whole;unfold b';rw [QK aM,←e,w];simp [ve]
theorem xQ{h:Bytes}{c:UInt8}(e:(first (h++[c])).2.2=true):b' h c=([],h++[c]):=by unfold b';rw [QK aM,if_pos e]
def CY(p:Bytes):Prop:=p=[]∨p=[27]
theorem acV{p x:Bytes}(h:CY p)(aj:x.head? ≠some 27):at' (p++x)=p.length:=by
 rcases h with rfl|rfl
 ·cases x with
  |nil=>rfl
  |cons b r =>
   simp only [List.head?_cons,ne_eq,Option.some.injEq]at aj;simp [at',aj]
 ·simp [at']
theorem QL(p x:Bytes):(p++x).drop p.length=x:= aM
theorem Jn{r:Nat}(hs:Scalar r){p h:Bytes}(ah:CY p){c:UInt8}(e:put r=h++[c])(bU:(put r).head? ≠some 27){nx:nj}(no:bK→bK×List bl):gv ⟨nx,p++h,h,[]⟩ c no=(zero,[fi r (2*p.length)]):=by
 have acW:h.head? ≠some 27:=by
  cases h with
  |nil=>simp
  |cons b t=>rw [e]at bU;simpa using bU
 have aT:at' (p++h)=p.length:=acV ah acW;unfold gv;simp only [acU hs e,aT];rw [if_neg aM,if_pos (.inr (by rw [QL,←e];exact QJ hs)),List.append_assoc,QL,←e,if_pos (QJ hs)];rfl
theorem Jo{p h:Bytes}{c:UInt8}(e:(first (h++[c])).2.2=true){nx:nj}(no:bK→bK×List bl):gv ⟨nx,p++h,h,[]⟩ c no=(⟨.da,p++(h++[c]),h++[c],[]⟩,[]):=by unfold gv;simp only [xQ e];rw [if_pos aM,List.append_assoc]
theorem QM{r:Nat}(hs:Scalar r){p:Bytes}(ah:CY p)(bU:(put r).head? ≠some 27):∀(t h:Bytes),put r=h++t→h≠[]→t≠[]→dd ⟨.da,p++h,h,[]⟩ t=(zero,[fi r (2*p.length)])
 |[],h,_,_,bW=>absurd rfl bW
 |[c],h,e,_,_=>by rw [vV];show gv ⟨.da,p++h,h,[]⟩ c (fun s1=>bad s1 c)=_;exact Jn hs ah e bU _
 |c ::d::t,h,e,bf,_=>by
  have bi:put r=(h++[c])++(d::t):=by rw [e];simp
  have o:(first (h++[c])).2.2=true:=by
   have:=(chars hs).parts (h++[c]).length aM (by rw [bi];simp)
   rwa [bi,List.take_left]at this
  have iK:step ⟨.da,p++h,h,[]⟩ c=(⟨.da,p++(h++[c]),h++[c],[]⟩,[]):=by show gv ⟨.da,p++h,h,[]⟩ c (fun s1=>bad s1 c)=_;exact Jo o _
  rw [dd,iK];simp only [List.nil_append];rw [QM hs ah bU (d::t) (h++[c]) bi aM aM]
theorem QN{r:Nat}(hs:Scalar r){p:Bytes}(ah:CY p)(lY:32≤r)(oA:r≠127){nx:nj}(no:bK→bK×List bl){c:UInt8}{t:Bytes}(e:put r=c::t) :
 dd (gv ⟨nx,p,[],[]⟩ c no).1 t=(zero,if t=[]then []else [fi r (2*p.length)])∧(gv ⟨nx,p,[],[]⟩ c no).2=(if t=[]then [fi r (2*p.length)]else [])∧32≤c.toNat∧c.toNat≠127∧(t≠[]→128≤c.toNat)∧(t=[]→c=u8 r∧r<128):=by
 have aw : 32≤c.toNat∧c.toNat≠127∧(t≠[]→128≤c.toNat)∧(t=[]→c=u8 r∧r<128):=by
  by_cases bW:t=[]
  ·subst bW
   have bc:r<128:=by
    rcases Nat.lt_or_ge r 128 with h|h
    ·exact h
    ·exfalso;have aC:(put r).length=1:=by rw [e];rfl
     rcases Nat.lt_or_ge r 2048 with ai|ai
     ·rw [rT h ai]at aC;simp at aC
     ·rcases Nat.lt_or_ge r 65536 with a8|a8
      ·rw [qp hs ai a8]at aC;simp at aC
      ·rw [rU hs a8]at aC;simp at aC
   rw [pj bc]at e;simp only [List.cons.injEq,and_true]at e;subst e;rw [kJ ab];exact⟨lY,oA,fun h=>absurd rfl h,fun _=>⟨rfl,bc⟩⟩
  ·have ac:1<(put r).length:=by rw [e];simp only [List.length_cons];have:=List.length_pos_iff.2 bW;omega
   have:=(chars hs).acS ac c (by rw [e];simp);exact⟨ab,ab,fun _=>this,fun h=>absurd h bW⟩
 have bU:(put r).head? ≠some 27:=by rw [e];intro q;simp only [List.head?_cons,Option.some.injEq]at q;subst q;exact absurd aw.1 aS
 have au:p=p++[]:= aM;refine⟨?_,?_,aw⟩
 ·by_cases bW:t=[]
  ·subst bW;have:=Jn hs ah (h:=[]) (by simpa using e) bU (nx:=nx) no;rw [←au]at this;rw [this];rfl
  ·have o:(first ([]++[c])).2.2=true:=by have:=(chars hs).parts 1 aS (by rw [e];simp only [List.length_cons];have:=List.length_pos_iff.2 bW;omega);rw [e]at this;simpa using this
   have:=Jo (p:=p) (h:=[]) o (nx:=nx) no;rw [←au]at this;rw [this,if_neg bW];exact QM hs ah bU t _ (by simpa using e) aM bW
 ·by_cases bW:t=[]
  ·subst bW;have:=Jn hs ah (h:=[]) (by simpa using e) bU (nx:=nx) no;rw [←au]at this;rw [this];rfl
  ·have o:(first ([]++[c])).2.2=true:=by have:=(chars hs).parts 1 aS (by rw [e];simp only [List.length_cons];have:=List.length_pos_iff.2 bW;omega);rw [e]at this;simpa using this
   have:=Jo (p:=p) (h:=[]) o (nx:=nx) no;rw [←au]at this;rw [this,if_neg bW]
theorem pF{r:Int}(h:shown r=true):Scalar r.toNat∧32≤r.toNat∧r.toNat≠127∧(r.toNat:Int)=r:=by simp only [shown,Bool.and_eq_true,Bool.or_eq_true,decide_eq_true_eq]at h;unfold Scalar;omega
theorem acX{r:Nat}(hs:Scalar r)(lY:32≤r)(oA:r≠127):dd zero (put r)=(zero,[fi r 0]):=by
 cases e:put r with
 |nil=>exact absurd e (zf r)
 |cons c t =>
  obtain⟨ac,ai,a8,bQ,_⟩:=QN hs (.inl rfl) lY oA (nx:= .ground) (fun s1=>tell s1 (gM s1.al)) e
  have iK:step zero c=gv ⟨.ground,[],[],[]⟩ c (fun s1=>tell s1 (gM s1.al)):=by show ground zero c=_;unfold ground;rw [if_neg (by rintro rfl;exact absurd a8 aS)];unfold iv;rw [if_neg ab];rfl
  rw [dd,iK,ac,ai];by_cases bW:t=[]<;>simp [bW]
theorem acY{r:Nat}(hs:Scalar r)(lY:32≤r)(oA:r≠127)(Jp:r≠91)(Jq:r≠79):dd zero (27::put r)=(zero,[fi r 2]):=by
 cases e:put r with
 |nil=>exact absurd e (zf r)
 |cons c t =>
  obtain⟨ac,ai,a8,bQ,bF,dv⟩:=QN hs (.inr rfl) lY oA (nx:= .dj) (fun s1=>bad s1 c) e
  have n:∀k:UInt8,k.toNat≠r→k.toNat<128→c≠k:=by
   rintro k au cn rfl;by_cases bW:t=[]
   ·obtain⟨a,b⟩:=dv bW;rw [a,kJ ab]at au;exact au rfl
   ·have:=bF bW;omega
  have iK:step ⟨.dj,[27],[],[]⟩ c=gv ⟨.dj,[27],[],[]⟩ c (fun s1=>bad s1 c):=by show dj _ c=_;unfold dj;rw [if_neg (by rintro rfl;exact absurd a8 aS),if_neg (n 91 (fun h=>Jp h.symm) aS),if_neg (n 79 (fun h=>Jq h.symm) aS)];unfold plain iv;rw [if_neg ab]
  have h8:step zero 27=(⟨.dj,[27],[],[]⟩,[]):=rfl;rw [dd,h8];simp only [List.nil_append];rw [dd,iK,ac,ai];by_cases bW:t=[]<;>simp [bW]
end Go.Keys
namespace Go.Proofs.YtddnafghiejcoaaGreatDoor
open Go.cf Go.Keys Go.Lib
set_option maxRecDepth 1000000
theorem zg(a:Nat):Int.tmod (a:Int) 100=((a%100:Nat):Int):=rfl
theorem zh(a:Nat):Int.tdiv (a:Int) 100=((a/100:Nat):Int):=rfl
theorem CZ(a:Nat):Int.tmod (a:Int) 10000=((a%10000:Nat):Int):=rfl
theorem C0(a:Nat):Int.tdiv (a:Int) 10000=((a/10000:Nat):Int):=rfl
theorem tY{u:Nat}(h:10≤u):decDigits u=decDigits (u/10)++[u8 (48+u%10)]:=by rw [decDigits,dif_neg ab];rfl
theorem tZ{u:Nat}(h:u<10):decDigits u=[u8 (48+u)]:=by rw [decDigits,dif_pos h];rfl
theorem C1{n:Nat}(h:n<256):((u8 n).toNat:Int)=(n:Nat):=by rw [kJ h]
theorem oB{p:Nat}(h:p<100):((UInt8.toNat (List.getD hW (Int.toNat ((p:Int)*2)) 0):Nat):Int)=((48+p/10:Nat):Int):=by have e:Int.toNat ((p:Int)*2)=p*2:= ab;rw [e];show((sm (p*2)).toNat:Int)=_;rw [sm_hi p h];exact C1 ab
theorem oC{p:Nat}(h:p<100):((UInt8.toNat (List.getD hW (Int.toNat ((p:Int)*2+1)) 0):Nat):Int)=((48+p%10:Nat):Int):=by have e:Int.toNat ((p:Int)*2+1)=p*2+1:= ab;rw [e];show((sm (p*2+1)).toNat:Int)=_;rw [sm_lo p h];exact C1 ab
theorem oD{n:Nat}(h:n≤4294967295):h' .u32 (n:Int):=⟨by show(0:Int)≤_;omega,by show _≤(4294967295:Int);omega⟩
theorem zi{u:Nat}(h:u<10):aN (decDigits u)=[.int .u8 ((48+u:Nat):Int)]:=by rw [tZ h];show [aa.int .u8 ((u8 (48+u)).toNat:Int)]=_;rw [C1 ab]
theorem jq{u:Nat}(h:10≤u):aN (decDigits u)=aN (decDigits (u/10))++[.int .u8 ((48+u%10:Nat):Int)]:=by rw [tY h];show List.map _ (_++_)=_;rw [List.map_append];show _++[aa.int .u8 ((u8 (48+u%10)).toNat:Int)]=_;rw [C1 ab];rfl
def iS(u ig:Nat):af:=pD (aN (decDigits u)++List.replicate (24-ig) gR)
theorem acZ{u:Nat}(ac:100≤u)(ai:u<1000):bS 121 [.slice (some ⟨0,0,0,1,24⟩) 3 24,.int .u64 u] (J.rows 1 [(0,kI)]) (.tuple []) (J.ar 46 [(0,iS u 3)]):=by
 obtain⟨v,ag,aE,rfl,rfl⟩:=acJ u (fun v ag=>v=.tuple []∧ag=J.ar 46 [(0,iS u 3)]) (by
  simp only [zg,zh,oB (show u%100<100 by omega),oC (show u%100<100 by omega)];refine⟨ab,ab,ab,⟨ab,oD ab⟩,ab,ab,ab,ab,ab,True.intro,?_⟩;unfold iS pD;rw [jq ab,jq ab,zi ab,Nat.div_div_eq_div_mul];simp only [show 10*10=100 from rfl,show u/10%10=u%100/10 by omega,show u%10=u%100%10 by omega]
  rfl)
 exact aE
theorem ac0{u:Nat}(ac:1000≤u)(ai:u<10000):bS 121 [.slice (some ⟨0,0,0,1,24⟩) 4 24,.int .u64 u] (J.rows 1 [(0,kI)]) (.tuple []) (J.ar 62 [(0,iS u 4)]):=by
 obtain⟨v,ag,aE,rfl,rfl⟩:=acK u (fun v ag=>v=.tuple []∧ag=J.ar 62 [(0,iS u 4)]) (by
  simp only [zg,zh,CZ,C0,oB (show u%10000%100<100 by omega),oC (show u%10000%100<100 by omega),oB (show u%10000/100<100 by omega),oC (show u%10000/100<100 by omega)];refine⟨ab,ab,⟨ab,oD ab⟩,⟨ab,oD ab⟩,ab,ab,ab,ab,ab,ab,ab,ab,ab,True.intro,?_⟩;unfold iS pD;rw [jq ab,jq ab,jq ab,zi ab];simp only [Nat.div_div_eq_div_mul,Nat.reduceMul,show 48+u/1000=48+u%10000/100/10 by omega,show u/100%10=u%10000/100%10 by omega,show u/10%10=u%10000%100/10 by omega,show u%10=u%10000%100%10 by omega]
  rfl)
 exact aE
theorem ac1{u:Nat}(ac:10000≤u)(ai:u<100000):bS 121 [.slice (some ⟨0,0,0,1,24⟩) 5 24,.int .u64 u] (J.rows 1 [(0,kI)]) (.tuple []) (J.ar 68 [(0,iS u 5)]):=by
 obtain⟨v,ag,aE,rfl,rfl⟩:=acL u (fun v ag=>v=.tuple []∧ag=J.ar 68 [(0,iS u 5)]) (by
  simp only [zg,zh,CZ,C0,oB (show u%10000%100<100 by omega),oC (show u%10000%100<100 by omega),oB (show u%10000/100<100 by omega),oC (show u%10000/100<100 by omega)];refine⟨ab,ab,⟨ab,oD ab⟩,⟨ab,oD ab⟩,ab,ab,ab,ab,ab,ab,ab,ab,ab,ab,ab,True.intro,?_⟩;unfold iS pD;rw [jq ab,jq ab,jq ab,jq ab,zi ab];simp only [Nat.div_div_eq_div_mul,Nat.reduceMul,show u/1000%10=u%10000/100/10 by omega,show u/100%10=u%10000/100%10 by omega,show u/10%10=u%10000%100/10 by omega,show u%10=u%10000%100%10 by omega]
  rfl)
 exact aE
theorem ac2{u:Nat}(ac:100000≤u)(ai:u<1000000):bS 121 [.slice (some ⟨0,0,0,1,24⟩) 6 24,.int .u64 u] (J.rows 1 [(0,kI)]) (.tuple []) (J.ar 87 [(0,iS u 6)]):=by
 obtain⟨v,ag,aE,rfl,rfl⟩:=acM u (fun v ag=>v=.tuple []∧ag=J.ar 87 [(0,iS u 6)]) (by
  simp only [zg,zh,CZ,C0,oB (show u%10000%100<100 by omega),oC (show u%10000%100<100 by omega),oB (show u%10000/100<100 by omega),oC (show u%10000/100<100 by omega),oB (show u/10000%100<100 by omega),oC (show u/10000%100<100 by omega)];refine⟨ab,ab,⟨ab,oD ab⟩,⟨ab,oD ab⟩,ab,ab,ab,ab,ab,ab,ab,ab,ab,ab,ab,⟨ab,oD ab⟩,ab,ab,ab,True.intro,?_⟩;unfold iS pD;rw [jq ab,jq ab,jq ab,jq ab,jq ab,zi ab];simp only [Nat.div_div_eq_div_mul,Nat.reduceMul,show 48+u/100000=48+u/10000%100/10 by omega,show u/10000%10=u/10000%100%10 by omega,show u/1000%10=u%10000/100/10 by omega,show u/100%10=u%10000/100%10 by omega,show u/10%10=u%10000%100/10 by omega,show u%10=u%10000%100%10 by omega]
  rfl)
 exact aE
theorem ac3{u:Nat}(ac:1000000≤u)(ai:u<10000000):bS 121 [.slice (some ⟨0,0,0,1,24⟩) 7 24,.int .u64 u] (J.rows 1 [(0,kI)]) (.tuple []) (J.ar 93 [(0,iS u 7)]):=by
 obtain⟨v,ag,aE,rfl,rfl⟩:=acN u (fun v ag=>v=.tuple []∧ag=J.ar 93 [(0,iS u 7)]) (by
  simp only [zg,zh,CZ,C0,oB (show u%10000%100<100 by omega),oC (show u%10000%100<100 by omega),oB (show u%10000/100<100 by omega),oC (show u%10000/100<100 by omega),oB (show u/10000%100<100 by omega),oC (show u/10000%100<100 by omega)];refine⟨ab,ab,⟨ab,oD ab⟩,⟨ab,oD ab⟩,ab,ab,ab,ab,ab,ab,ab,ab,ab,ab,ab,⟨ab,oD ab⟩,ab,ab,ab,ab,ab,True.intro,?_⟩;unfold iS pD;rw [jq ab,jq ab,jq ab,jq ab,jq ab,jq ab,zi ab];simp only [Nat.div_div_eq_div_mul,Nat.reduceMul,show u/100000%10=u/10000%100/10 by omega,show u/10000%10=u/10000%100%10 by omega,show u/1000%10=u%10000/100/10 by omega,show u/100%10=u%10000/100%10 by omega,show u/10%10=u%10000%100/10 by omega,show u%10=u%10000%100%10 by omega]
  rfl)
 exact aE
end Go.Proofs.YtddnafghiejcoaaGreatDoor
namespace Go.Proofs.YtddnafghiejcoaaGreatDoor
open Go.cf Go.Keys
set_option maxRecDepth 1000000
structure eP(H:J)(j:Nat)(v:aa)(bs:Bytes):Prop where
 ex:∃b:af,v=.slice (some ⟨j,b.ad,0,0,1⟩) bs.length bs.length∧H.get j=some b∧b.ro=false∧b.bk=aN bs∧(b.exact=false→b.ty=none∨b.ty=some (5,0))
 lt:j<H.U
theorem eP.keep{H aQ:J}{j:Nat}{v:aa}{bs:Bytes}(g:eP H j v bs)(ak:aQ.get j=H.get j)(aR:H.U≤aQ.U):eP aQ j v bs:=by obtain⟨b,ac,ai,a8⟩:=g.ex;have aC:=g.lt;exact⟨⟨b,ac,by rw [ak];exact ai,a8⟩,ab⟩
theorem eP.bk{H:J}{j:Nat}{v:aa}{bs:Bytes}(g:eP H j v bs):fU 1 v H=some (aN bs):=by
 obtain⟨b,rfl,ai,a8,bQ,bF⟩:=g.ex;simp only [fU,if_true,ai];split
 ·rename_i h;rw [List.eq_nil_of_length_eq_zero h];rfl
 ·rw [if_pos ⟨by simp [af.cC,bQ,aN],by simp [bQ,aN]⟩,bQ];rw [List.drop_zero,List.take_of_length_le (by rw [iN];omega)]
theorem eP.an{H:J}{j:Nat}{bs:Bytes}{e:Bool}{ty:bL}(ak:H.get j=some (af.an (aN bs) 1 e ty))(aC:j<H.U)(bW:e=false→ty=none∨ty=some (5,0)):eP H j (.slice (some ⟨j,0,0,0,1⟩) bs.length bs.length) bs:=⟨⟨_,rfl,ak,rfl,rfl,bW⟩,aC⟩
theorem eP.hk{H:J}{j nid:Nat}{v x:aa}{bs new:Bytes}(g:eP H j v bs)(aj:fU 1 x H=some (aN new))(bX:new≠[])(hlen:bs.length+new.length<2^40)(aR:nid<H.U) :
 ∃br aQ gB,hB env.D 34 v x nid H=some (br,aQ)∧eP aQ gB br (bs++new)∧(gB=j∨gB=nid)∧aQ.U=H.U∧∀i,i≠j→i≠nid→aQ.get i=H.get i:=by
 have fO:=g.bk;obtain⟨b,rfl,ai,a8,bQ,bF⟩:=g.ex;have et:(aN new).length=new.length:=iN new;have iE:0<new.length:=List.length_pos_iff.2 bX;rw [←u4 vU];cases he:b.exact with
 |true =>
  refine⟨_,_,nid,Vn vU aj (by rw [et];omega) (by rw [et];omega) ai ⟨rfl,rfl⟩ (by rw [et];omega) he fO,?_,.inr rfl,rfl,fun i dv cE=>J.fg _ _ (Ne.symm cE)⟩;refine⟨⟨_,?_,J.gE _ _ _,rfl,by simp [af.an,aN],fun _=> .inr rfl⟩,aR⟩;simp [kb,af.an,et]
 |false =>
  have ac4:aN new≠[]:=by intro h;have:=congrArg List.length h;rw [et,List.length_nil]at this;omega
  refine⟨_,_,j,Vm vU aj ac4 (by rw [et];omega) (by rw [et];omega) ai ⟨rfl,rfl⟩ (by rw [et];omega) he a8 rfl (by simp [bQ,iN]) (bF he),?_,.inl rfl,rfl,fun i dv cE=>J.fg _ _ (Ne.symm dv)⟩;refine⟨⟨_,?_,J.gE _ _ _,a8,by simp [af.grow,bQ,aN],fun _=>bF he⟩,g.lt⟩;simp [af.grow,et]
theorem C2(s x:aa)(nid:Nat)(h:J):hC env .append #[34,34] [s,x] nid h=hB env.D 34 s x nid h:=u4 vU s
theorem zj(s x:aa)(nid:Nat)(h:J):hC env .append #[34,9] [s,x] nid h=hB env.D 34 s x nid h:=by have ai:(bY.D env 9).map (fun d=>d.kind)=some .string:= ay;obtain⟨d,ac,k⟩:=Option.map_eq_some_iff.1 ai;simp only [hC,List.getElem?_toArray,List.getElem?_cons_zero,List.getElem?_cons_succ,ac,k]
def Jr(i:Nat):Bytes:=if i<10 then [u8 (48+i)]else [u8 (48+i/10),u8 (48+i%10)]
theorem ac5{i:Nat}(h:i<100):Lib.decDigits i=Jr i:=by
 unfold Jr;split
 ·exact tZ ‹_›
 ·rw [tY ab,tZ ab];rfl
def QO(r:Option (aa×J))(i:Nat):Bool:=match r with|some (.str s,_)=>decide (s=Jr i)|_=>false
theorem ac6:∀i:Fin 100,QO (n6 Tryz.prog env 40 119 [.int .i64 (i.val:Int)] ⟨0,.nil⟩) i.val=true:=by decide+kernel
theorem ac7{i:Nat}(h:i<100)(H:J):bS 119 [.int .i64 (i:Nat)] H (.str (Lib.decDigits i)) H:=by
 have k:=ac6 ⟨i,h⟩;simp only at k;unfold QO at k;split at k
 ·rename_i s ac bc;rw [xu]at bc;have hs:=of_decide_eq_true k;rw [ac5 h,←hs];exact(b1.uR eN mixed bc).bare (fun a aT=>by rw [List.mem_singleton.1 aT];exact cU.of rfl) (cU.of rfl) H
 ·cases k
abbrev vW(ig x:Nat):aa:=aa.slice (some ⟨x,0,0,1,24⟩) ig 24
theorem QP(H H1 H2 aX bO:J)(j ad k n ig x:Nat)(s:Bytes)(v1 v2:aa)(ae:bI)(aW:bd (H.U) (H.U) (bd (H.U) (H.U+1) (bd (H.U+6) (H.U+6) (bd (H.U+6) (H.U+7) ((0≤(n:Int)∧(n:Int)≤18446744073709551615)∧bd (H.U+6) (H.U+10) (some (aa.bool false)=some (aa.bool false)∧bd (H.U+6) (H.U+12) (bd (H.U+17) (H.U+17) (bd (H.U+17) (H.U+18) (bd (H.U+17) (H.U+20) (((n:Int)<100→bd (H.U+17) (H.U+22) ((-9223372036854775808≤(n:Int)∧(n:Int)≤9223372036854775807)∧ca 119 [.int .i64 (n:Int)] (J.mk (H.U+28) (H.2)) (.str s) (J.mk (H.U+28) (H.2))∧hC env Builtin.append {toList:=[34,9]} [.slice (some ⟨j,ad,0,0,1⟩) k k,.str s] (H.U+26) (J.mk (H.U+28) (H.2))=some (v1,H1)∧bC (H.U+17) (H1.U) (bC (H.U+6) (H1.U) (bC (H.U) (H1.U) (ae v1 H1)))))∧(¬(n:Int)<100→bd (H.U+17) (H.U+22) (bN env dF (H.U+22) (bD [(12,.bool false),(11,.int .u64 (n:Int)),(10,.bool true),(9,.int .i64 10),(6,.slice none 0 0),(0,.slice (some ⟨j,ad,0,0,1⟩) k k),(1,.int .u64 (n:Int)),(2,.int .i64 10)]) (J.mk (H.U+23) (H.2)) (Op.alloc 154)=some (aa.ptr (some ⟨x,0,0,0,24⟩),H2)∧bd (H.U+17) (H2.U) (ca 120 [.int .u64 (n:Int)] (J.mk (H2.U+3) (H2.2)) (.int .i64 (ig:Int)) (J.mk (H2.U+3) (H2.2))∧bd (H.U+17) (H2.U+3) (ko env.D 154 (.ptr (some ⟨x,0,0,0,24⟩)) none (some (.int .i64 (ig:Int))) none=some ((vW ig x))∧ca 121 [(vW ig x),.int .u64 (n:Int)] (J.mk (H2.U+7) (H2.2)) (.tuple []) aX∧bd (H.U+17) (aX.U) (ko env.D 154 (.ptr (some ⟨x,0,0,0,24⟩)) none (some (.int .i64 (ig:Int))) none=some ((vW ig x))∧hC env Builtin.append {toList:=[34,34]} [.slice (some ⟨j,ad,0,0,1⟩) k k,(vW ig x)] (aX.U+3) (J.mk (aX.U+5) (aX.2))=some (v2,bO)∧bC (H.U+17) (bO.U) (bC (H.U+6) (bO.U) (bC (H.U) (bO.U) (ae v2 bO)))))))))))))))))) :
 b4 73 [.slice (some ⟨j,ad,0,0,1⟩) k k,.int .i64 n,.int .i64 10] H ae :=
 b9 gC (he 1003 (ak 1001 (.az (.val 2001 (.bool false)) (he 5003 (.aI 2001 (ak 3002 (.az (.val 3003 (.str s)) (.az (.act 3004 v1 fun x=>H1) .nil))) (.az (.act 4000 (.ptr (some ⟨x,0,0,0,24⟩)) fun x=>H2) (.az (.val 5001 (.int .i64 (ig:Int))) (.az (.val 6001 ((vW ig x))) (.az (.act 6003 (.tuple []) fun x=>aX) (.az (.val 7002 ((vW ig x))) (.az (.act 7003 v2 fun x=>bO) .nil))))))))))) aW
theorem ac8{l:List aa}(h:pC l=true):cU (.agg l):=by
 have ax:=acn h;refine⟨fun r=> ?_,?_⟩
 ·have:∀(l:List aa),(∀a∈l,cU a)→aa.gK r l=l:=by
   intro l;induction l with
   |nil=>intro _;rfl
   |cons a t ih=>intro h;rw [aa.gK,(h a aM).1 r,ih fun x aj=>h x (by simp [aj])]
  rw [aa.bg,this l ax]
 ·have:∀(l:List aa),(∀a∈l,cU a)→fp (fun _=>False) l:=by
   intro l;induction l with
   |nil=>intro _;exact trivial
   |cons a t ih=>intro h;exact⟨(h a aM).2,ih fun x aj=>h x (by simp [aj])⟩
  exact this l ax
theorem Js{l:List aa}(h:pC l=true):dy (pD l):=by intro e he;simp only [pD,af.an,List.mem_singleton]at he;subst he;exact ac8 h
theorem ac9(a b:List aa):pC (a++b)=(pC a&&pC b):=by simp [pC]
theorem ac'(l:Bytes):pC (aN l)=true:=by simp [pC,aN]
theorem ada(u ig:Nat):dy (iS u ig):=Js (by rw [ac9,ac'];simp [pC,gR])
theorem adb{u:Nat}(ac:100≤u)(ai:u<10000000):∃k,bS 121 [.slice (some ⟨0,0,0,1,24⟩) (jV u) 24,.int .u64 u] (J.of [kI]) (.tuple []) (J.ar (k+1) [(0,iS u (jV u))]):=by
 have e:J.of [kI]=J.rows 1 [(0,kI)]:= ay;rw [e];unfold jV;rw [if_neg ab,if_neg ab];by_cases a:u<1000
 ·rw [if_pos a];exact⟨45,acZ ac a⟩
 ·rw [if_neg a];by_cases b:u<10000
  ·rw [if_pos b];exact⟨61,ac0 ab b⟩
  ·rw [if_neg b];by_cases c:u<100000
   ·rw [if_pos c];exact⟨67,ac1 ab c⟩
   ·rw [if_neg c];by_cases d:u<1000000
    ·rw [if_pos d];exact⟨86,ac2 ab d⟩
    ·rw [if_neg d,if_pos ai];exact⟨92,ac3 ab ai⟩
theorem ade{u x:Nat}{H:J}(ac:100≤u)(ai:u<10000000)(ak:H.get x=some kI)(aj:x<H.U) :
 ∃aQ,bS 121 [.slice (some ⟨x,0,0,1,24⟩) (jV u) 24,.int .u64 u] H (.tuple []) aQ∧aQ.get x=some (iS u (jV u))∧H.U≤aQ.U∧∀i,i<H.U→i≠x→aQ.get i=H.get i:=by
 obtain⟨k,aE⟩:=adb ac ai;have iB:dJ [x] H.U 0=x:=tr (ids:=[x]) aM
 obtain⟨aQ,gk,aR,eX,kd⟩:=aE.place (by show 1≤k+1;omega) (fun b ax=>by rw [List.mem_singleton.1 ax];exact(Js aS).eM _) ⟨by show(0:Nat)<1;decide,trivial,trivial⟩ (H:=H) [x] aM (fun j a1=>by rw [List.mem_singleton.1 a1];exact aj) rfl (fun i b h=>by
  cases i with
  |zero =>
   simp only [List.getElem?_cons_zero,Option.some.injEq]at h;subst h;rw [iB,(Js aS).bg];exact ak
  |succ i=>simp at h)
 have g:=eX 0 (iS u (jV u)) rfl;rw [iB,(ada u (jV u)).bg]at g;refine⟨aQ,?_,g,by rw [aR];omega,fun i aq adf=>kd i aq (by simpa using adf)⟩;simpa [aa.bg,aa.gK,bA.bg,iB]using gk
theorem adg{u:Nat}(ac:100≤u)(ai:u<10000000):3≤jV u∧jV u≤7:=by
 unfold jV
 repeat' split
 all_goals omega
theorem QQ(u:Nat)(h:u<10000000):(Lib.decDigits u).length=jV u:=by rw [Lib.decDigits_length,Ms _ ab]
theorem adh{u x n:Nat}{H:J}(ai:u<10000000)(ak:H.get x=some (iS u n))(aR:n=jV u)(mW:n≠0)(ahS:n≤24):fU 1 (.slice (some ⟨x,0,0,1,24⟩) n 24) H=some (aN (Lib.decDigits u)):=by
 have aC:=QQ u ai;have et:(aN (Lib.decDigits u)).length=n:=by rw [iN,aC,aR]
 simp only [fU];rw [if_neg aS,if_neg mW];simp only [if_true,ak];simp only [iS,pD,af.an,af.elem?,af.cC,if_true,List.length_cons,List.length_nil];simp only [Nat.lt_add_one,if_true,List.getElem?_cons_zero];have bW:List.take n (aN (Lib.decDigits u)++List.replicate (24-n) gR)=aN (Lib.decDigits u):=by rw [←et,List.take_left]
 have h3:(List.take n (List.drop (1-1) (aN (Lib.decDigits u)++List.replicate (24-n) gR))).all (fun x=>x.ka)=true:=by show(List.take n (List.drop 0 _)).all _=true;rw [List.drop_zero,bW];simp [aN,aa.ka]
 rw [if_pos ⟨by simp [et];try omega,h3⟩];show some (List.take n (List.drop 0 _))=_;rw [List.drop_zero,bW]
theorem QR{x n:Nat}(aR:n≤24):ko (bY.D env) 154 (aa.ptr (some ⟨x,0,0,0,24⟩)) none (some (aa.int .i64 (n:Nat))) none=some (aa.slice (some ⟨x,0,0,1,24⟩) n 24):=by have ac:(bY.D env 154).map (fun d=>d.kind)=some (.array 24 5):= ay;have a8:(bY.D env 5).map (fun d=>d.size)=some 1:= ay;obtain⟨kY,d1,aK⟩:=Option.map_eq_some_iff.1 ac;obtain⟨w7,d3,bt⟩:=Option.map_eq_some_iff.1 a8;simp only [ko,d1,aK,d3,bt,gY];rw [if_neg aM,if_pos ⟨ab,ab⟩];simp
theorem QS{H:J}{j n:Nat}{v:aa}{bs:Bytes}(g:eP H j v bs)(ax:bs.length<2^32)(aR:n<10000000) :
 ∃br aQ gB,bS 73 [v,.int .i64 (n:Nat),.int .i64 10] H br aQ∧eP aQ gB br (bs++Lib.decDigits n)∧(gB=j∨H.U≤gB)∧H.U≤aQ.U∧∀i,i<H.U→i≠j→aQ.get i=H.get i:=by
 have fb:∀{a b:Nat}{p:Prop},a≤b→p→_root_.cond (Nat.ble a b) p False:=fun h k=>by rw [Nat.ble_eq.mpr h];exact k
 have aC:=QQ n aR;have bX:=Jh n;have t':(Lib.decDigits n).length≤7:=kH (k:=6) (by simpa using aR);have C3:=g.lt;obtain⟨b,rfl,_⟩:=g.ex;by_cases hs:n<100
 ·obtain⟨br,aQ,gB,aT,dp,a1,lQ,aF⟩:=(g.keep (aQ:=⟨H.U+28,H.aH⟩) rfl (by show H.U≤H.U+28;omega)).hk (nid:=H.U+26) (x:= .str (Lib.decDigits n)) (by rfl) bX ab (by show H.U+26<H.U+28;omega);have lQ:aQ.U=H.U+28:=lQ
  obtain⟨v,ag,aE,rfl,rfl⟩:=QP H aQ H H H j b.ad bs.length n 0 0 (Lib.decDigits n) br (.undef) (fun v ag=>v=br∧ag=aQ)
   (aY (Nat.le_refl _) (aY ab (aY ab (aY ab ⟨ab,aY ab ⟨rfl,aY ab (aY ab (aY ab (aY ab ⟨fun _=>aY ab ⟨ab,⟨ac7 hs _⟩,(zj _ _ _ _).trans aT,fb ab (fb ab (fb ab ⟨rfl,rfl⟩))⟩,fun h=>absurd ab h⟩)))⟩⟩))))
  refine⟨_,_,gB,aE,dp,?_,ab,fun i aq iC=>aF i iC ab⟩;rcases a1 with h|h
  ·exact .inl h
  ·exact .inr ab
 ·
   have ahT:=adg (u:=n) ab aR
   obtain⟨H2,Jt,mu,ib,jH⟩:∃H2,(∀F,bN env dF (H.U+22) (bD F) ⟨H.U+23,H.aH⟩ (Op.alloc 154)=some (.ptr (some ⟨H.U+22,0,0,0,24⟩),H2))∧H2.get (H.U+22)=some kI∧(∀i,i<H.U→H2.get i=H.get i)∧H2.U=H.U+23 :=
    ⟨(⟨H.U+23,H.aH⟩:J).set (H.U+22) kI,fun F=> ay,J.gE _ _ _,fun i aq=>J.fg _ _ ab,rfl⟩
   obtain⟨aX,aZ,ou,iR,iO⟩:=ade (u:=n) (x:=H.U+22) (H:=⟨H2.U+7,H2.aH⟩) ab aR mu (by show H.U+22<H2.U+7;omega);have iR:H2.U+7≤aX.U:=iR
   have adi:bS 120 [.int .u64 (n:Nat)] ⟨H2.U+3,H2.aH⟩ (.int .i64 (jV n:Nat)) ⟨H2.U+3,H2.aH⟩:=b1.Uz Mt (by
    simp only [Bf]
    rw [if_pos ⟨ab,ab⟩,Int.toNat_natCast])
   have g3:eP ⟨aX.U+5,aX.aH⟩ j (.slice (some ⟨j,b.ad,0,0,1⟩) bs.length bs.length) bs:=g.keep (by
    show aX.get j=H.get j;rw [iO j (by show j<H2.U+7;omega) ab]
    exact ib j C3) (by show H.U≤aX.U+5;omega)
   obtain⟨br,aQ,gB,aT,dp,a1,lQ,aF⟩:=g3.hk (nid:=aX.U+3) (x:= .slice (some ⟨H.U+22,0,0,1,24⟩) (jV n) 24) (adh (H:=⟨aX.U+5,aX.aH⟩) aR ou rfl ab ab) bX ab (by show aX.U+3<aX.U+5;omega);have lQ:aQ.U=aX.U+5:=lQ
   obtain⟨v,ag,aE,rfl,rfl⟩:=QP H H H2 aX aQ j b.ad bs.length n (jV n) (H.U+22) [] (.undef) br (fun v ag=>v=br∧ag=aQ)
    (aY (Nat.le_refl _) (aY ab (aY ab (aY ab ⟨ab,aY ab ⟨rfl,aY ab (aY ab (aY ab (aY ab ⟨fun h=>absurd h ab,fun _=>aY ab ⟨Jt _,aY ab ⟨⟨adi⟩,aY ab ⟨QR ab,⟨aZ⟩,aY ab ⟨QR ab,(C2 _ _ _ _).trans aT,fb ab (fb ab (fb ab ⟨rfl,rfl⟩))⟩⟩⟩⟩⟩)))⟩⟩))))
   refine⟨_,_,gB,aE,dp,?_,ab,fun i aq iC=> ?_⟩
   ·rcases a1 with h|h
    ·exact .inl h
    ·exact .inr ab
   ·rw [aF i iC ab];show aX.get i=_;rw [iO i (by show i<H2.U+7;omega) ab];exact ib i aq
abbrev j9(y:Nat):aa:=aa.slice (cm y) 2 2
theorem QT(H H1 H2:J)(y:Nat)(es:Bytes)(v1:aa)(ae:bI)(aW:bd (H.U) (H.U) (bd (H.U) (H.U+1) (bN env dF (H.U+1) (bD [(4,.slice none 0 0),(0,.str es),(1,.slice none 0 0)]) (J.mk (H.U+4) (H.2)) (Op.buildSlice 34 2 {toList:=[(0,Operand.const (Value.int .u8 (27))),(1,Operand.const (Value.int .u8 (91)))]})=some ((j9 y),H1)∧e7 env (H.U+2) (bD [(8,(j9 y)),(4,.slice none 0 0),(0,.str es),(1,.slice none 0 0)]) H1 (Op.convert 34 34 (Operand.tmp 8))=some ((j9 y),H1)∧bd (H.U) (H1.U) (bd (H.U) (H1.U+3) (bd (H.U) (H1.U+4) (hC env Builtin.append {toList:=[34,9]} [(j9 y),.str es] (H1.U+6) (J.mk (H1.U+8) (H1.2))=some (v1,H2)∧bC (H.U) (H2.U) (ae v1 H2))))))) :
 b4 44 [.str es,.slice none 0 0] H ae :=
 b9 gC (.az (.act 1000 ((j9 y)) fun x=>H1) (.az (.mm 1001 ((j9 y)) fun h=>h) (.az (.rounds 300) (.az (.act 9002 v1 fun x=>H2) .nil)))) aW
theorem Ju(H H1 H2 aX:J)(B q lZ y n c i:Nat)(x:Int)(es:Bytes)(bv v1 v2:aa)(ae:cW→bJ→J→Prop)(aW:bd B (H.U) (((i:Int)<(n:Int)→bd B (H.U+1) ((0≤(i:Int)∧(i:Int)<(n:Int))∧bM env.D 3 ⟨q,lZ,0+Int.toNat (i:Int),0,1⟩ (J.mk (H.U+6) (H.2))=some (.int .i64 x)∧bd B (H.U+6) ((0<(i:Int)→bd B (H.U+8) (bN env dF (H.U+9) (bD [(19,bv),(18,.bool true),(17,.int .i64 (i:Int)),(7,.int .i64 x),(6,.int .i64 (i:Int)),(16,.int .i64 x),(15,.ptr (some ⟨q,lZ,0+Int.toNat (i:Int),0,1⟩)),(14,.int .i64 (i:Int)),(13,.bool true),(0,.str es),(5,bv),(10,.slice (some ⟨q,lZ,0,0,1⟩) n c),(11,.int .i64 (n:Int)),(12,.int .i64 (i:Int))]) (J.mk (H.U+12) (H.2)) (Op.buildSlice 34 1 {toList:=[(0,Operand.const (Value.int .u8 (59)))]})=some (aa.slice (cm y) 1 1,H1)∧hC env Builtin.append {toList:=[34,34]} [bv,.slice (cm y) 1 1] (H.U+10) H1=some (v1,H2)∧bd B (H2.U) (ca 73 [v1,.int .i64 x,.int .i64 10] (J.mk (H2.U+4) (H2.2)) v2 aX∧bd B (aX.U) ((-9223372036854775808≤(i:Int)+1∧(i:Int)+1≤9223372036854775807)∧ae .normal [(0,.str es),(5,v2),(10,.slice (some ⟨q,lZ,0,0,1⟩) n c),(11,.int .i64 (n:Int)),(12,.int .i64 ((i:Int)+1))] (J.mk (aX.U+2) (J.aH aX))))))∧(¬0<(i:Int)→bd B (H.U+8) (ca 73 [bv,.int .i64 x,.int .i64 10] (J.mk (H.U+12) (H.2)) v2 aX∧bd B (aX.U) ((-9223372036854775808≤(i:Int)+1∧(i:Int)+1≤9223372036854775807)∧ae .normal [(0,.str es),(5,v2),(10,.slice (some ⟨q,lZ,0,0,1⟩) n c),(11,.int .i64 (n:Int)),(12,.int .i64 ((i:Int)+1))] (J.mk (aX.U+2) (J.aH aX))))))))∧(¬(i:Int)<(n:Int)→ae (.exit 0) [(0,.str es),(5,bv),(10,.slice (some ⟨q,lZ,0,0,1⟩) n c),(11,.int .i64 (n:Int)),(12,.int .i64 (i:Int))] (J.mk (H.U+1) (J.aH H))))) :
 ∃e aU ac,dc B 29 (cs 44 0) [(0,.str es),(5,bv),(10,.slice (some ⟨q,lZ,0,0,1⟩) n c),(11,.int .i64 n),(12,.int .i64 i)] H e aU ac∧ae e aU ac :=
 fP eN mixed gC (hs:= .aI 3000 (ak 4001 (.az (.val 4002 (.int .i64 x)) (.aI 5001 (.az (.act 6001 (.slice (cm y) 1 1) fun x=>H1) (.az (.act 6002 v1 fun x=>H2) (.az (.act 7002 v2 fun x=>aX) (ak 8000 .nil)))) (.az (.act 7002 v2 fun x=>aX) (ak 8000 .nil))))) .nil) (keep:=[0,5,10,11,12]) ay aW
theorem adj(H H1 H2 aX:J)(y q lZ n c:Nat)(es:Bytes)(bv v1 gm:aa)(ae:bI)(aW:bd (H.U) (H.U) (bd (H.U) (H.U+1) (bN env dF (H.U+1) (bD [(4,.slice none 0 0),(0,.str es),(1,.slice (some ⟨q,lZ,0,0,1⟩) n c)]) (J.mk (H.U+4) (H.2)) (Op.buildSlice 34 2 {toList:=[(0,Operand.const (Value.int .u8 (27))),(1,Operand.const (Value.int .u8 (91)))]})=some ((j9 y),H1)∧e7 env (H.U+2) (bD [(8,(j9 y)),(4,.slice none 0 0),(0,.str es),(1,.slice (some ⟨q,lZ,0,0,1⟩) n c)]) H1 (Op.convert 34 34 (Operand.tmp 8))=some ((j9 y),H1)∧bd (H.U) (H1.U) (dc (H.U) 29 (Code.loop (cs 44 0)) [(0,.str es),(5,(j9 y)),(10,.slice (some ⟨q,lZ,0,0,1⟩) n c),(11,.int .i64 (n:Int)),(12,.int .i64 0)] (J.mk (H1.U+3) (J.aH H1)) (.exit 0) [(0,.str es),(5,bv),(10,.slice (some ⟨q,lZ,0,0,1⟩) n c),(11,.int .i64 (n:Int)),(12,gm)] H2∧bd (H.U) (H2.U) (hC env Builtin.append {toList:=[34,9]} [bv,.str es] (H2.U+2) (J.mk (H2.U+4) (H2.2))=some (v1,aX)∧bC (H.U) (aX.U) (ae v1 aX)))))) :
 b4 44 [.str es,.slice (some ⟨q,lZ,0,0,1⟩) n c] H ae :=
 b9 gC (.az (.act 1000 ((j9 y)) fun x=>H1) (.az (.mm 1001 ((j9 y)) fun h=>h) (.az (.keep [0,5,10,11,12]) (.az (.loop [(0,.str es),(5,bv),(10,.slice (some ⟨q,lZ,0,0,1⟩) n c),(11,.int .i64 (n:Int)),(12,gm)] H2 (.exit 0)) (.az (.act 9002 v1 fun x=>aX) .nil))))) aW
end Go.Proofs.YtddnafghiejcoaaGreatDoor
