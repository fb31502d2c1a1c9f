/-
  Parts of the proof of KeysEach.
-/
import Derived.Lib.ItoaNum
import Derived.Test.YtddnafghiejcoaaGreatDoorKKeysEachE
set_option linter.unusedVariables false
set_option linter.unusedSimpArgs false
namespace Go.Proofs.YtddnafghiejcoaaGreatDoor
open Go.cM Go.Keys
set_option maxRecDepth 1000000
set_option maxHeartbeats 4000000
theorem Z7(x:Bytes)(n k:Nat):List.take n (List.drop k (aL x))=aL ((x.drop k).take n):=by simp [aL,List.map_drop,List.map_take]
theorem Z8(x:Bytes)(c:UInt8)(h:2≤x.length):strOf (List.take (Int.toNat (((x.length+1:Nat):Int)-1)-2) (List.drop 2 (List.append (aL x) [o.int .u8 c.toNat])))=x.drop 2:=by show strOf (List.take _ (List.drop 2 (aL x++_)))=_;rw [nj,Z7,iX,List.drop_append_of_le_length h,show Int.toNat (((x.length+1:Nat):Int)-1)-2=(x.drop 2).length by rw [List.length_drop];omega,List.take_append_of_le_length (Nat.le_refl _),List.take_length]
theorem Pf(x:Bytes)(h:x≠[]):(aL x)[0+Int.toNat ((x.length:Int)-1)]? =some (o.int .u8 (x.getLastD 0).toNat):=by
 have e:0+Int.toNat ((x.length:Int)-1)=x.length-1:=by omega
 rw [e]
 have:x[x.length-1]? =some (x.getLastD 0):=by rw [←List.getLast?_eq_getElem?,List.getLastD_eq_getLast?,List.getLast?_eq_some_getLast h];rfl
 unfold aL;rw [List.getElem?_map,this];rfl
theorem Z9(x:Bytes)(h:x≠[]):a' (aL x) (0+Int.toNat ((x.length:Int)-1))=(x.getLastD 0).toNat:=by unfold a';rw [Pf x h]
theorem Z'{D bk K P O:R}{h:j}{ah af:o}{aq aE:Option (TypeId×Nat)}{J m aG:Nat}{kept aB:Bytes}{es:List bj}{a7:cL}{bA bz bl bB:Int}{c:UInt8}(bI:Nat.ble 5 h.next=true)(ca:h.get 0=some (b2 0 (cK .sequence) 1 (.slice (some ⟨2,J,0,0,1⟩) kept.length kept.length) ah false af aq))(bn:h.get 1=some (cn [] bA bz bl bB aE))
 (bs:h.get 2=some (b3 (aL kept) 1 J m aG cI)) (b7:h.get 3=some P) (ct:h.get 4=some O) (gF:kept≠[]) (ac:ja (j.of [D,bk,K,P,O]) 0 a7.I ah aB) (ai:jb (j.of [D,bk,K,P,O]) 0 a7.ab af es) (cX:a7.u=1∧(a7.k=0∨a7.k=2)∧(a7.I=0∨a7.I=3)∧(a7.ab=0∨a7.ab=4)) (cB:a7.k=2)
 (cw:es.length<2^30-8) {cY:j→Prop} (dZ:∀aa aQ,cu aa 0 aQ (Keys.bad ⟨.sequence,kept,[],aB⟩ c).1 (es++(Keys.bad ⟨.sequence,kept,[],aB⟩ c).2)→Fr (j.of [D,bk,K,P,O]) aa 0 a7 aQ→cY aa) :
 dB (2^30-8) eE h ⟨0,0,0,0,6⟩ c.toNat∧∀aa,dC Keys.bad h ⟨0,0,0,0,6⟩ c.toNat aa→_root_.cond (Nat.ble 5 aa.next) (cY aa) False:=by
 have bI:=Nat.le_of_ble_eq_true bI;exact xF (s:=⟨.sequence,kept,[],aB⟩) rfl bI (A4 (bo:= .grown []) (iz rfl bI ca bn (.inr cB) b7 ct (n6 (by decide) rfl rfl bs) (by omega) ac ai cX (.inr (.inr ⟨rfl,cB⟩))) gF) cw (by simp) ⟨rfl,.inr rfl⟩ dZ
theorem Pg{D bk K P O:R}{h:j}{ah af:o}{aq aE:Option (TypeId×Nat)}{J m aG len:Nat}{l:List o}{kept aB:Bytes}{es:List bj}{a7:cL}{bA bz bl bB:Int}(bI:Nat.ble 5 h.next=true)(ca:h.get 0=some (b2 0 (cK .sequence) 1 (.slice (some ⟨2,J,0,0,1⟩) len len) ah false af aq))(bn:h.get 1=some (cn [] bA bz bl bB aE))
 (bs:h.get 2=some (b3 l 1 J m aG cI)) (b7:h.get 3=some P) (ct:h.get 4=some O) (hlen:len=kept.length) (hle:l=aL kept) (gF:kept≠[]) (ac:ja (j.of [D,bk,K,P,O]) 0 a7.I ah aB) (ai:jb (j.of [D,bk,K,P,O]) 0 a7.ab af es) (cX:a7.u=1∧(a7.k=0∨a7.k=2)∧(a7.I=0∨a7.I=3)∧(a7.ab=0∨a7.ab=4)) (cB:a7.k=2) :
 ∃aQ,cu h 0 aQ ⟨.sequence,kept,[],aB⟩ es∧Fr (j.of [D,bk,K,P,O]) h 0 a7 aQ:=by
 have bI:=Nat.le_of_ble_eq_true bI;exact pf (s:=⟨.sequence,kept,[],aB⟩) (bo:= .grown []) (iz rfl bI ca bn (.inr cB) b7 ct (n6 (by decide) hlen hle bs) (by omega) ac ai cX (.inr (.inr ⟨rfl,cB⟩))) gF
theorem aaa{kept aB:Bytes}{c:UInt8}(h:64≤c.toNat∧c.toNat≤126):Keys.sequence ⟨.sequence,kept,[],aB⟩ c=Keys.done ⟨.sequence,kept++[c],[],aB⟩ (kept.drop 2) c:=by simp only [Keys.sequence,if_pos h]
theorem aab{kept aB:Bytes}{c:UInt8}(h:¬(64≤c.toNat∧c.toNat≤126))(ad:c.toNat<32∨63<c.toNat∨48≤c.toNat∧(kept.getLastD 0).toNat<48):Keys.sequence ⟨.sequence,kept,[],aB⟩ c=Keys.bad ⟨.sequence,kept,[],aB⟩ c:=by simp only [Keys.sequence,if_neg h,if_pos ad]
theorem aac{kept aB:Bytes}{c:UInt8}(h:¬(64≤c.toNat∧c.toNat≤126))(ad:¬(c.toNat<32∨63<c.toNat∨48≤c.toNat∧(kept.getLastD 0).toNat<48))(bd:kept.length+1=64):Keys.sequence ⟨.sequence,kept,[],aB⟩ c=(⟨.ground,[],[],aB⟩,[gV (kept++[c])]):=by simp only [Keys.sequence,if_neg h,if_neg ad,if_pos bd,tell]
theorem aad{kept aB:Bytes}{c:UInt8}(h:¬(64≤c.toNat∧c.toNat≤126))(ad:¬(c.toNat<32∨63<c.toNat∨48≤c.toNat∧(kept.getLastD 0).toNat<48))(bd:kept.length+1≠64):Keys.sequence ⟨.sequence,kept,[],aB⟩ c=(⟨.sequence,kept++[c],[],aB⟩,[]):=by simp only [Keys.sequence,if_neg h,if_neg ad,if_neg bd]
set_option hygiene false in
def yl(s:bO)(c:UInt8):Prop:=s.cp=.sequence∧s.hold=[]∧2≤s.kept.length∧s.kept.length<64
theorem aae{H:j}{d:Nat}{aF:cL}{s:bO}{es:List bj}{c:UInt8}(g:cu H d aF s es)(cw:es.length<2^30-8)(dZ:yl s c):∃aP,aI Tryz.prog aw 87 [.ptr (some ⟨d,0,0,0,6⟩),.int .u8 c.toNat] H (.tuple []) aP ∧
 ∃aQ,cu aP d aQ (Keys.sequence s c).1 (es++(Keys.sequence s c).2)∧Fr H aP d aF aQ:=by
 refine tc ?_ g;intro bo aX ah af aq aE bA bz bl bB K P O a7 an gs cX;obtain⟨ap,ac,ai⟩:=ni gs;obtain⟨cp,kept,hold,aB⟩:=s;obtain⟨ad,p,qZ,aaf⟩:=dZ;simp only at p ad qZ aaf an gs ap ac ai⊢;subst p ad
 have mQ:bo=.grown []:=by
  cases bo with
  |grown C=>cases C with
   |nil=>rfl
   |cons a b=>exact an.elim
  |_=>exact an.elim
 subst mQ;have gF:kept≠[]:=an;obtain⟨kD,J,m,aG,rfl,dj⟩:=ap;have cB:a7.k=2:=by omega
 rw [cB,j.e3]at dj;simp only [List.getElem?_cons_zero,List.getElem?_cons_succ,Option.some.injEq,List.nil_append]at dj;subst dj;rw [cB]at ac ai⊢;simp only [List.length_nil]at ac ai⊢;simp only [show decide (mZ.sequence=mZ.cW)=false from rfl]at ac ai⊢;have zG:=c.toNat_lt;have hL:=n' kept;have jI:=Ba kept c;have af7:=Pf kept gF;generalize ds:j.of [b2 0 (cK .sequence) 1 (.slice (some ⟨2,J,0,0,1⟩) kept.length kept.length) ah false af aq,cn [] bA bz bl bB aE,b3 (aL kept) 1 J m aG cI,P,O]=L at ac ai⊢
 suffices bW:∃v aa,aI Tryz.prog aw 87 [.ptr (some ⟨0,0,0,0,6⟩),.int .u8 c.toNat] L v aa ∧
  (v=.tuple []∧∃aQ,cu aa 0 aQ (Keys.sequence ⟨.sequence,kept,[],aB⟩ c).1 (es++(Keys.sequence ⟨.sequence,kept,[],aB⟩ c).2)∧Fr L aa 0 a7 aQ)by
  obtain⟨v,aa,aC,rfl,q⟩:=bW;exact⟨aa,aC,q⟩
 have pk:∀{h:j},¬(64≤c.toNat∧c.toNat≤126)→ ¬(c.toNat<32∨63<c.toNat∨48≤c.toNat∧(kept.getLastD 0).toNat<48)→kept.length+1≠64→Nat.ble 5 h.next=true→h.get 0=some (b2 0 (cK .sequence) 1 (.slice (some ⟨2,J+1,0,0,1⟩) (kept.length+1) (kept.length+1)) ah false af aq)→h.get 1=some (cn [] bA bz bl bB aE)→h.get 2=some (b3 (aL kept++[.int .u8 c.toNat]) 1 (J+1) m (if m=J then(aL kept).length else min aG (aL kept).length) cI)→h.get 3=some P→h.get 4=some O →
  True∧∃aQ,cu h 0 aQ (Keys.sequence ⟨.sequence,kept,[],aB⟩ c).1 (es++(Keys.sequence ⟨.sequence,kept,[],aB⟩ c).2)∧Fr L h 0 a7 aQ:=by
  intro h ao a2 a3 bI ca bn bs b7 ct;rw [aad ao a2 a3,List.append_nil];subst ds;exact⟨trivial,Pg (kept:=kept++[c]) bI ca bn bs b7 ct (by simp) (nj _ _) (by simp) ac ai cX cB⟩
 have b':∀{h:j},(64≤c.toNat∧c.toNat≤126)→Nat.ble 5 h.next=true→h.get 0=some (b2 0 (cK .sequence) 1 (.slice (some ⟨2,J+1,0,0,1⟩) (kept.length+1) (kept.length+1)) ah false af aq)→h.get 1=some (cn [] bA bz bl bB aE)→h.get 2=some (b3 (aL kept++[.int .u8 c.toNat]) 1 (J+1) m (if m=J then(aL kept).length else min aG (aL kept).length) cI)→h.get 3=some P→h.get 4=some O →
  HJ (2^30) h ⟨0,0,0,0,6⟩ (kept.drop 2) c.toNat∧∀aa,HK h ⟨0,0,0,0,6⟩ (kept.drop 2) c.toNat aa→_root_.cond (Nat.ble 5 aa.next) (True∧∃aQ,cu aa 0 aQ (Keys.sequence ⟨.sequence,kept,[],aB⟩ c).1 (es++(Keys.sequence ⟨.sequence,kept,[],aB⟩ c).2)∧Fr L aa 0 a7 aQ) False:=by
  intro h ao bI ca bn bs b7 ct;rw [aaa ao];subst ds;obtain⟨n4,g1,lP⟩:=Pg (kept:=kept++[c]) bI ca bn bs b7 ct (by simp) (nj _ _) (by simp) ac ai cX cB;have bI:=Nat.le_of_ble_eq_true bI;refine⟨⟨rfl,⟨n4,_,es,g1,by omega,rfl,rfl⟩,by omega,by rw [List.length_drop];omega⟩,fun aa t=> ?_⟩;have aS:=t.next
  obtain⟨aQ,dv,gh⟩:=t.all n4 _ es g1 (by simp);rw [u5]at dv;exact rK (by omega) ⟨trivial,aQ,dv,lP.trans gh⟩
 have cE:∀{h:j},¬(64≤c.toNat∧c.toNat≤126)→(c.toNat<32∨63<c.toNat∨48≤c.toNat∧(kept.getLastD 0).toNat<48)→Nat.ble 5 h.next=true→h.get 0=some (b2 0 (cK .sequence) 1 (.slice (some ⟨2,J,0,0,1⟩) kept.length kept.length) ah false af aq)→h.get 1=some (cn [] bA bz bl bB aE)→h.get 2=some (b3 (aL kept) 1 J m aG cI)→h.get 3=some P→h.get 4=some O →
  dB (2^30-8) eE h ⟨0,0,0,0,6⟩ c.toNat∧∀aa,dC Keys.bad h ⟨0,0,0,0,6⟩ c.toNat aa→_root_.cond (Nat.ble 5 aa.next) (True∧∃aQ,cu aa 0 aQ (Keys.sequence ⟨.sequence,kept,[],aB⟩ c).1 (es++(Keys.sequence ⟨.sequence,kept,[],aB⟩ c).2)∧Fr L aa 0 a7 aQ) False:=by
  intro h ao a2 bI ca bn bs b7 ct;rw [aab ao a2];subst ds;exact Z' bI ca bn bs b7 ct gF ac ai cX cB cw fun aa aQ g cU=>⟨trivial,aQ,g,cU⟩
 have lv:∀{h:j}{cS:o},¬(64≤c.toNat∧c.toNat≤126)→ ¬(c.toNat<32∨63<c.toNat∨48≤c.toNat∧(kept.getLastD 0).toNat<48)→kept.length+1=64→Nat.ble 5 h.next=true→h.get 0=some (b2 0 (cK .sequence) 1 (.slice (some ⟨2,J+1,0,0,1⟩) (kept.length+1) (kept.length+1)) ah false af aq)→h.get 1=some (cn [] bA bz bl bB aE)→h.get 2=some (b3 (aL kept++[.int .u8 c.toNat]) 1 (J+1) m (if m=J then(aL kept).length else min aG (aL kept).length) cI)→h.get 3=some P→h.get 4=some O→cS=cm (gV (kept++[c])) →
  cC h ⟨0,0,0,0,6⟩ cS∧∀aa,cD h ⟨0,0,0,0,6⟩ cS aa→_root_.cond (Nat.ble 5 aa.next) (True∧∃aQ,cu aa 0 aQ (Keys.sequence ⟨.sequence,kept,[],aB⟩ c).1 (es++(Keys.sequence ⟨.sequence,kept,[],aB⟩ c).2)∧Fr L aa 0 a7 aQ) False:=by
  intro h cS ao a2 a3 bI ca bn bs b7 ct he;rw [aac ao a2 a3];subst ds;exact te (kept:=kept++[c]) bI ca bn bs b7 ct (by simp) (nj _ _) ac ai cX cB he (by omega) (by simp) fun aa aQ g cU=>⟨trivial,aQ,g,cU⟩
 rw [←ds];rw [←ds]at pk b' cE lv;refine Z6 (cK .sequence) ah af aq (cn [] bA bz bl bB aE) P O (aL kept) J m aG kept.length c.toNat _ ?_
 delta yk dr hE xP xO eK eg qw ef hD vc vb qv
 simp only [Bc,Z8 kept c qZ,Z9 kept gF]
 repeat' (first
  |exact True.intro
  |assumption
  |exact pk (by omega) (by omega) (by omega) (by kernel_rfl) (by kernel_rfl) (by kernel_rfl) (by kernel_rfl) (by kernel_rfl) (by kernel_rfl)
  |exact b' (by omega) (by kernel_rfl) (by kernel_rfl) (by kernel_rfl) (by kernel_rfl) (by kernel_rfl) (by kernel_rfl)
  |exact cE (by omega) (by omega) (by kernel_rfl) (by kernel_rfl) (by kernel_rfl) (by kernel_rfl) (by kernel_rfl) (by kernel_rfl)
  |exact lv (by omega) (by omega) (by omega) (by kernel_rfl) (by kernel_rfl) (by kernel_rfl) (by kernel_rfl) (by kernel_rfl) (by kernel_rfl) rfl
  |(exfalso;omega)
  |intro _
  |refine And.intro ?_ ?_
  |rfl
  |omega
  |exact pj _ _ _
  |exact A' _ _ _ _)
theorem aag:∀args h a,jY (2^30-8) yl Keys.sequence args h=some a→a.dw Tryz.prog aw 87 args h:=rJ fun H d aF s es c g cw az dZ=>aae g cw dZ
def Ph:List o→j→Option eC:=kA fun a=>match a with | [.str s,.str I]=>some (.bool (I.isPrefixOf s),[])|_=>none
theorem aah:∀args h a,Ph args h=some a→a.dw Tryz.prog aw 146 args h:=by
 refine lE ?_;intro args v e5 e ac H;split at e<;>first|(cases e;done)|skip
 simp only [Option.some.injEq,Prod.mk.injEq]at e;obtain⟨rfl,rfl⟩:=e;exact Yg _ _ H
noncomputable def aai:fc:=A2.add 146 Ph
theorem rT:eW Tryz.prog aw aai:=xn.add aah
abbrev jd(aX:Nat)(cV:Nat)(cZ:Nat)(dN:List o):R:=⟨dN,1,false,false,aX,cV,cZ,some (5,0)⟩
abbrev BR(f:Nat)(off:Nat)(aX:Nat)(n:Nat)(af:o)(ax:Option (TypeId×Nat)):R:=⟨[.agg [(eK f),.slice (some ⟨2,aX,off,0,1⟩) n n,.slice none 0 0,.bool true,.ptr (some ⟨1,0,0,0,5⟩),af]],6,true,false,0,0,0,ax⟩
theorem Pj(f off aX cV cZ n:Nat)(dN:List o)(af:o)(bk P O:R)(ax:Option (TypeId×Nat))(U:dc→bP→j→Prop)(aY:(0<(n:Int)→aX=aX∧off+n≤List.length dN∧(∃l,List.take n (List.drop (bG.idx ⟨2,aX,off,0,1⟩) (R.bi (jd aX cV cZ dN)))=aL l)∧(List.isPrefixOf (strOf (List.take n (List.drop off dN))) (Array.toList #[27,91,50,48,49,126])=true→U (.exit 0) [(0,.ptr (some ⟨0,0,0,0,6⟩))] (j.ar 20 [(0,(BR f off aX n af ax)),(1,bk),(2,(jd aX cV cZ dN)),(3,P),(4,O)]))∧(List.isPrefixOf (strOf (List.take n (List.drop off dN))) (Array.toList #[27,91,50,48,49,126])=false→((0:Int)≤0∧0<(n:Int))∧aX=aX∧dN[off+0]? =some (.int .u8 (a' dN (off+0)))∧((0:Int)≤1∧1≤(n:Int)∧n≤n)∧U .normal [(0,.ptr (some ⟨0,0,0,0,6⟩))] (j.ar 51 [(0,⟨[.agg [(eK f),.slice (some ⟨2,aX,off+1,0,1⟩) (n-1) (n-1),.slice (some ⟨38,0,0,0,1⟩) 1 1,.bool true,.ptr (some ⟨1,0,0,0,5⟩),af]],6,true,false,0,0,0,ax⟩),(1,bk),(2,(jd aX cV cZ dN)),(3,P),(4,O),(37,R.made [.int .u8 (a' dN (off+0))] 1 true),(38,R.made [.int .u8 (a' dN (off+0))] 1 false (some (5,0)))])))∧(¬0<(n:Int)→U (.exit 0) [(0,.ptr (some ⟨0,0,0,0,6⟩))] (j.ar 20 [(0,(BR f off aX n af ax)),(1,bk),(2,(jd aX cV cZ dN)),(3,P),(4,O)]))) :
 ∃e aW p,cx Tryz.prog aw 5 80 (cF Tryz.prog 129 0) [(0,.ptr (some ⟨0,0,0,0,6⟩))] (j.rows 5 [(0,b2 0 f 1 (.slice (some ⟨2,aX,off,0,1⟩) n n) (.slice none 0 0) true af ax),(1,bk),(2,b3 dN 1 aX cV cZ cI),(3,P),(4,O)]) e aW p∧U e aW p :=
 gm bQ mixed rT (an:= .aK 1005 (ag 1011 (.aK 1012 .nil (ag 3009 (ag 3010 (ag 4005 .nil))))) .nil) (cs:=[0]) (by kernel_rfl) aY
abbrev mv(ah:Nat)(pm:Nat)(c':Nat)(pl:List o):R:=⟨pl,1,false,false,ah,pm,c',some (5,0)⟩
abbrev BS(f:Nat)(off:Nat)(aX:Nat)(n:Nat)(ah:Nat)(c6:Nat)(af:o)(ax:Option (TypeId×Nat)):R:=⟨[.agg [(eK f),.slice (some ⟨2,aX,off,0,1⟩) n n,.slice (some ⟨3,ah,0,0,1⟩) c6 c6,.bool true,.ptr (some ⟨1,0,0,0,5⟩),af]],6,true,false,0,0,0,ax⟩
theorem Pk(f off aX cV cZ n ah pm c' c6:Nat)(dN pl:List o)(af:o)(bk O:R)(ax:Option (TypeId×Nat))(U:dc→bP→j→Prop)(aY:(0<(n:Int)→aX=aX∧off+n≤List.length dN∧(∃l,List.take n (List.drop (bG.idx ⟨2,aX,off,0,1⟩) (R.bi (jd aX cV cZ dN)))=aL l)∧(List.isPrefixOf (strOf (List.take n (List.drop off dN))) (Array.toList #[27,91,50,48,49,126])=true→U (.exit 0) [(0,.ptr (some ⟨0,0,0,0,6⟩))] (j.ar 20 [(0,(BS f off aX n ah c6 af ax)),(1,bk),(2,(jd aX cV cZ dN)),(3,(mv ah pm c' pl)),(4,O)]))∧(List.isPrefixOf (strOf (List.take n (List.drop off dN))) (Array.toList #[27,91,50,48,49,126])=false→((c6:Int)<65536→((0:Int)≤0∧0<(n:Int))∧aX=aX∧dN[off+0]? =some (.int .u8 (a' dN (off+0)))∧(ah=ah∧0+c6=List.length pl∧c6<c6+1∧(c6+1+(c6+1)/4+512)*1≤281474976710656∧c6+1<4611686018427387904)∧((0:Int)≤1∧1≤(n:Int)∧n≤n)∧U .normal [(0,.ptr (some ⟨0,0,0,0,6⟩))] (j.ar 51 [(0,{bi:=[.agg [(eK f),.slice (some ⟨2,aX,off+1,0,1⟩) (n-1) (n-1),.slice (some {id:=3,J:=ah+1,idx:=0,bR:=0,es:=1}) (c6+1) (c6+1),.bool true,.ptr (some ⟨1,0,0,0,5⟩),af]],es:=6,exact:=true,ro:=false,J:=0,fX:=0,gQ:=0,aq:=ax}),(1,bk),(2,(jd aX cV cZ dN)),(3,⟨pl++[.int .u8 (a' dN (off+0))],1,false,false,ah+1,pm,if pm=ah then List.length pl else min c' (List.length pl),some (5,0)⟩),(4,O),(37,R.made [.int .u8 (a' dN (off+0))] 1 true)]))∧(¬(c6:Int)<65536→((0:Int)≤1∧1≤(n:Int)∧n≤n)∧U .normal [(0,.ptr (some ⟨0,0,0,0,6⟩))] (j.ar 35 [(0,⟨[.agg [(eK f),.slice (some ⟨2,aX,off+1,0,1⟩) (n-1) (n-1),.slice (some ⟨3,ah,0,0,1⟩) c6 c6,.bool true,.ptr (some ⟨1,0,0,0,5⟩),af]],6,true,false,0,0,0,ax⟩),(1,bk),(2,(jd aX cV cZ dN)),(3,(mv ah pm c' pl)),(4,O)]))))∧(¬0<(n:Int)→U (.exit 0) [(0,.ptr (some ⟨0,0,0,0,6⟩))] (j.ar 20 [(0,(BS f off aX n ah c6 af ax)),(1,bk),(2,(jd aX cV cZ dN)),(3,(mv ah pm c' pl)),(4,O)]))) :
 ∃e aW p,cx Tryz.prog aw 5 80 (cF Tryz.prog 129 0) [(0,.ptr (some ⟨0,0,0,0,6⟩))] (j.rows 5 [(0,b2 0 f 1 (.slice (some ⟨2,aX,off,0,1⟩) n n) (.slice (some ⟨3,ah,0,0,1⟩) c6 c6) true af ax),(1,bk),(2,b3 dN 1 aX cV cZ cI),(3,b3 pl 1 ah pm c' cI),(4,O)]) e aW p∧U e aW p :=
 gm bQ mixed rT (an:= .aK 1005 (ag 1011 (.aK 1012 .nil (.aK 2005 (ag 3009 (ag 3010 (ag 3012 (ag 4005 .nil)))) (ag 4005 .nil)))) .nil) (cs:=[0]) (by kernel_rfl) aY
abbrev BT(f:Nat)(off:Nat)(aX:Nat)(n:Nat)(ah:Nat)(c6:Nat)(af:o)(ax:Option (TypeId×Nat)):R:=⟨[.agg [(eK f),.slice (some ⟨2,aX,off,0,1⟩) n n,.slice (some ⟨30,ah,0,0,1⟩) c6 c6,.bool true,.ptr (some ⟨1,0,0,0,5⟩),af]],6,true,false,0,0,0,ax⟩
theorem Pl(f off aX cV cZ n ah pm c' c6:Nat)(dN pl:List o)(af:o)(bk P O:R)(ax:Option (TypeId×Nat))(U:dc→bP→j→Prop)(aY:(0<(n:Int)→aX=aX∧off+n≤List.length dN∧(∃l,List.take n (List.drop (bG.idx ⟨2,aX,off,0,1⟩) (R.bi (jd aX cV cZ dN)))=aL l)∧(List.isPrefixOf (strOf (List.take n (List.drop off dN))) (Array.toList #[27,91,50,48,49,126])=true→U (.exit 0) [(0,.ptr (some ⟨0,0,0,0,6⟩))] (j.ar 55 [(0,(BT f off aX n ah c6 af ax)),(1,bk),(2,(jd aX cV cZ dN)),(3,P),(4,O),(30,(mv ah pm c' pl))]))∧(List.isPrefixOf (strOf (List.take n (List.drop off dN))) (Array.toList #[27,91,50,48,49,126])=false→((c6:Int)<65536→((0:Int)≤0∧0<(n:Int))∧aX=aX∧dN[off+0]? =some (.int .u8 (a' dN (off+0)))∧(ah=ah∧0+c6=List.length pl∧c6<c6+1∧(c6+1+(c6+1)/4+512)*1≤281474976710656∧c6+1<4611686018427387904)∧((0:Int)≤1∧1≤(n:Int)∧n≤n)∧U .normal [(0,.ptr (some ⟨0,0,0,0,6⟩))] (j.ar 86 [(0,{bi:=[.agg [(eK f),.slice (some ⟨2,aX,off+1,0,1⟩) (n-1) (n-1),.slice (some {id:=30,J:=ah+1,idx:=0,bR:=0,es:=1}) (c6+1) (c6+1),.bool true,.ptr (some ⟨1,0,0,0,5⟩),af]],es:=6,exact:=true,ro:=false,J:=0,fX:=0,gQ:=0,aq:=ax}),(1,bk),(2,(jd aX cV cZ dN)),(3,P),(4,O),(30,⟨pl++[.int .u8 (a' dN (off+0))],1,false,false,ah+1,pm,if pm=ah then List.length pl else min c' (List.length pl),some (5,0)⟩),(72,R.made [.int .u8 (a' dN (off+0))] 1 true)]))∧(¬(c6:Int)<65536→((0:Int)≤1∧1≤(n:Int)∧n≤n)∧U .normal [(0,.ptr (some ⟨0,0,0,0,6⟩))] (j.ar 70 [(0,⟨[.agg [(eK f),.slice (some ⟨2,aX,off+1,0,1⟩) (n-1) (n-1),.slice (some ⟨30,ah,0,0,1⟩) c6 c6,.bool true,.ptr (some ⟨1,0,0,0,5⟩),af]],6,true,false,0,0,0,ax⟩),(1,bk),(2,(jd aX cV cZ dN)),(3,P),(4,O),(30,(mv ah pm c' pl))]))))∧(¬0<(n:Int)→U (.exit 0) [(0,.ptr (some ⟨0,0,0,0,6⟩))] (j.ar 55 [(0,(BT f off aX n ah c6 af ax)),(1,bk),(2,(jd aX cV cZ dN)),(3,P),(4,O),(30,(mv ah pm c' pl))]))) :
 ∃e aW p,cx Tryz.prog aw 5 80 (cF Tryz.prog 129 0) [(0,.ptr (some ⟨0,0,0,0,6⟩))] (j.rows 40 [(0,b2 0 f 1 (.slice (some ⟨2,aX,off,0,1⟩) n n) (.slice (some ⟨30,ah,0,0,1⟩) c6 c6) true af ax),(1,bk),(2,b3 dN 1 aX cV cZ cI),(3,P),(4,O),(30,b3 pl 1 ah pm c' cI)]) e aW p∧U e aW p :=
 gm bQ mixed rT (an:= .aK 1005 (ag 1011 (.aK 1012 .nil (.aK 2005 (ag 3009 (ag 3010 (ag 3012 (ag 4005 .nil)))) (ag 4005 .nil)))) .nil) (cs:=[0]) (by kernel_rfl) aY
abbrev ns(J:Nat)(aX:Nat)(cV:Nat)(cZ:Nat)(dN:List o):R:=⟨dN,1,false,false,aX,cV,cZ,some (5,0)⟩
abbrev HO:o:=o.agg [.int .i8 4,.int .i32 0,.int .u8 0,.int .i64 0,.int .i64 0,.str []]
abbrev qx(f:Nat)(J:Nat)(aX:Nat)(jz:Nat)(aO:Nat)(af:o)(ax:Option (TypeId×Nat)):R:=⟨[.agg [(eK f),.slice (some ⟨2,aX,jz,0,1⟩) aO aO,.slice none 0 0,.bool false,.ptr (some ⟨1,0,0,0,5⟩),af]],6,true,false,0,0,0,ax⟩
theorem aaj(f off J m aG n aX cV cZ jz aO:Nat)(l dN:List o)(c:Int)(lL af:o)(bk rU P O:R)(ax:Option (TypeId×Nat))(U:o→j→Prop)(aY:(J=J∧off+n=List.length l∧n<n+1∧(n+1+(n+1)/4+512)*1≤281474976710656∧n+1<4611686018427387904)∧cx Tryz.prog aw 5 80 (Code.loop (cF Tryz.prog 129 0)) [(0,.ptr (some ⟨0,0,0,0,6⟩))] (j.ar 16 [(0,{bi:=[.agg [(eK f),.slice (some {id:=2,J:=J+1,idx:=off,bR:=0,es:=1}) (n+1) (n+1),lL,.bool true,.ptr (some ⟨1,0,0,0,5⟩),af]],es:=6,exact:=true,ro:=false,J:=0,fX:=0,gQ:=0,aq:=ax}),(1,bk),(2,⟨l++[.int .u8 c],1,false,false,J+1,m,if m=J then List.length l else min aG (List.length l),some (5,0)⟩),(3,rU),(4,O),(11,R.made [.int .u8 c] 1 true)]) (.exit 0) [(0,.ptr (some ⟨0,0,0,0,6⟩))] (j.ar 40 [(0,b2 0 f 1 (.slice (some ⟨2,aX,jz,0,1⟩) aO aO) (.slice none 0 0) true af ax),(1,bk),(2,b3 dN 1 aX cV cZ cI),(3,P),(4,O)])∧((aO:Int)=6→cC (j.ar 64 [(0,(qx f J aX jz aO af ax)),(1,bk),(2,(ns J aX cV cZ dN)),(3,P),(4,O)]) ⟨0,0,0,0,6⟩ (HO)∧∀(ob:j),cD (j.ar 64 [(0,(qx f J aX jz aO af ax)),(1,bk),(2,(ns J aX cV cZ dN)),(3,P),(4,O)]) ⟨0,0,0,0,6⟩ (HO) ob→bK 5 (ob.next) (U (.tuple []) ob))∧(¬(aO:Int)=6→U (.tuple []) (j.ar 46 [(0,⟨[.agg [(eK f),.slice (some ⟨2,aX,jz,0,1⟩) aO aO,.slice none 0 0,.bool true,.ptr (some ⟨1,0,0,0,5⟩),af]],6,true,false,0,0,0,ax⟩),(1,bk),(2,(ns J aX cV cZ dN)),(3,P),(4,O)]))) :
 ∃v p,aI Tryz.prog aw 129 [.ptr (some ⟨0,0,0,0,6⟩),.int .u8 c] (j.of [b2 0 f 1 (.slice (some ⟨2,J,off,0,1⟩) n n) lL true af ax,bk,b3 l 1 J m aG cI,rU,O]) v p∧U v p :=
 cb bQ mixed rT (an:=ag 7 (.aA (.cs [0]) (.aA (.loop [(0,.ptr (some ⟨0,0,0,0,6⟩))] (j.ar 40 [(0,b2 0 f 1 (.slice (some ⟨2,aX,jz,0,1⟩) aO aO) (.slice none 0 0) true af ax),(1,bk),(2,b3 dN 1 aX cV cZ cI),(3,P),(4,O)]) (.exit 0)) (.aK 5005 .nil .nil)))) (by kernel_rfl) aY
abbrev pn(J:Nat)(ah:Nat)(pm:Nat)(c':Nat)(pl:List o):R:=⟨pl,1,false,false,ah,pm,c',some (5,0)⟩
abbrev vj(c6:Nat)(pl:List o):o:=o.agg [.int .i8 4,.int .i32 0,.int .u8 0,.int .i64 0,.int .i64 0,.str (strOf (List.take c6 pl))]
theorem aak(f off J m aG n aX cV cZ jz aO ah pm c' c6:Nat)(l dN pl:List o)(c:Int)(lL af:o)(bk rU O:R)(ax:Option (TypeId×Nat))(U:o→j→Prop)(aY:(J=J∧off+n=List.length l∧n<n+1∧(n+1+(n+1)/4+512)*1≤281474976710656∧n+1<4611686018427387904)∧cx Tryz.prog aw 5 80 (Code.loop (cF Tryz.prog 129 0)) [(0,.ptr (some ⟨0,0,0,0,6⟩))] (j.ar 16 [(0,{bi:=[.agg [(eK f),.slice (some {id:=2,J:=J+1,idx:=off,bR:=0,es:=1}) (n+1) (n+1),lL,.bool true,.ptr (some ⟨1,0,0,0,5⟩),af]],es:=6,exact:=true,ro:=false,J:=0,fX:=0,gQ:=0,aq:=ax}),(1,bk),(2,⟨l++[.int .u8 c],1,false,false,J+1,m,if m=J then List.length l else min aG (List.length l),some (5,0)⟩),(3,rU),(4,O),(11,R.made [.int .u8 c] 1 true)]) (.exit 0) [(0,.ptr (some ⟨0,0,0,0,6⟩))] (j.ar 40 [(0,b2 0 f 1 (.slice (some ⟨2,aX,jz,0,1⟩) aO aO) (.slice (some ⟨3,ah,0,0,1⟩) c6 c6) true af ax),(1,bk),(2,b3 dN 1 aX cV cZ cI),(3,b3 pl 1 ah pm c' cI),(4,O)])∧((aO:Int)=6→ah=ah∧0+c6≤List.length pl∧(∃l,List.take c6 (List.drop (bG.idx ⟨3,ah,0,0,1⟩) (R.bi (pn J ah pm c' pl)))=aL l)∧cC (j.ar 64 [(0,(qx f J aX jz aO af ax)),(1,bk),(2,(ns J aX cV cZ dN)),(3,(pn J ah pm c' pl)),(4,O)]) ⟨0,0,0,0,6⟩ ((vj c6 pl))∧∀(ob:j),cD (j.ar 64 [(0,(qx f J aX jz aO af ax)),(1,bk),(2,(ns J aX cV cZ dN)),(3,(pn J ah pm c' pl)),(4,O)]) ⟨0,0,0,0,6⟩ ((vj c6 pl)) ob→bK 5 (ob.next) (U (.tuple []) ob))∧(¬(aO:Int)=6→U (.tuple []) (j.ar 46 [(0,⟨[.agg [(eK f),.slice (some ⟨2,aX,jz,0,1⟩) aO aO,.slice (some ⟨3,ah,0,0,1⟩) c6 c6,.bool true,.ptr (some ⟨1,0,0,0,5⟩),af]],6,true,false,0,0,0,ax⟩),(1,bk),(2,(ns J aX cV cZ dN)),(3,(pn J ah pm c' pl)),(4,O)]))) :
 ∃v p,aI Tryz.prog aw 129 [.ptr (some ⟨0,0,0,0,6⟩),.int .u8 c] (j.of [b2 0 f 1 (.slice (some ⟨2,J,off,0,1⟩) n n) lL true af ax,bk,b3 l 1 J m aG cI,rU,O]) v p∧U v p :=
 cb bQ mixed rT (an:=ag 7 (.aA (.cs [0]) (.aA (.loop [(0,.ptr (some ⟨0,0,0,0,6⟩))] (j.ar 40 [(0,b2 0 f 1 (.slice (some ⟨2,aX,jz,0,1⟩) aO aO) (.slice (some ⟨3,ah,0,0,1⟩) c6 c6) true af ax),(1,bk),(2,b3 dN 1 aX cV cZ cI),(3,b3 pl 1 ah pm c' cI),(4,O)]) (.exit 0)) (.aK 5005 (ag 6004 .nil) .nil)))) (by kernel_rfl) aY
theorem aal(f off J m aG n aX cV cZ jz aO ah pm c' c6:Nat)(l dN pl:List o)(c:Int)(lL af:o)(bk rU P O:R)(ax:Option (TypeId×Nat))(U:o→j→Prop)(aY:(J=J∧off+n=List.length l∧n<n+1∧(n+1+(n+1)/4+512)*1≤281474976710656∧n+1<4611686018427387904)∧cx Tryz.prog aw 5 80 (Code.loop (cF Tryz.prog 129 0)) [(0,.ptr (some ⟨0,0,0,0,6⟩))] (j.ar 16 [(0,{bi:=[.agg [(eK f),.slice (some {id:=2,J:=J+1,idx:=off,bR:=0,es:=1}) (n+1) (n+1),lL,.bool true,.ptr (some ⟨1,0,0,0,5⟩),af]],es:=6,exact:=true,ro:=false,J:=0,fX:=0,gQ:=0,aq:=ax}),(1,bk),(2,⟨l++[.int .u8 c],1,false,false,J+1,m,if m=J then List.length l else min aG (List.length l),some (5,0)⟩),(3,rU),(4,O),(11,R.made [.int .u8 c] 1 true)]) (.exit 0) [(0,.ptr (some ⟨0,0,0,0,6⟩))] (j.ar 40 [(0,b2 0 f 1 (.slice (some ⟨2,aX,jz,0,1⟩) aO aO) (.slice (some ⟨30,ah,0,0,1⟩) c6 c6) true af ax),(1,bk),(2,b3 dN 1 aX cV cZ cI),(3,P),(4,O),(30,b3 pl 1 ah pm c' cI)])∧((aO:Int)=6→ah=ah∧0+c6≤List.length pl∧(∃l,List.take c6 (List.drop (bG.idx ⟨30,ah,0,0,1⟩) (R.bi (pn J ah pm c' pl)))=aL l)∧cC (j.ar 64 [(0,(qx f J aX jz aO af ax)),(1,bk),(2,(ns J aX cV cZ dN)),(3,P),(4,O),(30,(pn J ah pm c' pl))]) ⟨0,0,0,0,6⟩ ((vj c6 pl))∧∀(ob:j),cD (j.ar 64 [(0,(qx f J aX jz aO af ax)),(1,bk),(2,(ns J aX cV cZ dN)),(3,P),(4,O),(30,(pn J ah pm c' pl))]) ⟨0,0,0,0,6⟩ ((vj c6 pl)) ob→bK 5 (ob.next) (U (.tuple []) ob))∧(¬(aO:Int)=6→U (.tuple []) (j.ar 46 [(0,⟨[.agg [(eK f),.slice (some ⟨2,aX,jz,0,1⟩) aO aO,.slice (some ⟨30,ah,0,0,1⟩) c6 c6,.bool true,.ptr (some ⟨1,0,0,0,5⟩),af]],6,true,false,0,0,0,ax⟩),(1,bk),(2,(ns J aX cV cZ dN)),(3,P),(4,O),(30,(pn J ah pm c' pl))]))) :
 ∃v p,aI Tryz.prog aw 129 [.ptr (some ⟨0,0,0,0,6⟩),.int .u8 c] (j.of [b2 0 f 1 (.slice (some ⟨2,J,off,0,1⟩) n n) lL true af ax,bk,b3 l 1 J m aG cI,rU,O]) v p∧U v p :=
 cb bQ mixed rT (an:=ag 7 (.aA (.cs [0]) (.aA (.loop [(0,.ptr (some ⟨0,0,0,0,6⟩))] (j.ar 40 [(0,b2 0 f 1 (.slice (some ⟨2,aX,jz,0,1⟩) aO aO) (.slice (some ⟨30,ah,0,0,1⟩) c6 c6) true af ax),(1,bk),(2,b3 dN 1 aX cV cZ cI),(3,P),(4,O),(30,b3 pl 1 ah pm c' cI)]) (.exit 0)) (.aK 5005 (ag 6004 .nil) .nil)))) (by kernel_rfl) aY
theorem aam(f:Nat)(c:Int)(af:o)(bk K P O:R)(ax:Option (TypeId×Nat))(U:o→j→Prop)(aY:(List.isPrefixOf [UInt8.ofNat (Int.toNat c)] (Array.toList #[27,91,50,48,49,126])=true→U (.tuple []) (j.ar 37 [(0,⟨[.agg [(eK f),.slice (some ⟨12,0,0,0,1⟩) 1 1,.slice none 0 0,.bool true,.ptr (some ⟨1,0,0,0,5⟩),af]],6,true,false,0,0,0,ax⟩),(1,bk),(2,K),(3,P),(4,O),(11,R.made [.int .u8 c] 1 true),(12,R.made [.int .u8 c] 1 false (some (5,0)))]))∧(List.isPrefixOf [UInt8.ofNat (Int.toNat c)] (Array.toList #[27,91,50,48,49,126])=false→U (.tuple []) (j.ar 83 [(0,⟨[.agg [(eK f),.slice (some ⟨12,0,1,0,1⟩) 0 0,.slice (some ⟨49,0,0,0,1⟩) 1 1,.bool true,.ptr (some ⟨1,0,0,0,5⟩),af]],6,true,false,0,0,0,ax⟩),(1,bk),(2,K),(3,P),(4,O),(11,R.made [.int .u8 c] 1 true),(12,R.made [.int .u8 c] 1 false (some (5,0))),(48,R.made [.int .u8 c] 1 true),(49,R.made [.int .u8 c] 1 false (some (5,0)))]))) :
 ∃v p,aI Tryz.prog aw 129 [.ptr (some ⟨0,0,0,0,6⟩),.int .u8 c] (j.of [b2 0 f 1 (.slice none 0 0) (.slice none 0 0) true af ax,bk,K,P,O]) v p∧U v p :=
 cb bQ mixed rT (an:= .aA (.rounds 300) (.aK 1012 .nil .nil)) (by kernel_rfl) aY
theorem aan(f ah pm c' c6:Nat)(pl:List o)(c:Int)(af:o)(bk K O:R)(ax:Option (TypeId×Nat))(U:o→j→Prop)(aY:(List.isPrefixOf [UInt8.ofNat (Int.toNat c)] (Array.toList #[27,91,50,48,49,126])=true→U (.tuple []) (j.ar 37 [(0,⟨[.agg [(eK f),.slice (some ⟨12,0,0,0,1⟩) 1 1,.slice (some ⟨3,ah,0,0,1⟩) c6 c6,.bool true,.ptr (some ⟨1,0,0,0,5⟩),af]],6,true,false,0,0,0,ax⟩),(1,bk),(2,K),(3,(mv ah pm c' pl)),(4,O),(11,R.made [.int .u8 c] 1 true),(12,R.made [.int .u8 c] 1 false (some (5,0)))]))∧(List.isPrefixOf [UInt8.ofNat (Int.toNat c)] (Array.toList #[27,91,50,48,49,126])=false→((c6:Int)<65536→(ah=ah∧0+c6=List.length pl∧c6<c6+1∧(c6+1+(c6+1)/4+512)*1≤281474976710656∧c6+1<4611686018427387904)∧U (.tuple []) (j.ar 83 [(0,{bi:=[.agg [(eK f),.slice (some ⟨12,0,1,0,1⟩) 0 0,.slice (some {id:=3,J:=ah+1,idx:=0,bR:=0,es:=1}) (c6+1) (c6+1),.bool true,.ptr (some ⟨1,0,0,0,5⟩),af]],es:=6,exact:=true,ro:=false,J:=0,fX:=0,gQ:=0,aq:=ax}),(1,bk),(2,K),(3,⟨pl++[.int .u8 c],1,false,false,ah+1,pm,if pm=ah then List.length pl else min c' (List.length pl),some (5,0)⟩),(4,O),(11,R.made [.int .u8 c] 1 true),(12,R.made [.int .u8 c] 1 false (some (5,0))),(48,R.made [.int .u8 c] 1 true)]))∧(¬(c6:Int)<65536→U (.tuple []) (j.ar 67 [(0,⟨[.agg [(eK f),.slice (some ⟨12,0,1,0,1⟩) 0 0,.slice (some ⟨3,ah,0,0,1⟩) c6 c6,.bool true,.ptr (some ⟨1,0,0,0,5⟩),af]],6,true,false,0,0,0,ax⟩),(1,bk),(2,K),(3,(mv ah pm c' pl)),(4,O),(11,R.made [.int .u8 c] 1 true),(12,R.made [.int .u8 c] 1 false (some (5,0)))])))) :
 ∃v p,aI Tryz.prog aw 129 [.ptr (some ⟨0,0,0,0,6⟩),.int .u8 c] (j.of [b2 0 f 1 (.slice none 0 0) (.slice (some ⟨3,ah,0,0,1⟩) c6 c6) true af ax,bk,K,b3 pl 1 ah pm c' cI,O]) v p∧U v p :=
 cb bQ mixed rT (an:= .aA (.rounds 300) (.aK 1012 .nil (.aK 2005 (ag 3012 .nil) .nil))) (by kernel_rfl) aY
abbrev kE(f aX off n:Nat)(ah af:o)(ax:Option (TypeId×Nat)):R:=b2 0 f 1 (.slice (some ⟨2,aX,off,0,1⟩) n n) ah true af ax
abbrev gZ:bP:=[(0,.ptr (some ⟨0,0,0,0,6⟩))]
theorem HP{D:Nat→Prop}{f aX off n:Nat}{ah af:o}{ax:Option (TypeId×Nat)}(bm:D 0)(p:D 1)(ad:D 2)(ac:cA D ah)(ai:cA D af):∀e∈(kE f aX off n ah af ax).bi,cA D e:=by intro e he;rw [List.mem_singleton.1 he];simp only [cA,fw];exact⟨⟨⟨bm,trivial⟩,trivial⟩,ad,ac,trivial,p,ai,trivial⟩
theorem Pm{r:Nat→Nat}{f aX off n:Nat}{ah af:o}{ax:Option (TypeId×Nat)}(bm:r 0=0)(p:r 1=1)(ad:r 2=2)(ai:af.bc r=af):(kE f aX off n ah af ax).bc r=kE f aX off n (ah.bc r) af ax:=by simp [R.bc,R.made,o.bc,o.gK,bG.bc,bm,p,ad,ai]
def mw:Nat→Prop:=fun i=>i=0∨i=1∨i=2∨i=3∨i=4
theorem vk{X kept:Bytes}{off:Nat}(h:X.drop off=kept):List.take kept.length (List.drop off (aL X))=aL kept:=by
 have:List.drop off (aL X)=aL (X.drop off):=by simp [aL,List.map_drop]
 rw [this,h,←h1,List.take_length]
theorem BU{X r:Bytes}{b:UInt8}{off:Nat}(h:X.drop off=b::r):(aL X)[off]? =some (.int .u8 (b.toNat:Int)):=by
 have p:X[off]? =some b:=by have:=congrArg (fun l=>l[0]?) h;simpa [List.getElem?_drop]using this
 simp [aL,p]
theorem HQ{X r:Bytes}{b:UInt8}{off:Nat}(h:X.drop off=b::r):a' (aL X) off=(b.toNat:Int):=by unfold a';rw [BU h]
theorem HR{X r:Bytes}{b:UInt8}{off:Nat}(h:X.drop off=b::r):X.drop (off+1)=r:=by rw [←List.drop_drop,h];rfl
theorem ym{X k:Bytes}{off:Nat}(h:X.drop off=k)(ai:off≤X.length):off+k.length=X.length:=by rw [←h,List.length_drop];omega
theorem BV(I:Bytes)(b:UInt8):aL I++[o.int .u8 (b.toNat:Int)]=aL (I++[b]):=by simp [aL]
theorem yn(n:Nat)(I:Bytes):shift n [] I=([],I):=by cases n<;>rfl
theorem HS{K:List Nat}{af:o}(h:cA mw af)(dj:∀i,mw i→i∈K):cA (Go.cM.cL K) af:=cA.mono dj h
section
variable(f aX cV cZ:Nat)(X:Bytes)(bk P O:R)(af:o)(ax:Option (TypeId×Nat))
abbrev vl(off n ah pm c':Nat)(aB:Bytes):List (Nat×R):=[(0,kE f aX off n (.slice (some ⟨3,ah,0,0,1⟩) aB.length aB.length) af ax),(1,bk),(2,b3 (aL X) 1 aX cV cZ cI),(3,b3 (aL aB) 1 ah pm c' cI),(4,O)]
theorem HT{K:Nat}(dj:5≤K){h:j}{C off n ah pm c':Nat}{aB:Bytes}(aV:C=3)(iA:dl bk)(iK:dl P)(iB:dl O)(co:cA mw af)
 (ca:h.get 0=some (kE f aX off n (.slice (some ⟨C,ah,0,0,1⟩) aB.length aB.length) af ax)) (bn:h.get 1=some bk) (bs:h.get 2=some (b3 (aL X) 1 aX cV cZ cI)) (b7:h.get 3=h.get 3) (ct:h.get 4=some O) (j9:h.get C=some (b3 (aL aB) 1 ah pm c' cI)) :
 eV 5 80 gZ h gZ (j.rows K (vl f aX cV cZ X bk O af ax off n ah pm c' aB)):=by
 have aao:Nat.ble 5 C=true∨C=3:=by first|exact .inr aV|exact .inl (Nat.ble_eq.mpr aV)
 have bb:∀i,mw i→(fun k=>if k=3 then C else k) i=i:=by intro i ak;have:i=0∨i=1∨i=2∨i=3∨i=4:=ak;simp only;split<;>omega
 refine eV.move (K:=K) (l:=vl f aX cV cZ X bk O af ax off n ah pm c' aB) (fun k=>if k=3 then C else k) ?_ ?_ ?_ ?_ ?_ ?_ rfl ?_ ?_
 ·have aC:=Pm (r:=fun k=>if k=3 then C else k) (f:=f) (aX:=aX) (off:=off) (n:=n) (ah:= .slice (some ⟨3,ah,0,0,1⟩) aB.length aB.length) (ax:=ax) (by simp) (by simp) (by simp) (o.Av bb co);simp only [List.map_cons,List.map_nil,aC,iA.bc,iK.bc,iB.bc,(qd (lJ X) 1 aX cV cZ cI).bc,(qd (lJ aB) 1 ah pm c' cI).bc];simp [ca,bn,bs,b7,ct,j9,o.bc,bG.bc]
 ·simp [List.all_cons];omega
 ·simp;omega
 ·subst aV;rfl
 ·subst aV;rfl
 ·simp [o.bc,bG.bc]
 ·exact bZ.cons (by show(0:Nat)∈_;simp) bZ.nil
 ·exact bZ.cons (HP (by show(0:Nat)∈_;simp) (by show(1:Nat)∈_;simp) (by show(2:Nat)∈_;simp) (by show(3:Nat)∈_;simp) (HS co (by intro i ak;have:i=0∨i=1∨i=2∨i=3∨i=4:=ak;simp;omega))) (bZ.cons (fun e he=>(iA e he).e1 _) (bZ.cons (fun e he=>(lJ X e he).e1 _) (bZ.cons (fun e he=>(lJ aB e he).e1 _) (bZ.cons (fun e he=>(iB e he).e1 _) bZ.nil))))
theorem aap(iA:dl bk)(iK:dl P)(iB:dl O)(co:cA mw af):∀(de:Nat)(kept aB:Bytes)(off ah pm c':Nat),kept.length≤de→X.drop off=kept→off≤X.length→aB.length≤65536→ ∃im jA jB,
 cN Tryz.prog aw 5 80 (cF Tryz.prog 129 0) gZ (j.rows 5 (vl f aX cV cZ X bk O af ax off kept.length ah pm c' aB)) (.exit 0) gZ
  (j.rows 40 (vl f aX cV cZ X bk O af ax (X.length- (shift de kept aB).1.length) (shift de kept aB).1.length im jA jB (shift de kept aB).2)):=by
 intro de
 have fin:∀(de:Nat)(kept aB:Bytes)(off ah pm c':Nat),X.drop off=kept→off≤X.length→shift de kept aB=(kept,aB)→(kept≠[]→kept.isPrefixOf ea=true)→ ∃im jA jB,
  cN Tryz.prog aw 5 80 (cF Tryz.prog 129 0) gZ (j.rows 5 (vl f aX cV cZ X bk O af ax off kept.length ah pm c' aB)) (.exit 0) gZ
   (j.rows 40 (vl f aX cV cZ X bk O af ax (X.length- (shift de kept aB).1.length) (shift de kept aB).1.length im jA jB (shift de kept aB).2)):=by
  intro de kept aB off ah pm c' fJ ai an ac;have az:=ym fJ ai
  obtain⟨e,aW,p,bb,rfl,rfl,ca,bn,bs,b7,ct,j9⟩:=Pk f off aX cV cZ kept.length ah pm c' aB.length (aL X) (aL aB) af bk O ax (fun e aW p=>e=.exit 0∧aW=gZ∧p.get 0=some (kE f aX off kept.length (.slice (some ⟨3,ah,0,0,1⟩) aB.length aB.length) af ax)∧p.get 1=some bk∧p.get 2=some (b3 (aL X) 1 aX cV cZ cI)∧p.get 3=p.get 3∧p.get 4=some O∧p.get 3=some (b3 (aL aB) 1 ah pm c' cI)) (by
   delta mv jd BS eK
   rw [vk fJ,iX];refine⟨fun h=>⟨rfl,by rw [h1];omega,⟨kept,rfl⟩,fun _=>⟨rfl,rfl,rfl,rfl,rfl,rfl,rfl,rfl⟩,fun ad=> ?_⟩,fun _=>⟨rfl,rfl,rfl,rfl,rfl,rfl,rfl,rfl⟩⟩;have b1:kept≠[]:=by rintro rfl;simp at h
   have:=ac b1;rw [show Array.toList #[(27:UInt8),91,50,48,49,126]=ea from rfl,this]at ad
   cases ad)
  refine⟨ah,pm,c',?_⟩;rw [an];simp only;rw [show X.length-kept.length=off by omega];exact(cN.last (by simp) bb).post (HT f aX cV cZ X bk P O af ax (by decide) (by decide) iA iK iB co ca bn bs b7 ct j9)
 induction de with
 |zero =>
  intro kept aB off ah pm c' a8 fJ ai ac;have ap:kept=[]:=List.eq_nil_of_length_eq_zero (by omega);subst ap;exact fin 0 [] aB off ah pm c' fJ ai (yn _ _) (fun h=>absurd rfl h)
 |succ de ih =>
  intro kept aB off ah pm c' a8 fJ ai ac;cases kept with
  |nil=>exact fin (de+1) [] aB off ah pm c' fJ ai (yn _ _) (fun h=>absurd rfl h)
  |cons b r =>
   cases aD:(b::r).isPrefixOf ea with
   |true=>exact fin (de+1) (b::r) aB off ah pm c' fJ ai (by simp only [shift,aD,if_true]) (fun _=>aD)
   |false =>
    have az:=ym fJ ai;simp only [List.length_cons]at az a8;have hW:shift (de+1) (b::r) aB=shift de r (if aB.length<65536 then aB++[b]else aB):=by simp only [shift,aD];rfl
    rw [hW]
    obtain⟨e,aW,p,bb,rfl,rfl,j0,tm,tn,ca,bn,bs,b7,ct,j9⟩:=Pk f off aX cV cZ (b::r).length ah pm c' aB.length (aL X) (aL aB) af bk O ax (fun e aW p=>e=.normal∧aW=gZ∧∃j0 tm tn,p.get 0=some (kE f aX (off+1) r.length (.slice (some ⟨3,j0,0,0,1⟩) (if aB.length<65536 then aB++[b]else aB).length (if aB.length<65536 then aB++[b]else aB).length) af ax)∧p.get 1=some bk∧p.get 2=some (b3 (aL X) 1 aX cV cZ cI)∧p.get 3=p.get 3∧p.get 4=some O∧p.get 3=some (b3 (aL (if aB.length<65536 then aB++[b]else aB)) 1 j0 tm tn cI)) (by
     delta mv jd BS eK
     rw [vk fJ,iX,show off+0=off from rfl,HQ fJ,BU fJ];have oZ:=h1 aB;refine⟨fun h=>⟨rfl,by rw [h1];simp only [List.length_cons];omega,⟨b::r,rfl⟩,fun ad=> ?_,fun _=>⟨fun cQ=>⟨⟨by omega,h⟩,rfl,rfl,⟨rfl,by omega,by omega,by omega,by omega⟩,⟨by omega,by omega,Nat.le_refl _⟩,rfl,rfl,?_⟩,fun gr=>⟨⟨by omega,by omega,Nat.le_refl _⟩,rfl,rfl,?_⟩⟩⟩,fun h=>by simp only [List.length_cons]at h;omega⟩
     ·rw [show Array.toList #[(27:UInt8),91,50,48,49,126]=ea from rfl,aD]at ad;cases ad
     ·rw [if_pos (show aB.length<65536 by omega),←BV,List.length_append];exact⟨_,_,_,rfl,rfl,rfl,rfl,rfl,rfl⟩
     ·rw [if_neg (show ¬aB.length<65536 by omega)]
      exact⟨_,_,_,rfl,rfl,rfl,rfl,rfl,rfl⟩)
    have u3:(if aB.length<65536 then aB++[b]else aB).length≤65536:=by
     split
     ·rw [List.length_append];simp only [List.length_cons,List.length_nil];omega
     ·exact ac
    obtain⟨im,jA,jB,ds⟩:=ih r _ (off+1) j0 tm tn (by omega) (HR fJ) (by omega) u3;exact⟨im,jA,jB,cN.step (bb.post (HT f aX cV cZ X bk P O af ax (by decide) (by decide) iA iK iB co ca bn bs b7 ct j9)) ds⟩
abbrev z9(off n ah pm c':Nat)(aB:Bytes):List (Nat×R):=[(0,kE f aX off n (.slice (some ⟨30,ah,0,0,1⟩) aB.length aB.length) af ax),(1,bk),(2,b3 (aL X) 1 aX cV cZ cI),(3,P),(4,O),(30,b3 (aL aB) 1 ah pm c' cI)]
theorem HU{K:Nat}(dj:40≤K){h:j}{C off n ah pm c':Nat}{aB:Bytes}(aV:5≤C)(iA:dl bk)(iK:dl P)(iB:dl O)(co:cA mw af)
 (ca:h.get 0=some (kE f aX off n (.slice (some ⟨C,ah,0,0,1⟩) aB.length aB.length) af ax)) (bn:h.get 1=some bk) (bs:h.get 2=some (b3 (aL X) 1 aX cV cZ cI)) (b7:h.get 3=some P) (ct:h.get 4=some O) (j9:h.get C=some (b3 (aL aB) 1 ah pm c' cI)) :
 eV 5 80 gZ h gZ (j.rows K (z9 f aX cV cZ X bk P O af ax off n ah pm c' aB)):=by
 have aao:Nat.ble 5 C=true∨C=3:=by first|exact .inr aV|exact .inl (Nat.ble_eq.mpr aV)
 have bb:∀i,mw i→(fun k=>if k=30 then C else k) i=i:=by intro i ak;have:i=0∨i=1∨i=2∨i=3∨i=4:=ak;simp only;split<;>omega
 refine eV.move (K:=K) (l:=z9 f aX cV cZ X bk P O af ax off n ah pm c' aB) (fun k=>if k=30 then C else k) ?_ ?_ ?_ ?_ ?_ ?_ rfl ?_ ?_
 ·have aC:=Pm (r:=fun k=>if k=30 then C else k) (f:=f) (aX:=aX) (off:=off) (n:=n) (ah:= .slice (some ⟨30,ah,0,0,1⟩) aB.length aB.length) (ax:=ax) (by simp) (by simp) (by simp) (o.Av bb co);simp only [List.map_cons,List.map_nil,aC,iA.bc,iK.bc,iB.bc,(qd (lJ X) 1 aX cV cZ cI).bc,(qd (lJ aB) 1 ah pm c' cI).bc];simp [ca,bn,bs,b7,ct,j9,o.bc,bG.bc]
 ·simp [List.all_cons];omega
 ·simp;omega
 ·rfl
 ·simp [Nat.blt,aV]
 ·simp [o.bc,bG.bc]
 ·exact bZ.cons (by show(0:Nat)∈_;simp) bZ.nil
 ·exact bZ.cons (HP (by show(0:Nat)∈_;simp) (by show(1:Nat)∈_;simp) (by show(2:Nat)∈_;simp) (by show(30:Nat)∈_;simp) (HS co (by intro i ak;have:i=0∨i=1∨i=2∨i=3∨i=4:=ak;simp;omega))) (bZ.cons (fun e he=>(iA e he).e1 _) (bZ.cons (fun e he=>(lJ X e he).e1 _) (bZ.cons (fun e he=>(iK e he).e1 _) (bZ.cons (fun e he=>(iB e he).e1 _) (bZ.cons (fun e he=>(lJ aB e he).e1 _) bZ.nil)))))
theorem aaq(iA:dl bk)(iK:dl P)(iB:dl O)(co:cA mw af):∀(de:Nat)(kept aB:Bytes)(off ah pm c':Nat),kept.length≤de→X.drop off=kept→off≤X.length→aB.length≤65536→ ∃im jA jB,
 cN Tryz.prog aw 5 80 (cF Tryz.prog 129 0) gZ (j.rows 40 (z9 f aX cV cZ X bk P O af ax off kept.length ah pm c' aB)) (.exit 0) gZ
  (j.rows 40 (z9 f aX cV cZ X bk P O af ax (X.length- (shift de kept aB).1.length) (shift de kept aB).1.length im jA jB (shift de kept aB).2)):=by
 intro de
 have fin:∀(de:Nat)(kept aB:Bytes)(off ah pm c':Nat),X.drop off=kept→off≤X.length→shift de kept aB=(kept,aB)→(kept≠[]→kept.isPrefixOf ea=true)→ ∃im jA jB,
  cN Tryz.prog aw 5 80 (cF Tryz.prog 129 0) gZ (j.rows 40 (z9 f aX cV cZ X bk P O af ax off kept.length ah pm c' aB)) (.exit 0) gZ
   (j.rows 40 (z9 f aX cV cZ X bk P O af ax (X.length- (shift de kept aB).1.length) (shift de kept aB).1.length im jA jB (shift de kept aB).2)):=by
  intro de kept aB off ah pm c' fJ ai an ac;have az:=ym fJ ai
  obtain⟨e,aW,p,bb,rfl,rfl,ca,bn,bs,b7,ct,j9⟩:=Pl f off aX cV cZ kept.length ah pm c' aB.length (aL X) (aL aB) af bk P O ax (fun e aW p=>e=.exit 0∧aW=gZ∧p.get 0=some (kE f aX off kept.length (.slice (some ⟨30,ah,0,0,1⟩) aB.length aB.length) af ax)∧p.get 1=some bk∧p.get 2=some (b3 (aL X) 1 aX cV cZ cI)∧p.get 3=some P∧p.get 4=some O∧p.get 30=some (b3 (aL aB) 1 ah pm c' cI)) (by
   delta mv jd BT eK
   rw [vk fJ,iX];refine⟨fun h=>⟨rfl,by rw [h1];omega,⟨kept,rfl⟩,fun _=>⟨rfl,rfl,rfl,rfl,rfl,rfl,rfl,rfl⟩,fun ad=> ?_⟩,fun _=>⟨rfl,rfl,rfl,rfl,rfl,rfl,rfl,rfl⟩⟩;have b1:kept≠[]:=by rintro rfl;simp at h
   have:=ac b1;rw [show Array.toList #[(27:UInt8),91,50,48,49,126]=ea from rfl,this]at ad
   cases ad)
  refine⟨ah,pm,c',?_⟩;rw [an];simp only;rw [show X.length-kept.length=off by omega];exact(cN.last (by simp) bb).post (HU f aX cV cZ X bk P O af ax (by decide) (by decide) iA iK iB co ca bn bs b7 ct j9)
 induction de with
 |zero =>
  intro kept aB off ah pm c' a8 fJ ai ac;have ap:kept=[]:=List.eq_nil_of_length_eq_zero (by omega);subst ap;exact fin 0 [] aB off ah pm c' fJ ai (yn _ _) (fun h=>absurd rfl h)
 |succ de ih =>
  intro kept aB off ah pm c' a8 fJ ai ac;cases kept with
  |nil=>exact fin (de+1) [] aB off ah pm c' fJ ai (yn _ _) (fun h=>absurd rfl h)
  |cons b r =>
   cases aD:(b::r).isPrefixOf ea with
   |true=>exact fin (de+1) (b::r) aB off ah pm c' fJ ai (by simp only [shift,aD,if_true]) (fun _=>aD)
   |false =>
    have az:=ym fJ ai;simp only [List.length_cons]at az a8;have hW:shift (de+1) (b::r) aB=shift de r (if aB.length<65536 then aB++[b]else aB):=by simp only [shift,aD];rfl
    rw [hW]
    obtain⟨e,aW,p,bb,rfl,rfl,j0,tm,tn,ca,bn,bs,b7,ct,j9⟩:=Pl f off aX cV cZ (b::r).length ah pm c' aB.length (aL X) (aL aB) af bk P O ax (fun e aW p=>e=.normal∧aW=gZ∧∃j0 tm tn,p.get 0=some (kE f aX (off+1) r.length (.slice (some ⟨30,j0,0,0,1⟩) (if aB.length<65536 then aB++[b]else aB).length (if aB.length<65536 then aB++[b]else aB).length) af ax)∧p.get 1=some bk∧p.get 2=some (b3 (aL X) 1 aX cV cZ cI)∧p.get 3=some P∧p.get 4=some O∧p.get 30=some (b3 (aL (if aB.length<65536 then aB++[b]else aB)) 1 j0 tm tn cI)) (by
     delta mv jd BT eK
     rw [vk fJ,iX,show off+0=off from rfl,HQ fJ,BU fJ];have oZ:=h1 aB;refine⟨fun h=>⟨rfl,by rw [h1];simp only [List.length_cons];omega,⟨b::r,rfl⟩,fun ad=> ?_,fun _=>⟨fun cQ=>⟨⟨by omega,h⟩,rfl,rfl,⟨rfl,by omega,by omega,by omega,by omega⟩,⟨by omega,by omega,Nat.le_refl _⟩,rfl,rfl,?_⟩,fun gr=>⟨⟨by omega,by omega,Nat.le_refl _⟩,rfl,rfl,?_⟩⟩⟩,fun h=>by simp only [List.length_cons]at h;omega⟩
     ·rw [show Array.toList #[(27:UInt8),91,50,48,49,126]=ea from rfl,aD]at ad;cases ad
     ·rw [if_pos (show aB.length<65536 by omega),←BV,List.length_append];exact⟨_,_,_,rfl,rfl,rfl,rfl,rfl,rfl⟩
     ·rw [if_neg (show ¬aB.length<65536 by omega)]
      exact⟨_,_,_,rfl,rfl,rfl,rfl,rfl,rfl⟩)
    have u3:(if aB.length<65536 then aB++[b]else aB).length≤65536:=by
     split
     ·rw [List.length_append];simp only [List.length_cons,List.length_nil];omega
     ·exact ac
    obtain⟨im,jA,jB,ds⟩:=ih r _ (off+1) j0 tm tn (by omega) (HR fJ) (by omega) u3;exact⟨im,jA,jB,cN.step (bb.post (HU f aX cV cZ X bk P O af ax (by decide) (by decide) iA iK iB co ca bn bs b7 ct j9)) ds⟩
end
end Go.Proofs.YtddnafghiejcoaaGreatDoor
namespace Go.Keys
theorem Pn:∀(n:Nat)(k I:Bytes),∃t,k=t++(shift n k I).1
 |0,k,I=>⟨[],rfl⟩
 |n+1,[],I=>⟨[],rfl⟩
 |n +1,b::r,I=>by
  simp only [shift];split
  ·exact⟨[],rfl⟩
  ·obtain⟨t,bX⟩:=Pn n r (if I.length<65536 then I++[b]else I);exact⟨b::t,by rw [List.cons_append,←bX]⟩
theorem HV:∀(n:Nat)(k I:Bytes),I≠[]→(shift n k I).2≠[]
 |0,k,I,h=>h
 |n+1,[],I,h=>h
 |n +1,b::r,I,h=>by
  simp only [shift];split
  ·exact h
  ·refine HV n r _ ?_;split
   ·simp
   ·exact h
end Go.Keys
namespace Go.Proofs.YtddnafghiejcoaaGreatDoor
open Go.cM Go.Keys
set_option maxRecDepth 1000000
section
variable(f aX cV cZ:Nat)(X:Bytes)(bk P O:R)(af:o)(ax:Option (TypeId×Nat))
abbrev rV(off n:Nat):List (Nat×R):=[(0,kE f aX off n (.slice none 0 0) af ax),(1,bk),(2,b3 (aL X) 1 aX cV cZ cI),(3,P),(4,O)]
theorem Po{K:Nat}(dj:5≤K){h:j}{off n:Nat}(iA:dl bk)(iK:dl P)(iB:dl O)(co:cA mw af)
 (ca:h.get 0=some (kE f aX off n (.slice none 0 0) af ax)) (bn:h.get 1=some bk) (bs:h.get 2=some (b3 (aL X) 1 aX cV cZ cI)) (b7:h.get 3=some P) (ct:h.get 4=some O) :
 eV 5 80 gZ h gZ (j.rows K (rV f aX cV cZ X bk P O af ax off n)):=by
 refine eV.drop (K:=K) (l:=rV f aX cV cZ X bk P O af ax off n) (by simp [ca,bn,bs,b7,ct]) (by simp [List.all_cons];omega) rfl rfl (bZ.cons (by show(0:Nat)∈_;simp) bZ.nil) ?_;exact bZ.cons (HP (by show(0:Nat)∈_;simp) (by show(1:Nat)∈_;simp) (by show(2:Nat)∈_;simp) trivial (HS co (by intro i ak;have:i=0∨i=1∨i=2∨i=3∨i=4:=ak;simp;omega))) (bZ.cons (fun e he=>(iA e he).e1 _) (bZ.cons (fun e he=>(lJ X e he).e1 _) (bZ.cons (fun e he=>(iK e he).e1 _) (bZ.cons (fun e he=>(iB e he).e1 _) bZ.nil))))
theorem aar(iA:dl bk)(iK:dl P)(iB:dl O)(co:cA mw af)(de:Nat)(kept:Bytes)(off:Nat)(a8:kept.length≤de)(fJ:X.drop off=kept)(ai:off≤X.length) :
 ((shift de kept []).2=[]→cN Tryz.prog aw 5 80 (cF Tryz.prog 129 0) gZ (j.rows 5 (rV f aX cV cZ X bk P O af ax off kept.length)) (.exit 0) gZ (j.rows 40 (rV f aX cV cZ X bk P O af ax (X.length- (shift de kept []).1.length) (shift de kept []).1.length))) ∧
 ((shift de kept []).2≠[]→ ∃im jA jB,cN Tryz.prog aw 5 80 (cF Tryz.prog 129 0) gZ (j.rows 5 (rV f aX cV cZ X bk P O af ax off kept.length)) (.exit 0) gZ (j.rows 40 (z9 f aX cV cZ X bk P O af ax (X.length- (shift de kept []).1.length) (shift de kept []).1.length im jA jB (shift de kept []).2))):=by
 have az:=ym fJ ai
 have fin:shift de kept []=(kept,[])→(kept≠[]→kept.isPrefixOf ea=true)→cN Tryz.prog aw 5 80 (cF Tryz.prog 129 0) gZ (j.rows 5 (rV f aX cV cZ X bk P O af ax off kept.length)) (.exit 0) gZ (j.rows 40 (rV f aX cV cZ X bk P O af ax (X.length- (shift de kept []).1.length) (shift de kept []).1.length)):=by
  intro an ac
  obtain⟨e,aW,p,bb,rfl,rfl,ca,bn,bs,b7,ct⟩:=Pj f off aX cV cZ kept.length (aL X) af bk P O ax (fun e aW p=>e=.exit 0∧aW=gZ∧p.get 0=some (kE f aX off kept.length (.slice none 0 0) af ax)∧p.get 1=some bk∧p.get 2=some (b3 (aL X) 1 aX cV cZ cI)∧p.get 3=some P∧p.get 4=some O) (by
   delta jd BR eK
   rw [vk fJ,iX];refine⟨fun h=>⟨rfl,by rw [h1];omega,⟨kept,rfl⟩,fun _=>⟨rfl,rfl,rfl,rfl,rfl,rfl,rfl⟩,fun ad=> ?_⟩,fun _=>⟨rfl,rfl,rfl,rfl,rfl,rfl,rfl⟩⟩;have b1:kept≠[]:=by rintro rfl;simp at h
   have:=ac b1;rw [show Array.toList #[(27:UInt8),91,50,48,49,126]=ea from rfl,this]at ad
   cases ad)
  rw [an];simp only;rw [show X.length-kept.length=off by omega];exact(cN.last (by simp) bb).post (Po f aX cV cZ X bk P O af ax (by decide) iA iK iB co ca bn bs b7 ct)
 cases kept with
 |nil =>
  have an:shift de [] []=([],[]):=yn _ _;exact⟨fun _=>fin an (fun h=>absurd rfl h),fun h=>absurd (by rw [an]) h⟩
 |cons b r =>
  cases de with
  |zero=>simp at a8
  |succ de =>
   cases aD:(b::r).isPrefixOf ea with
   |true =>
    have an:shift (de+1) (b::r) []=(b::r,[]):=by simp only [shift,aD,if_true]
    exact⟨fun _=>fin an (fun _=>aD),fun h=>absurd (by rw [an]) h⟩
   |false =>
    have hW:shift (de+1) (b::r) []=shift de r [b]:=by simp only [shift,aD];rfl
    rw [hW];simp only [List.length_cons]at az a8;refine⟨fun h=>absurd h (HV _ _ _ (by simp)),fun _=> ?_⟩
    obtain⟨e,aW,p,bb,rfl,rfl,C,aV,ca,bn,bs,b7,ct,j9⟩:=Pj f off aX cV cZ (b::r).length (aL X) af bk P O ax (fun e aW p=>e=.normal∧aW=gZ∧∃C,5≤C∧p.get 0=some (kE f aX (off+1) r.length (.slice (some ⟨C,0,0,0,1⟩) ([b]:Bytes).length ([b]:Bytes).length) af ax)∧p.get 1=some bk∧p.get 2=some (b3 (aL X) 1 aX cV cZ cI)∧p.get 3=some P∧p.get 4=some O∧p.get C=some (b3 (aL [b]) 1 0 0 0 cI)) (by
     delta jd BR eK
     rw [vk fJ,iX,show off+0=off from rfl,HQ fJ,BU fJ];refine⟨fun h=>⟨rfl,by rw [h1];simp only [List.length_cons];omega,⟨b::r,rfl⟩,fun ad=> ?_,fun _=>⟨⟨by omega,h⟩,rfl,rfl,⟨by omega,by omega,Nat.le_refl _⟩,rfl,rfl,_,(by decide),rfl,rfl,rfl,rfl,rfl,rfl⟩⟩,fun h=>by simp only [List.length_cons]at h;omega⟩;rw [show Array.toList #[(27:UInt8),91,50,48,49,126]=ea from rfl,aD]at ad
     cases ad)
    obtain⟨im,jA,jB,ds⟩:=aaq f aX cV cZ X bk P O af ax iA iK iB co de r [b] (off+1) 0 0 0 (by omega) (HR fJ) (by omega) (by simp);exact⟨im,jA,jB,cN.step (bb.post (HU f aX cV cZ X bk P O af ax (by decide) aV iA iK iB co ca bn bs b7 ct j9)) ds⟩
end
theorem oc{h:j}{f:Nat}{aX ah af:o}{cr:Bool}{aq aE:Option (TypeId×Nat)}{hold kept aB:Bytes}{bA bz bl bB:Int}{D bk K P O:R}{bo:gg}{es:List bj}{a7:cL}{k I:Nat}(bI:Nat.ble 5 h.next=true)
 (ca:h.get 0=some (b2 0 f 1 aX ah cr af aq)) (bn:h.get 1=some (cn hold bA bz bl bB aE)) (bs:h.get 2=some K∨a7.k=2) (b7:h.get 3=some P∨a7.I=3) (ct:h.get 4=some O) (ap:i' h 0 k aX bo kept) (ac:ja h 0 I ah aB)
 (ai:jb (j.of [D,bk,K,P,O]) 0 a7.ab af es) (cX:a7.u=1∧(a7.k=0∨a7.k=2)∧(a7.I=0∨a7.I=3)∧(a7.ab=0∨a7.ab=4)) (HW:k=0∨(k=2∧a7.k=2)∨5≤k) (af8:I=0∨(I=3∧a7.I=3)∨5≤I) (b1:k=0∨I=0∨k≠I) (kU:Nat.blt k h.next=true) (Pp:Nat.blt I h.next=true) :
 dQ h 0 ⟨1,k,I,a7.ab⟩ f cr bo kept hold aB es∧Fr (j.of [D,bk,K,P,O]) h 0 a7 ⟨1,k,I,a7.ab⟩ where
 left:= {
  ex:=by
   refine⟨aX,ah,af,aq,ca,ap,ac,ai.cs fun aS=> ?_⟩;rcases cX.2.2.2 with h|h
   ·exact absurd h aS
   ·rw [h,ct,j.e3];rfl
  iq:=⟨bA,bz,bl,bB,aE,bn⟩
  lt:=by
   have:=cX.2.2.2;have bI:=Nat.le_of_ble_eq_true bI;have kU:=Nat.blt_eq.mp kU;have Pp:=Nat.blt_eq.mp Pp;show 0<h.next∧1<h.next∧k<h.next∧I<h.next∧a7.ab<h.next
   omega
  ne:=b1}
 right := {
  next:=Nat.le_of_ble_eq_true bI
  get :=fun C aV a6 aO ft ht ig=>by
   have aV:C<5:=aV;have:(C=2∧a7.k≠2)∨(C=3∧a7.I≠3)∨C=4:=by omega
   rw [j.e3];rcases this with ⟨rfl,ap⟩|⟨rfl,ap⟩|rfl
   ·rcases bs with e|e
    ·exact e
    ·exact absurd e ap
   ·rcases b7 with e|e
    ·exact e
    ·exact absurd e ap
   ·exact ct
  ids:=fun x ae=>by
   show x=0∨x=a7.u∨x=a7.k∨x=a7.I∨x=a7.ab∨5≤x;have ae:x=1∨x=k∨x=I∨x=a7.ab:=ae
   omega}
theorem yo(h:j):ja h 0 0 (.slice none 0 0) []:= .inl ⟨rfl,rfl,rfl⟩
theorem vm{h:j}{I J m f:Nat}{l:Bytes}{v:o}(ac:I≠0)(az:l≠[])(bg:v=.slice (some ⟨I,J,0,0,1⟩) l.length l.length)(e:h.get I=some (b3 (aL l) 1 J m f cI)):ja h 0 I v l :=
 .inr ⟨ac,az,J,m,f,bg,by simpa using e⟩
theorem od{h:j}{k J m f off n:Nat}{X dO l:Bytes}(ap:k≠0)(fJ:X=dO++l)(ai:off=dO.length)(aS:n=l.length)(e:h.get k=some (b3 (aL X) 1 J m f cI)):i' h 0 k (.slice (some ⟨k,J,off,0,1⟩) n n) (.grown dO) l:=by subst aS;subst ai;subst fJ;exact⟨ap,J,m,f,rfl,e⟩
theorem aas{kept aB:Bytes}{c:UInt8}{S:Bytes×Bytes}(cJ:shift (kept.length+1) (kept++[c]) aB=S):Keys.cW ⟨.cW,kept,[],aB⟩ c=if S.1.length=6 then(⟨.ground,[],[],[]⟩,[{kind:=4,text:=S.2}])else(⟨.cW,S.1,[],S.2⟩,[]):=by unfold Keys.cW;simp only [cJ];rfl
def yp(s:bO)(c:UInt8):Prop:=s.cp=.cW∧s.hold=[]∧s.kept.length<6∧s.aB.length≤65536
theorem aat{h:j}{ab:Nat}{af:o}{es:List bj}(p:jb h 0 ab af es)(ai:ab=0∨ab=4):cA mw af:=by
 rcases p with ⟨rfl,_⟩|⟨_,_,J,m,f,rfl,_⟩
 ·trivial
 ·show mw ab;unfold mw;omega
abbrev HX(L:j)(a7:cL)(es:List bj)(cY:bO×List bj)(v:o)(aa:j):Prop:=v=.tuple []∧∃aQ,cu aa 0 aQ cY.1 (es++cY.2)∧Fr L aa 0 a7 aQ
theorem Pq(a b c d e:R):j.rows 40 [(0,a),(1,b),(2,c),(3,d),(4,e)]=j.ar 40 [(0,a),(1,b),(2,c),(3,d),(4,e)]:=by kernel_rfl
theorem aau(a b c d e f:R):j.rows 40 [(0,a),(1,b),(2,c),(3,d),(4,e),(30,f)]=j.ar 40 [(0,a),(1,b),(2,c),(3,d),(4,e),(30,f)]:=by kernel_rfl
theorem rW{h L:j}{a7 aF:cL}{bo:gg}{k I:Bytes}{es:List bj}{cY:bO×List bj}(gi:dQ h 0 aF (cK .cW) true bo k [] I es∧Fr L h 0 a7 aF)(hW:qc .cW bo k)(dZ:cY=(⟨.cW,k,[],I⟩,[])):HX L a7 es cY (.tuple []) h:=by subst dZ;exact⟨rfl,aF,by rw [List.append_nil];exact⟨bo,gi.1,hW⟩,gi.2⟩
theorem HY{h L:j}{a7 aF:cL}{bo:gg}{k t:Bytes}{es:List bj}{cY:bO×List bj}{cS:o}(bI:Nat.ble 5 h.next=true)(gi:dQ h 0 aF (cK .cW) false bo k [] [] es∧Fr L h 0 a7 aF)(he:cS=cm {kind:=4,text:=t})(cw:es.length<2^30)(dZ:cY=(⟨.ground,[],[],[]⟩,[{kind:=4,text:=t}])) :
 cC h ⟨0,0,0,0,6⟩ cS∧∀aa,cD h ⟨0,0,0,0,6⟩ cS aa→_root_.cond (Nat.ble 5 aa.next) (HX L a7 es cY (.tuple []) aa) False:=by
 subst dZ;exact ta rfl (Nat.le_of_ble_eq_true bI) gi he cw (by simp) fun aa aQ g cU=>⟨rfl,aQ,xB g,cU⟩
theorem aav{H:j}{d:Nat}{aF:cL}{s:bO}{es:List bj}{c:UInt8}(g:cu H d aF s es)(cw:es.length<2^30-8)(dZ:yp s c):∃aP,aI Tryz.prog aw 129 [.ptr (some ⟨d,0,0,0,6⟩),.int .u8 c.toNat] H (.tuple []) aP ∧
 ∃aQ,cu aP d aQ (Keys.cW s c).1 (es++(Keys.cW s c).2)∧Fr H aP d aF aQ:=by
 obtain⟨bo,g,an⟩:=g;refine g.M4 (Q:=fun h d aF=>cu h d aF (Keys.cW s c).1 (es++(Keys.cW s c).2)) (fun a aT=>by rw [List.mem_singleton.1 aT];exact cR.int _ _) (cR.of rfl) (fun aa aP r d aF bb iw cQ q=>q.pc bb iw cQ) ?_;intro aX ah af aq aE bA bz bl bB K P O a7 gs cX af9 iK iB;obtain⟨ap,ac,ai⟩:=ni gs;obtain⟨cp,kept,hold,aB⟩:=s;obtain⟨p,ad,lm,qU⟩:=dZ;simp only at p ad lm qU an gs ap ac ai⊢;subst p ad;simp only [show decide (mZ.cW=mZ.cW)=true from rfl]at ac ai ap gs⊢;have co:=aat ai cX.2.2.2;have iA:dl (cn [] bA bz bl bB aE):=rF _ _ _ _ _ _;have zG:=c.toNat_lt;cases cJ:shift (kept.length+1) (kept++[c]) aB with
 |mk aM fv =>
 have nL:=aas cJ
 suffices bW:∃v aa,aI Tryz.prog aw 129 [.ptr (some ⟨0,0,0,0,6⟩),.int .u8 c.toNat] (j.of [b2 0 (cK .cW) 1 aX ah true af aq,cn [] bA bz bl bB aE,K,P,O]) v aa ∧
  HX (j.of [b2 0 (cK .cW) 1 aX ah true af aq,cn [] bA bz bl bB aE,K,P,O]) a7 es (Keys.cW ⟨.cW,kept,[],aB⟩ c) v aa by
  obtain⟨v,aa,aC,rfl,q⟩:=bW;exact⟨aa,aC,q⟩
 cases bo with
 |one=>exact an.elim
 |nil =>
  obtain⟨rfl,rfl,kD⟩:=ap;have bn:UInt8.ofNat (Int.toNat (c.toNat:Int))=c:=by simp
  have hW:shift 1 [c] aB=if [c].isPrefixOf ea then([c],aB)else([],if aB.length<65536 then aB++[c]else aB):=by simp only [shift]
  have cJ:shift 1 [c] aB=(aM,fv):=cJ;rw [hW]at cJ;have pre: [c].isPrefixOf ea=true→aM=[c]∧fv=aB:=fun aD=>by rw [aD]at cJ;simpa [eq_comm]using cJ
  have HZ: [c].isPrefixOf ea=false→aM=[]∧fv=if aB.length<65536 then aB++[c]else aB:=fun aD=>by rw [aD]at cJ;simpa [eq_comm]using cJ
  rcases ac with ⟨rfl,rfl,yq⟩|⟨yq,BW,yr⟩
  ·refine aam (cK .cW) c.toNat af (cn [] bA bz bl bB aE) K P O aq _ ?_
   delta eK
   rw [bn,show Array.toList #[(27:UInt8),91,50,48,49,126]=ea from rfl];refine⟨fun aD=> ?_,fun aD=> ?_⟩
   ·obtain⟨rfl,rfl⟩:=pre aD;exact rW (oc (k:=12) (I:=0) rfl rfl rfl (.inl rfl) (.inl rfl) rfl (od (dO:=[]) (X:=[c]) (by decide) rfl rfl rfl rfl) (yo _) ai cX (.inr (.inr (by decide))) (.inl rfl) (.inr (.inl rfl)) rfl rfl) trivial nL
   ·obtain⟨rfl,rfl⟩:=HZ aD;exact rW (oc (k:=12) (I:=49) rfl rfl rfl (.inl rfl) (.inl rfl) rfl (od (dO:=[c]) (X:=[c]) (by decide) rfl rfl rfl rfl) (vm (l:=[c]) (by decide) (by simp) rfl rfl) ai cX (.inr (.inr (by decide))) (.inr (.inr (by decide))) (.inr (.inr (by decide))) rfl rfl) trivial nL
  ·have nt:a7.I=3:=by omega
   rw [nt]at yq yr;obtain⟨j0,pm,c',rfl,mx⟩:=yr;rw [j.e3]at mx;simp only [List.getElem?_cons_zero,List.getElem?_cons_succ,Option.some.injEq,List.nil_append,List.length_nil]at mx;subst mx;refine aan (cK .cW) j0 pm c' aB.length (aL aB) c.toNat af (cn [] bA bz bl bB aE) K O aq _ ?_
   delta mv eK
   rw [bn,show Array.toList #[(27:UInt8),91,50,48,49,126]=ea from rfl];have oZ:=h1 aB;refine⟨fun aD=> ?_,fun aD=>⟨fun cQ=>⟨⟨rfl,by omega,by omega,by omega,by omega⟩,?_⟩,fun gr=> ?_⟩⟩
   ·obtain⟨rfl,rfl⟩:=pre aD;exact rW (oc (k:=12) (I:=3) rfl rfl rfl (.inl rfl) (.inr nt) rfl (od (dO:=[]) (X:=[c]) (by decide) rfl rfl rfl rfl) (vm (by decide) BW rfl rfl) ai cX (.inr (.inr (by decide))) (.inr (.inl ⟨rfl,nt⟩)) (.inr (.inr (by decide))) rfl rfl) trivial nL
   ·obtain⟨rfl,rfl⟩:=HZ aD;rw [if_pos (show aB.length<65536 by omega)]at nL;exact rW (oc (k:=12) (I:=3) rfl rfl rfl (.inl rfl) (.inr nt) rfl (od (dO:=[c]) (X:=[c]) (by decide) rfl rfl rfl rfl) (vm (l:=aB++[c]) (by decide) (by simp) (by rw [List.length_append];rfl) (by rw [←BV];rfl)) ai cX (.inr (.inr (by decide))) (.inr (.inl ⟨rfl,nt⟩)) (.inr (.inr (by decide))) rfl rfl) trivial nL
   ·obtain⟨rfl,rfl⟩:=HZ aD;rw [if_neg (show ¬aB.length<65536 by omega)]at nL;exact rW (oc (k:=12) (I:=3) rfl rfl rfl (.inl rfl) (.inr nt) rfl (od (dO:=[c]) (X:=[c]) (by decide) rfl rfl rfl rfl) (vm (by decide) BW rfl rfl) ai cX (.inr (.inr (by decide))) (.inr (.inl ⟨rfl,nt⟩)) (.inr (.inr (by decide))) rfl rfl) trivial nL
 |grown dO =>
  obtain⟨kD,J,m,aG,rfl,dj⟩:=ap;have cB:a7.k=2:=by omega
  rw [cB,j.e3]at dj;simp only [List.getElem?_cons_zero,List.getElem?_cons_succ,Option.some.injEq]at dj;subst dj;rw [cB]at ac ai⊢;have BX:aL (dO++kept)++[o.int .u8 (c.toNat:Int)]=aL (dO++(kept++[c])):=by rw [BV,List.append_assoc]
  generalize H0:dO++(kept++[c])=X at BX;have fJ:X.drop dO.length=kept++[c]:=by rw [←H0];simp
  have af':X.length=dO.length+kept.length+1:=by rw [←H0];simp;omega
  have yY:(kept++[c]).length=kept.length+1:=by simp
  have sE:(aL (dO++kept)).length=dO.length+kept.length:=by rw [h1,List.length_append]
  obtain⟨t,bX⟩:=Pn (kept.length+1) (kept++[c]) aB;rw [cJ]at bX;simp only at bX;have tp:X=(dO++t)++aM:=by rw [←H0,bX,List.append_assoc]
  have jq:X.length-aM.length=(dO++t).length:=by rw [tp];simp only [List.length_append];omega
  have H2:J=J∧dO.length+kept.length=(aL (dO++kept)).length∧kept.length<kept.length+1∧(kept.length+1+(kept.length+1)/4+512)*1≤281474976710656∧kept.length+1<4611686018427387904:=⟨rfl,by omega,by omega,by omega,by omega⟩
  have m6:(aM.length:Int)=6→Keys.cW ⟨.cW,kept,[],aB⟩ c=(⟨.ground,[],[],[]⟩,[{kind:=4,text:=fv}]):=fun h=>by rw [nL,if_pos (show aM.length=6 by omega)]
  have m7:¬(aM.length:Int)=6→Keys.cW ⟨.cW,kept,[],aB⟩ c=(⟨.cW,aM,[],fv⟩,[]):=fun h=>by rw [nL,if_neg (show ¬aM.length=6 by omega)]
  rcases ac with ⟨rfl,rfl,yq⟩|⟨yq,BW,yr⟩
  ·
    obtain⟨ek,ck⟩:=aar (cK .cW) (J+1) m (if m=J then(aL (dO++kept)).length else min aG (aL (dO++kept)).length) X (cn [] bA bz bl bB aE) P O af aq iA iK iB co (kept.length+1) (kept++[c]) dO.length (by omega) fJ (by omega);rw [cJ]at ek ck;simp only at ek ck
    have x6:∀h:j,h.get 0=some (kE (cK .cW) (J+1) dO.length (kept++[c]).length (.slice none 0 0) af aq)→h.get 1=some (cn [] bA bz bl bB aE)→h.get 2=some (b3 (aL X) 1 (J+1) m (if m=J then(aL (dO++kept)).length else min aG (aL (dO++kept)).length) cI)→h.get 3=some P→h.get 4=some O→eV 5 80 gZ h gZ (j.rows 5 (rV (cK .cW) (J+1) m (if m=J then(aL (dO++kept)).length else min aG (aL (dO++kept)).length) X (cn [] bA bz bl bB aE) P O af aq dO.length (kept++[c]).length)) :=
     fun h a0 ao a2 a3 a4=>Po _ _ _ _ _ _ _ _ _ _ (Nat.le_refl _) iA iK iB co a0 ao a2 a3 a4
    by_cases po:fv=[]
    ·have ds:=ek po;rw [Pq]at ds;subst po;refine aaj (cK .cW) dO.length J m aG kept.length (J+1) m (if m=J then(aL (dO++kept)).length else min aG (aL (dO++kept)).length) (X.length-aM.length) aM.length (aL (dO++kept)) (aL X) c.toNat (.slice none 0 0) af (cn [] bA bz bl bB aE) P P O aq _ ?_
     delta ns eK HO qx
     refine⟨H2,?_,fun h=> ?_,fun h=> ?_⟩
     ·rw [BX,←yY];exact cx.gL (ds.pre (x6 _ rfl rfl rfl rfl rfl))
     ·rw [m6 h];exact HY rfl (oc (k:=2) (I:=0) rfl rfl rfl (.inr cB) (.inl rfl) rfl (od (by decide) tp jq rfl rfl) (yo _) ai cX (.inr (.inl ⟨rfl,cB⟩)) (.inl rfl) (.inr (.inl rfl)) rfl rfl) rfl (by omega) rfl
     ·rw [m7 h];exact rW (oc (k:=2) (I:=0) rfl rfl rfl (.inr cB) (.inl rfl) rfl (od (by decide) tp jq rfl rfl) (yo _) ai cX (.inr (.inl ⟨rfl,cB⟩)) (.inl rfl) (.inr (.inl rfl)) rfl rfl) trivial rfl
    ·obtain⟨im,jA,jB,ds⟩:=ck po;rw [aau]at ds;have oZ:=h1 fv;have el:List.take fv.length (List.drop 0 (aL fv))=aL fv:=by rw [List.drop_zero,←oZ,List.take_length]
     have H3:List.take fv.length (aL fv)=aL fv:=by rw [←oZ,List.take_length]
     refine aal (cK .cW) dO.length J m aG kept.length (J+1) m (if m=J then(aL (dO++kept)).length else min aG (aL (dO++kept)).length) (X.length-aM.length) aM.length im jA jB fv.length (aL (dO++kept)) (aL X) (aL fv) c.toNat (.slice none 0 0) af (cn [] bA bz bl bB aE) P P O aq _ ?_
     delta pn ns eK vj qx
     refine⟨H2,?_,fun h=>⟨rfl,by omega,⟨fv,el⟩,?_⟩,fun h=> ?_⟩
     ·rw [BX,←yY];exact cx.gL (ds.pre (x6 _ rfl rfl rfl rfl rfl))
     ·rw [m6 h,H3,iX];exact HY rfl (oc (k:=2) (I:=0) rfl rfl rfl (.inr cB) (.inl rfl) rfl (od (by decide) tp jq rfl rfl) (yo _) ai cX (.inr (.inl ⟨rfl,cB⟩)) (.inl rfl) (.inr (.inl rfl)) rfl rfl) rfl (by omega) rfl
     ·rw [m7 h];exact rW (oc (k:=2) (I:=30) rfl rfl rfl (.inr cB) (.inl rfl) rfl (od (by decide) tp jq rfl rfl) (vm (by decide) po rfl rfl) ai cX (.inr (.inl ⟨rfl,cB⟩)) (.inr (.inr (by decide))) (.inr (.inr (by decide))) rfl rfl) trivial rfl
  ·have nt:a7.I=3:=by omega
   rw [nt]at yq yr;obtain⟨j0,pm,c',rfl,mx⟩:=yr;rw [j.e3]at mx;simp only [List.getElem?_cons_zero,List.getElem?_cons_succ,Option.some.injEq,List.nil_append,List.length_nil]at mx;subst mx;simp only [List.length_nil]at ai⊢
   have po:fv≠[]:=by have:=HV (kept.length+1) (kept++[c]) aB BW;rw [cJ]at this;exact this
   obtain⟨im,jA,jB,ds⟩:=aap (cK .cW) (J+1) m (if m=J then(aL (dO++kept)).length else min aG (aL (dO++kept)).length) X (cn [] bA bz bl bB aE) (b3 (aL aB) 1 j0 pm c' cI) O af aq iA iK iB co (kept.length+1) (kept++[c]) aB dO.length j0 pm c' (by omega) fJ (by omega) qU;rw [cJ]at ds;simp only at ds;rw [Pq]at ds;have oZ:=h1 fv;have el:List.take fv.length (List.drop 0 (aL fv))=aL fv:=by rw [List.drop_zero,←oZ,List.take_length]
   have H3:List.take fv.length (aL fv)=aL fv:=by rw [←oZ,List.take_length]
   refine aak (cK .cW) dO.length J m aG kept.length (J+1) m (if m=J then(aL (dO++kept)).length else min aG (aL (dO++kept)).length) (X.length-aM.length) aM.length im jA jB fv.length (aL (dO++kept)) (aL X) (aL fv) c.toNat (.slice (some ⟨3,j0,0,0,1⟩) aB.length aB.length) af (cn [] bA bz bl bB aE) (b3 (aL aB) 1 j0 pm c' cI) O aq _ ?_
   delta pn ns eK vj qx
   refine⟨H2,?_,fun h=>⟨rfl,by omega,⟨fv,el⟩,?_⟩,fun h=> ?_⟩
   ·rw [BX,←yY];exact cx.gL (ds.pre (HT _ _ _ _ _ _ (b3 (aL aB) 1 j0 pm c' cI) _ _ _ (Nat.le_refl _) rfl iA iK iB co rfl rfl rfl rfl rfl rfl))
   ·rw [m6 h,H3,iX];exact HY rfl (oc (k:=2) (I:=0) rfl rfl rfl (.inr cB) (.inr nt) rfl (od (by decide) tp jq rfl rfl) (yo _) ai cX (.inr (.inl ⟨rfl,cB⟩)) (.inl rfl) (.inr (.inl rfl)) rfl rfl) rfl (by omega) rfl
   ·rw [m7 h];exact rW (oc (k:=2) (I:=3) rfl rfl rfl (.inr cB) (.inr nt) rfl (od (by decide) tp jq rfl rfl) (vm (by decide) po rfl rfl) ai cX (.inr (.inl ⟨rfl,cB⟩)) (.inr (.inl ⟨rfl,nt⟩)) (.inr (.inr (by decide))) rfl rfl) trivial rfl
theorem aaw:∀args h a,jY (2^30-8) yp Keys.cW args h=some a→a.dw Tryz.prog aw 129 args h:=rJ fun H d aF s es c g cw az dZ=>aav g cw dZ
noncomputable def aax:fc:=((Pc.add 87 (jY (2^30-8) yl Keys.sequence)).add 129 (jY (2^30-8) yp Keys.cW))
theorem rX:eW Tryz.prog aw aax:=(Pd.add aag).add aaw
abbrev nu(H:j):j:=(j.mk (H.next+4+6) (j.aJ (j.mk (H.next+1+3) (j.aJ (j.mk (H.next+1) (j.aJ H))))))
theorem Pr(H:j)(B d q bv df n m C c:Nat)(U:dc→bP→j→Prop)(aY:bF B (H.next) (((C:Int)<(n:Int)→bF B (H.next+1) ((0≤(C:Int)∧(C:Int)<(n:Int))∧cj env.D 5 ⟨q,bv,df+Int.toNat (C:Int),0,1⟩ (j.mk (H.next+4) (H.2))=some (.int .u8 (c:Int))∧bF B (H.next+4) (cj env.D 66 ⟨d,0,0,0,6⟩ (j.mk (H.next+10) (H.2))=some (.func (.func 30) [.ptr (some ⟨d,0,0,0,6⟩)] [])∧dB (2^30-4) ml (nu H) ⟨d,0,0,0,6⟩ (c:Int)∧∀(gO:j),dC ground (nu H) ⟨d,0,0,0,6⟩ (c:Int) gO→bF B (gO.next) ((-9223372036854775808≤(C:Int)+1∧(C:Int)+1≤9223372036854775807)∧U .normal [(0,.ptr (some ⟨d,0,0,0,6⟩)),(13,.slice (some ⟨q,bv,df,0,1⟩) n m),(14,.int .i64 (n:Int)),(15,.int .i64 ((C:Int)+1))] (j.mk (gO.next+2) (j.aJ gO))))))∧(¬(C:Int)<(n:Int)→U (.exit 0) [(0,.ptr (some ⟨d,0,0,0,6⟩)),(13,.slice (some ⟨q,bv,df,0,1⟩) n m),(14,.int .i64 (n:Int)),(15,.int .i64 (C:Int))] (j.mk (H.next+1) (j.aJ H))))) :
 ∃e aW p,cx Tryz.prog aw B 34 (cF Tryz.prog 26 0) [(0,.ptr (some ⟨d,0,0,0,6⟩)),(13,.slice (some ⟨q,bv,df,0,1⟩) n m),(14,.int .i64 n),(15,.int .i64 C)] H e aW p∧U e aW p :=
 gm bQ mixed rX (an:= .aK 5000 (ag 6000 (.aA (.val 6001 (.int .u8 (c:Int))) (.aA (.val 7003 (.func (.func 30) [.ptr (some ⟨d,0,0,0,6⟩)] [])) (ag 8000 .nil)))) .nil) (cs:=[0,13,14,15]) (by kernel_rfl) aY
theorem aay(H:j)(B d q bv df n m C c:Nat)(U:dc→bP→j→Prop)(aY:bF B (H.next) (((C:Int)<(n:Int)→bF B (H.next+1) ((0≤(C:Int)∧(C:Int)<(n:Int))∧cj env.D 5 ⟨q,bv,df+Int.toNat (C:Int),0,1⟩ (j.mk (H.next+4) (H.2))=some (.int .u8 (c:Int))∧bF B (H.next+4) (cj env.D 66 ⟨d,0,0,0,6⟩ (j.mk (H.next+10) (H.2))=some (.func (.func 59) [.ptr (some ⟨d,0,0,0,6⟩)] [])∧dB (2^30-8) xK (nu H) ⟨d,0,0,0,6⟩ (c:Int)∧∀(gO:j),dC du (nu H) ⟨d,0,0,0,6⟩ (c:Int) gO→bF B (gO.next) ((-9223372036854775808≤(C:Int)+1∧(C:Int)+1≤9223372036854775807)∧U .normal [(0,.ptr (some ⟨d,0,0,0,6⟩)),(13,.slice (some ⟨q,bv,df,0,1⟩) n m),(14,.int .i64 (n:Int)),(15,.int .i64 ((C:Int)+1))] (j.mk (gO.next+2) (j.aJ gO))))))∧(¬(C:Int)<(n:Int)→U (.exit 0) [(0,.ptr (some ⟨d,0,0,0,6⟩)),(13,.slice (some ⟨q,bv,df,0,1⟩) n m),(14,.int .i64 (n:Int)),(15,.int .i64 (C:Int))] (j.mk (H.next+1) (j.aJ H))))) :
 ∃e aW p,cx Tryz.prog aw B 34 (cF Tryz.prog 26 0) [(0,.ptr (some ⟨d,0,0,0,6⟩)),(13,.slice (some ⟨q,bv,df,0,1⟩) n m),(14,.int .i64 n),(15,.int .i64 C)] H e aW p∧U e aW p :=
 gm bQ mixed rX (an:= .aK 5000 (ag 6000 (.aA (.val 6001 (.int .u8 (c:Int))) (.aA (.val 7003 (.func (.func 59) [.ptr (some ⟨d,0,0,0,6⟩)] [])) (ag 8000 .nil)))) .nil) (cs:=[0,13,14,15]) (by kernel_rfl) aY
theorem aaz(H:j)(B d q bv df n m C c:Nat)(U:dc→bP→j→Prop)(aY:bF B (H.next) (((C:Int)<(n:Int)→bF B (H.next+1) ((0≤(C:Int)∧(C:Int)<(n:Int))∧cj env.D 5 ⟨q,bv,df+Int.toNat (C:Int),0,1⟩ (j.mk (H.next+4) (H.2))=some (.int .u8 (c:Int))∧bF B (H.next+4) (cj env.D 66 ⟨d,0,0,0,6⟩ (j.mk (H.next+10) (H.2))=some (.func (.func 90) [.ptr (some ⟨d,0,0,0,6⟩)] [])∧dB (2^30-8) x3 (nu H) ⟨d,0,0,0,6⟩ (c:Int)∧∀(gO:j),dC dd (nu H) ⟨d,0,0,0,6⟩ (c:Int) gO→bF B (gO.next) ((-9223372036854775808≤(C:Int)+1∧(C:Int)+1≤9223372036854775807)∧U .normal [(0,.ptr (some ⟨d,0,0,0,6⟩)),(13,.slice (some ⟨q,bv,df,0,1⟩) n m),(14,.int .i64 (n:Int)),(15,.int .i64 ((C:Int)+1))] (j.mk (gO.next+2) (j.aJ gO))))))∧(¬(C:Int)<(n:Int)→U (.exit 0) [(0,.ptr (some ⟨d,0,0,0,6⟩)),(13,.slice (some ⟨q,bv,df,0,1⟩) n m),(14,.int .i64 (n:Int)),(15,.int .i64 (C:Int))] (j.mk (H.next+1) (j.aJ H))))) :
 ∃e aW p,cx Tryz.prog aw B 34 (cF Tryz.prog 26 0) [(0,.ptr (some ⟨d,0,0,0,6⟩)),(13,.slice (some ⟨q,bv,df,0,1⟩) n m),(14,.int .i64 n),(15,.int .i64 C)] H e aW p∧U e aW p :=
 gm bQ mixed rX (an:= .aK 5000 (ag 6000 (.aA (.val 6001 (.int .u8 (c:Int))) (.aA (.val 7003 (.func (.func 90) [.ptr (some ⟨d,0,0,0,6⟩)] [])) (ag 8000 .nil)))) .nil) (cs:=[0,13,14,15]) (by kernel_rfl) aY
theorem aaA(H:j)(B d q bv df n m C c:Nat)(U:dc→bP→j→Prop)(aY:bF B (H.next) (((C:Int)<(n:Int)→bF B (H.next+1) ((0≤(C:Int)∧(C:Int)<(n:Int))∧cj env.D 5 ⟨q,bv,df+Int.toNat (C:Int),0,1⟩ (j.mk (H.next+4) (H.2))=some (.int .u8 (c:Int))∧bF B (H.next+4) (cj env.D 66 ⟨d,0,0,0,6⟩ (j.mk (H.next+10) (H.2))=some (.func (.func 87) [.ptr (some ⟨d,0,0,0,6⟩)] [])∧dB (2^30-8) yl (nu H) ⟨d,0,0,0,6⟩ (c:Int)∧∀(gO:j),dC sequence (nu H) ⟨d,0,0,0,6⟩ (c:Int) gO→bF B (gO.next) ((-9223372036854775808≤(C:Int)+1∧(C:Int)+1≤9223372036854775807)∧U .normal [(0,.ptr (some ⟨d,0,0,0,6⟩)),(13,.slice (some ⟨q,bv,df,0,1⟩) n m),(14,.int .i64 (n:Int)),(15,.int .i64 ((C:Int)+1))] (j.mk (gO.next+2) (j.aJ gO))))))∧(¬(C:Int)<(n:Int)→U (.exit 0) [(0,.ptr (some ⟨d,0,0,0,6⟩)),(13,.slice (some ⟨q,bv,df,0,1⟩) n m),(14,.int .i64 (n:Int)),(15,.int .i64 (C:Int))] (j.mk (H.next+1) (j.aJ H))))) :
 ∃e aW p,cx Tryz.prog aw B 34 (cF Tryz.prog 26 0) [(0,.ptr (some ⟨d,0,0,0,6⟩)),(13,.slice (some ⟨q,bv,df,0,1⟩) n m),(14,.int .i64 n),(15,.int .i64 C)] H e aW p∧U e aW p :=
 gm bQ mixed rX (an:= .aK 5000 (ag 6000 (.aA (.val 6001 (.int .u8 (c:Int))) (.aA (.val 7003 (.func (.func 87) [.ptr (some ⟨d,0,0,0,6⟩)] [])) (ag 8000 .nil)))) .nil) (cs:=[0,13,14,15]) (by kernel_rfl) aY
theorem aaB(H:j)(B d q bv df n m C c:Nat)(U:dc→bP→j→Prop)(aY:bF B (H.next) (((C:Int)<(n:Int)→bF B (H.next+1) ((0≤(C:Int)∧(C:Int)<(n:Int))∧cj env.D 5 ⟨q,bv,df+Int.toNat (C:Int),0,1⟩ (j.mk (H.next+4) (H.2))=some (.int .u8 (c:Int))∧bF B (H.next+4) (cj env.D 66 ⟨d,0,0,0,6⟩ (j.mk (H.next+10) (H.2))=some (.func (.func 88) [.ptr (some ⟨d,0,0,0,6⟩)] [])∧dB (2^30-8) singleR (nu H) ⟨d,0,0,0,6⟩ (c:Int)∧∀(gO:j),dC single (nu H) ⟨d,0,0,0,6⟩ (c:Int) gO→bF B (gO.next) ((-9223372036854775808≤(C:Int)+1∧(C:Int)+1≤9223372036854775807)∧U .normal [(0,.ptr (some ⟨d,0,0,0,6⟩)),(13,.slice (some ⟨q,bv,df,0,1⟩) n m),(14,.int .i64 (n:Int)),(15,.int .i64 ((C:Int)+1))] (j.mk (gO.next+2) (j.aJ gO))))))∧(¬(C:Int)<(n:Int)→U (.exit 0) [(0,.ptr (some ⟨d,0,0,0,6⟩)),(13,.slice (some ⟨q,bv,df,0,1⟩) n m),(14,.int .i64 (n:Int)),(15,.int .i64 (C:Int))] (j.mk (H.next+1) (j.aJ H))))) :
 ∃e aW p,cx Tryz.prog aw B 34 (cF Tryz.prog 26 0) [(0,.ptr (some ⟨d,0,0,0,6⟩)),(13,.slice (some ⟨q,bv,df,0,1⟩) n m),(14,.int .i64 n),(15,.int .i64 C)] H e aW p∧U e aW p :=
 gm bQ mixed rX (an:= .aK 5000 (ag 6000 (.aA (.val 6001 (.int .u8 (c:Int))) (.aA (.val 7003 (.func (.func 88) [.ptr (some ⟨d,0,0,0,6⟩)] [])) (ag 8000 .nil)))) .nil) (cs:=[0,13,14,15]) (by kernel_rfl) aY
theorem aaC(H:j)(B d q bv df n m C c:Nat)(U:dc→bP→j→Prop)(aY:bF B (H.next) (((C:Int)<(n:Int)→bF B (H.next+1) ((0≤(C:Int)∧(C:Int)<(n:Int))∧cj env.D 5 ⟨q,bv,df+Int.toNat (C:Int),0,1⟩ (j.mk (H.next+4) (H.2))=some (.int .u8 (c:Int))∧bF B (H.next+4) (cj env.D 66 ⟨d,0,0,0,6⟩ (j.mk (H.next+10) (H.2))=some (.func (.func 129) [.ptr (some ⟨d,0,0,0,6⟩)] [])∧dB (2^30-8) yp (nu H) ⟨d,0,0,0,6⟩ (c:Int)∧∀(gO:j),dC cW (nu H) ⟨d,0,0,0,6⟩ (c:Int) gO→bF B (gO.next) ((-9223372036854775808≤(C:Int)+1∧(C:Int)+1≤9223372036854775807)∧U .normal [(0,.ptr (some ⟨d,0,0,0,6⟩)),(13,.slice (some ⟨q,bv,df,0,1⟩) n m),(14,.int .i64 (n:Int)),(15,.int .i64 ((C:Int)+1))] (j.mk (gO.next+2) (j.aJ gO))))))∧(¬(C:Int)<(n:Int)→U (.exit 0) [(0,.ptr (some ⟨d,0,0,0,6⟩)),(13,.slice (some ⟨q,bv,df,0,1⟩) n m),(14,.int .i64 (n:Int)),(15,.int .i64 (C:Int))] (j.mk (H.next+1) (j.aJ H))))) :
 ∃e aW p,cx Tryz.prog aw B 34 (cF Tryz.prog 26 0) [(0,.ptr (some ⟨d,0,0,0,6⟩)),(13,.slice (some ⟨q,bv,df,0,1⟩) n m),(14,.int .i64 n),(15,.int .i64 C)] H e aW p∧U e aW p :=
 gm bQ mixed rX (an:= .aK 5000 (ag 6000 (.aA (.val 6001 (.int .u8 (c:Int))) (.aA (.val 7003 (.func (.func 129) [.ptr (some ⟨d,0,0,0,6⟩)] [])) (ag 8000 .nil)))) .nil) (cs:=[0,13,14,15]) (by kernel_rfl) aY
theorem aaD(H:j)(B d:Nat)(bw:o)(U:dc→bP→j→Prop)(aY:bF B (H.next) (U (.exit 0) [(0,.ptr (some ⟨d,0,0,0,6⟩)),(13,bw),(14,.int .i64 0),(15,.int .i64 0)] (j.mk (H.next+1) (j.aJ H)))) :
 ∃e aW p,cx Tryz.prog aw B 34 (cF Tryz.prog 26 0) [(0,.ptr (some ⟨d,0,0,0,6⟩)),(13,bw),(14,.int .i64 0),(15,.int .i64 0)] H e aW p∧U e aW p :=
 gm bQ mixed rX (an:= .nil) (cs:=[0,13,14,15]) (by kernel_rfl) aY
theorem aaE(H H1 aH aZ:j)(d n m:Nat)(ab:Option bG)(af ep:o)(U:o→j→Prop)(aY:bF (H.next) (H.next) (bF (H.next) (H.next+1) (bF (H.next) (H.next+3) (b0 env e7 (H.next+6) (bU [(12,.ptr (some ⟨d,0,0,5,6⟩)),(11,.ptr (some ⟨d,0,0,0,6⟩)),(10,.ptr (some ⟨d,0,0,0,6⟩)),(9,.bool false),(8,.ptr (some ⟨d,0,0,0,6⟩)),(4,.slice none 0 0),(0,.ptr (some ⟨d,0,0,0,6⟩)),(1,.slice ab n m)]) (j.mk (H.next+7) (H.2)) (Op.store 56 (Operand.tmp 12) (Operand.const (Value.slice none 0 0)))=some (o.tuple [],H1)∧bF (H.next) (H1.next) (cx Tryz.prog aw (H.next) 34 (Code.loop (cF Tryz.prog 26 0)) [(0,.ptr (some ⟨d,0,0,0,6⟩)),(13,.slice ab n m),(14,.int .i64 (n:Int)),(15,.int .i64 0)] (j.mk (H1.next+3) (j.aJ H1)) (.exit 0) [(0,.ptr (some ⟨d,0,0,0,6⟩)),(13,.slice ab n m),(14,.int .i64 (n:Int)),(15,ep)] aH∧bF (H.next) (aH.next) (cj env.D 56 ⟨d,0,0,5,6⟩ (j.mk (aH.next+5) (aH.2))=some af∧bF (H.next) (aH.next+5) (b0 env e7 (aH.next+8) (bU [(32,.ptr (some ⟨d,0,0,5,6⟩)),(31,.ptr (some ⟨d,0,0,0,6⟩)),(30,.ptr (some ⟨d,0,0,0,6⟩)),(7,af),(29,af),(28,.ptr (some ⟨d,0,0,5,6⟩)),(27,.ptr (some ⟨d,0,0,0,6⟩)),(26,.ptr (some ⟨d,0,0,0,6⟩)),(0,.ptr (some ⟨d,0,0,0,6⟩)),(13,.slice ab n m),(14,.int .i64 (n:Int)),(15,ep)]) (j.mk (aH.next+9) (aH.2)) (Op.store 56 (Operand.tmp 32) (Operand.const (Value.slice none 0 0)))=some (o.tuple [],aZ)∧bF (H.next) (aZ.next) (bK (H.next) (aZ.next+2) (U af (j.mk (aZ.next+2) (j.aJ aZ))))))))))) :
 ∃v p,aI Tryz.prog aw 26 [.ptr (some ⟨d,0,0,0,6⟩),.slice ab n m] H v p∧U v p :=
 cb bQ mixed rX (an:= .aA (.act 3003 (.tuple []) fun x=>H1) (.aA (.cs [0,13,14,15]) (.aA (.loop [(0,.ptr (some ⟨d,0,0,0,6⟩)),(13,.slice ab n m),(14,.int .i64 (n:Int)),(15,ep)] aH (.exit 0)) (.aA (.val 9003 af) (.aA (.act 10003 (.tuple []) fun x=>aZ) .nil))))) (by kernel_rfl) aY
theorem aaF{h:j}{d f u:Nat}{aX ah af:o}{cr:Bool}{aq:Option (TypeId×Nat)}(e:h.get d=some (b2 d f u aX ah cr af aq)):cj (b5.D env) 66 ⟨d,0,0,0,6⟩ h=some (.func (.func f) [.ptr (some ⟨d,0,0,0,6⟩)] []):=by
 have b':(b5.D env 66).map (fun d=>d.kind.isAgg)=some false:=by kernel_rfl
 obtain⟨x,p,ad⟩:=Option.map_eq_some_iff.1 b';unfold cj;rw [p,e];simp [R.elem?,R.cO,iD,ad,R.made]
theorem Ps{h:j}{d f u:Nat}{aX ah af:o}{cr:Bool}{aq:Option (TypeId×Nat)}(e:h.get d=some (b2 d f u aX ah cr af aq)):cj (b5.D env) 56 ⟨d,0,0,5,6⟩ h=some af:=by
 have b':(b5.D env 56).map (fun d=>d.kind.isAgg)=some false:=by kernel_rfl
 obtain⟨x,p,ad⟩:=Option.map_eq_some_iff.1 b';unfold cj;rw [p,e];simp [R.elem?,R.cO,iD,ad,R.made]
theorem BY{h:j}{d f u:Nat}{aX ah af:o}{cr:Bool}{aq:Option (TypeId×Nat)}(e:h.get d=some (b2 d f u aX ah cr af aq)):ki (b5.D env) 56 ⟨d,0,0,5,6⟩ (.slice none 0 0) h=some (h.set d (b2 d f u aX ah cr (.slice none 0 0) aq)):=by
 have b':(b5.D env 56).map (fun d=>(d.kind.isAgg,d.size))=some (false,1):=by kernel_rfl
 obtain⟨x,p,ad⟩:=Option.map_eq_some_iff.1 b';simp only [Prod.mk.injEq]at ad;unfold ki;rw [p,e];simp [o.fits,ad.1,ad.2,R.made,vJ,o.cells,jC]
theorem aaG{h:j}{q v i:Nat}{b:R}{c:Int}(e:h.get q=some b)(he:b.elem? v i=some (.int .u8 c)):cj (b5.D env) 5 ⟨q,v,i,0,1⟩ h=some (.int .u8 c):=by
 have b':(b5.D env 5).map (fun d=>d.kind.isAgg)=some false:=by kernel_rfl
 obtain⟨x,p,ad⟩:=Option.map_eq_some_iff.1 b';unfold cj;rw [p,e];simp only [he,iD,ad,Bool.false_eq_true,if_false,if_true]
structure rY(H:j)(q bv df:Nat)(bw:Bytes):Prop where
 ex:∃b,H.get q=some b∧∀(C:Nat)(h:C<bw.length),b.elem? bv (df+C)=some (.int .u8 bw[C].toNat)
theorem rY.cs{H aP:j}{q bv df:Nat}{bw:Bytes}(h:rY H q bv df bw)(e:aP.get q=H.get q):rY aP q bv df bw:=by obtain⟨b,p,ad⟩:=h.ex;exact⟨b,by rw [e];exact p,ad⟩
structure lQ(q d:Nat)(aF:cL):Prop where
 d:q≠d
 u:q≠aF.u
 k:q≠aF.k
 I:q≠aF.I
 ab:q≠aF.ab
theorem lQ.cU{h aa:j}{q d:Nat}{aF aQ:cL}(ab:lQ q d aF)(cU:Fr h aa d aF aQ)(aD:q<h.next):lQ q d aQ where
 d:=ab.d
 u e:=by have:=cU.ids q (.inl e);have:=ab.d;have:=ab.u;have:=ab.k;have:=ab.I;have:=ab.ab;omega
 k e:=by have:=cU.ids q (.inr (.inl e));have:=ab.d;have:=ab.u;have:=ab.k;have:=ab.I;have:=ab.ab;omega
 I e:=by have:=cU.ids q (.inr (.inr (.inl e)));have:=ab.d;have:=ab.u;have:=ab.k;have:=ab.I;have:=ab.ab;omega
 ab e:=by have:=cU.ids q (.inr (.inr (.inr e)));have:=ab.d;have:=ab.u;have:=ab.k;have:=ab.I;have:=ab.ab;omega
theorem lQ.get{h aa:j}{q d:Nat}{aF aQ:cL}(ab:lQ q d aF)(cU:Fr h aa d aF aQ)(aD:q<h.next):aa.get q=h.get q:=cU.get q aD ab.d ab.u ab.k ab.I ab.ab
theorem oe{h:j}{d:Nat}{aF:cL}{s:bO}{es:List bj}{k:Nat}(g:cu h d aF s es):cu ⟨h.next+k,h.aJ⟩ d aF s es:=by
 obtain⟨bo,g,an⟩:=g;refine⟨bo,⟨g.ex,g.iq,?_,g.ne⟩,an⟩;have:=g.lt;show d<h.next+k∧aF.u<h.next+k∧aF.k<h.next+k∧aF.I<h.next+k∧aF.ab<h.next+k
 omega
theorem H4{h aa:j}{d:Nat}{aF aQ:cL}{k:Nat}(cU:Fr h aa d aF aQ):Fr h ⟨aa.next+k,aa.aJ⟩ d aF aQ where
 next:=by have:=cU.next;show h.next≤aa.next+k;omega
 get:=cU.get
 ids:=cU.ids
theorem BZ{h aa:j}{d:Nat}{aF aQ:cL}{k:Nat}(cU:Fr ⟨h.next+k,h.aJ⟩ aa d aF aQ):Fr h aa d aF aQ where
 next:=by have:h.next+k≤aa.next:=cU.next;omega
 get C aV:=cU.get C (by show C<h.next+k;omega)
 ids x ae:=by have:x=d∨x=aF.u∨x=aF.k∨x=aF.I∨x=aF.ab∨h.next+k≤x:=cU.ids x ae;omega
abbrev k7(d q bv df n m C:Nat):bP:=[(0,.ptr (some ⟨d,0,0,0,6⟩)),(13,.slice (some ⟨q,bv,df,0,1⟩) n m),(14,.int .i64 (n:Nat)),(15,.int .i64 (C:Nat))]
theorem aaH{a b:Nat}(h:a≤b):(Nat.ble a b&&true)=true:=by rw [Nat.ble_eq.mpr h];rfl
theorem bq{a b:Nat}{I:Prop}(h:a≤b)(k:I):_root_.cond (Nat.ble a b&&true) I False:=by rw [aaH h];exact k
theorem vn{H:j}{B d q bv df n m C c:Nat}{N:Nat}{cY:bO→UInt8→Prop}{F:bO→UInt8→bO×List bj}{g:o}{U:dc→bP→j→Prop}(cE:B≤H.next)(aV:C<n)(aS:n<2^62)(p:j)(bn:p=⟨H.next+10,H.aJ⟩)
 (kx:cj (b5.D env) 5 ⟨q,bv,df+Int.toNat (C:Int),0,1⟩ ⟨H.next+4,H.aJ⟩=some (.int .u8 (c:Int))) (k8:cj (b5.D env) 66 ⟨d,0,0,0,6⟩ ⟨H.next+10,H.aJ⟩=some g)
 (pre:dB N cY ⟨H.next+10,H.aJ⟩ ⟨d,0,0,0,6⟩ (c:Int)) (post:∀h,dC F ⟨H.next+10,H.aJ⟩ ⟨d,0,0,0,6⟩ (c:Int) h→U .normal (k7 d q bv df n m (C+1)) ⟨h.next+2,h.aJ⟩) (X:Prop) :
 _root_.cond (Nat.ble B H.next&&true) (((C:Int)<(n:Int)→_root_.cond (Nat.ble B (H.next+1)&&true) ((0≤(C:Int)∧(C:Int)<(n:Int))∧cj (b5.D env) 5 ⟨q,bv,df+Int.toNat (C:Int),0,1⟩ ⟨H.next+4,H.aJ⟩=some (.int .u8 (c:Int))∧_root_.cond (Nat.ble B (H.next+4)&&true) (cj (b5.D env) 66 ⟨d,0,0,0,6⟩ ⟨H.next+10,H.aJ⟩=some g∧dB N cY p ⟨d,0,0,0,6⟩ (c:Int) ∧
  ∀h,dC F p ⟨d,0,0,0,6⟩ (c:Int) h→_root_.cond (Nat.ble B h.next&&true) ((-9223372036854775808≤(C:Int)+1∧(C:Int)+1≤9223372036854775807)∧U .normal [(0,.ptr (some ⟨d,0,0,0,6⟩)),(13,.slice (some ⟨q,bv,df,0,1⟩) n m),(14,.int .i64 (n:Nat)),(15,.int .i64 ((C:Int)+1))] ⟨h.next+2,h.aJ⟩) False) False) False)∧(¬(C:Int)<(n:Int)→X)) False:=by
 subst bn;refine bq cE ⟨fun _=>bq (by omega) ⟨⟨by omega,by omega⟩,kx,bq (by omega) ⟨k8,pre,fun h t=> ?_⟩⟩,fun h=>absurd (by omega) h⟩;have jc:H.next+10≤h.next:=t.next
 exact bq (by omega) ⟨⟨by omega,by omega⟩,by rw [show((C:Int)+1)=((C+1:Nat):Int)by omega];exact post h t⟩
theorem aaI{H:j}{B d q bv df m C:Nat}{aF:cL}{s:bO}{es:List bj}{bw:Bytes}(cE:B≤H.next)(g:cu H d aF s es)(fx:Keys.Good s)(cw:es.length<2^30-8)(au:rY H q bv df bw)(aV:C<bw.length)(aS:bw.length<2^62) :
 ∃aP aQ,cx Tryz.prog aw B 34 (cF Tryz.prog 26 0) (k7 d q bv df bw.length m C) H .normal (k7 d q bv df bw.length m (C+1)) aP∧cu aP d aQ (Keys.step s bw[C]).1 (es++(Keys.step s bw[C]).2)∧Fr H aP d aF aQ:=by
 have av:=bw[C].toNat_lt;obtain⟨b,hL,jI⟩:=au.ex;have kx:cj (b5.D env) 5 ⟨q,bv,df+Int.toNat (C:Int),0,1⟩ ⟨H.next+4,H.aJ⟩=some (.int .u8 (bw[C].toNat:Int)):=aaG hL (by rw [show df+Int.toNat (C:Int)=df+C by simp];exact jI C aV)
 have pG:∃aX ah af aq,H.get d=some (b2 d (cK s.cp) aF.u aX ah (decide (s.cp=.cW)) af aq):=by obtain⟨bo,k9,_⟩:=g;obtain⟨aX,ah,af,aq,e,_⟩:=k9.ex;exact⟨aX,ah,af,aq,e⟩
 obtain⟨aX,ah,af,aq,hc⟩:=pG;have k8:=aaF (h:=⟨H.next+10,H.aJ⟩) hc
 have Pt:s.hold.length≤4:=by
  obtain⟨cp,kept,hold,aB⟩:=s;cases cp with
  |dd=>have:=fx.2.2.2.1;simp only at this⊢; omega
  |ground=>have:=fx.2.1;simp only at this;simp [this]
  |du=>have:=fx.2.1;simp only at this;simp [this]
  |sequence=>have:=fx.1;simp only at this;simp [this]
  |single=>have:=fx.1;simp only at this;simp [this]
  |cW=>have:=fx.1;simp only at this;simp [this]
 have key:∀{N:Nat}{cY:bO→UInt8→Prop}{F:bO→UInt8→bO×List bj},es.length<N→cY s bw[C]→F s bw[C]=Keys.step s bw[C] →
  dB N cY ⟨H.next+10,H.aJ⟩ ⟨d,0,0,0,6⟩ (bw[C].toNat:Int)∧∀h,dC F ⟨H.next+10,H.aJ⟩ ⟨d,0,0,0,6⟩ (bw[C].toNat:Int) h→dc.normal=.normal∧k7 d q bv df bw.length m (C+1)=k7 d q bv df bw.length m (C+1)∧∃aQ,cu ⟨h.next+2,h.aJ⟩ d aQ (Keys.step s bw[C]).1 (es++(Keys.step s bw[C]).2)∧Fr H ⟨h.next+2,h.aJ⟩ d aF aQ:=by
  intro N cY F dn dZ fI;refine⟨⟨rfl,⟨aF,s,es,oe g,dn,Pt,by rw [u5];exact dZ⟩,by omega⟩,fun h t=>⟨rfl,rfl,?_⟩⟩;obtain⟨aQ,dv,gh⟩:=t.all aF s es (oe g) Pt;rw [u5,fI]at dv;exact⟨aQ,oe dv,H4 (BZ gh)⟩
 have fin:∀{e:dc}{aW:bP}{p:j},cx Tryz.prog aw B 34 (cF Tryz.prog 26 0) (k7 d q bv df bw.length m C) H e aW p→(e=.normal∧aW=k7 d q bv df bw.length m (C+1)∧∃aQ,cu p d aQ (Keys.step s bw[C]).1 (es++(Keys.step s bw[C]).2)∧Fr H p d aF aQ) →
  ∃aP aQ,cx Tryz.prog aw B 34 (cF Tryz.prog 26 0) (k7 d q bv df bw.length m C) H .normal (k7 d q bv df bw.length m (C+1)) aP∧cu aP d aQ (Keys.step s bw[C]).1 (es++(Keys.step s bw[C]).2)∧Fr H aP d aF aQ:=by
  rintro e aW p bb ⟨rfl,rfl,aQ,q⟩;exact⟨p,aQ,bb,q⟩
 let U:dc→bP→j→Prop:=fun e aW p=>e=.normal∧aW=k7 d q bv df bw.length m (C+1)∧∃aQ,cu p d aQ (Keys.step s bw[C]).1 (es++(Keys.step s bw[C]).2)∧Fr H p d aF aQ
 cases ae:s.cp with
 |ground =>
  rw [ae]at k8;obtain⟨cp,kept,hold,aB⟩:=s;simp only at ae;subst ae;obtain⟨aM,aR⟩:=key (N:=2^30-4) (cY:=ml) (F:=Keys.ground) (by omega) ⟨fx.2.1,rfl⟩ rfl;obtain⟨e,aW,p,bb,ap⟩:=Pr H B d q bv df bw.length m C bw[C].toNat U (vn cE aV aS _ rfl kx k8 aM aR _);exact fin bb ap
 |du =>
  rw [ae]at k8;obtain⟨cp,kept,hold,aB⟩:=s;simp only at ae;subst ae;obtain⟨aM,aR⟩:=key (N:=2^30-8) (cY:=xK) (F:=Keys.du) (by omega) ⟨fx.2.1,rfl⟩ rfl;obtain⟨e,aW,p,bb,ap⟩:=aay H B d q bv df bw.length m C bw[C].toNat U (vn cE aV aS _ rfl kx k8 aM aR _);exact fin bb ap
 |dd =>
  rw [ae]at k8;obtain⟨cp,kept,hold,aB⟩:=s;simp only at ae;subst ae;obtain⟨aM,aR⟩:=key (N:=2^30-8) (cY:=x3) (F:=Keys.dd) (by omega) ⟨rfl,fx.2.1,fx.2.2.1,fx.2.2.2.1,fx.2.2.2.2⟩ rfl;obtain⟨e,aW,p,bb,ap⟩:=aaz H B d q bv df bw.length m C bw[C].toNat U (vn cE aV aS _ rfl kx k8 aM aR _);exact fin bb ap
 |sequence =>
  rw [ae]at k8;obtain⟨cp,kept,hold,aB⟩:=s;simp only at ae;subst ae;obtain⟨aM,aR⟩:=key (N:=2^30-8) (cY:=yl) (F:=Keys.sequence) (by omega) ⟨rfl,fx.1,fx.2.2.1,fx.2.2.2⟩ rfl;obtain⟨e,aW,p,bb,ap⟩:=aaA H B d q bv df bw.length m C bw[C].toNat U (vn cE aV aS _ rfl kx k8 aM aR _);exact fin bb ap
 |single =>
  rw [ae]at k8;obtain⟨cp,kept,hold,aB⟩:=s;simp only at ae;subst ae;obtain⟨aM,aR⟩:=key (N:=2^30-8) (cY:=singleR) (F:=Keys.single) (by omega) ⟨fx.1,rfl⟩ rfl;obtain⟨e,aW,p,bb,ap⟩:=aaB H B d q bv df bw.length m C bw[C].toNat U (vn cE aV aS _ rfl kx k8 aM aR _);exact fin bb ap
 |cW =>
  rw [ae]at k8;obtain⟨cp,kept,hold,aB⟩:=s;simp only at ae;subst ae;obtain⟨aM,aR⟩:=key (N:=2^30-8) (cY:=yp) (F:=Keys.cW) (by omega) ⟨rfl,fx.1,fx.2.1,fx.2.2.2⟩ rfl;obtain⟨e,aW,p,bb,ap⟩:=aaC H B d q bv df bw.length m C bw[C].toNat U (vn cE aV aS _ rfl kx k8 aM aR _);exact fin bb ap
theorem aaJ{B d q bv df m:Nat}{bw:Bytes}(aS:bw.length<2^28):∀(k C:Nat)(H:j)(aF:cL)(s:bO)(es:List bj),bw.length-C≤k→C≤bw.length→B≤H.next→cu H d aF s es→Keys.Good s→es.length+2* (bw.length-C)<2^30-8→rY H q bv df bw→q<H.next→lQ q d aF →
 ∃aP aQ,cN Tryz.prog aw B 34 (cF Tryz.prog 26 0) (k7 d q bv df bw.length m C) H (.exit 0) (k7 d q bv df bw.length m bw.length) aP∧cu aP d aQ (dh s (bw.drop C)).1 (es++(dh s (bw.drop C)).2)∧Fr H aP d aF aQ:=by
 intro k
 have fin:∀(H:j)(aF:cL)(s:bO)(es:List bj),B≤H.next→cu H d aF s es→ ∃aP aQ,cN Tryz.prog aw B 34 (cF Tryz.prog 26 0) (k7 d q bv df bw.length m bw.length) H (.exit 0) (k7 d q bv df bw.length m bw.length) aP∧cu aP d aQ (dh s (bw.drop bw.length)).1 (es++(dh s (bw.drop bw.length)).2)∧Fr H aP d aF aQ:=by
  intro H aF s es cE g;obtain⟨e,aW,p,bb,rfl,rfl,rfl⟩:=Pr H B d q bv df bw.length m bw.length 0 (fun e aW p=>e=.exit 0∧aW=k7 d q bv df bw.length m bw.length∧p=⟨H.next+1,H.aJ⟩) (bq cE ⟨fun h=>by omega,fun _=>⟨rfl,rfl,rfl⟩⟩);refine⟨_,aF,cN.last (by simp) bb,?_,?_⟩
  ·rw [List.drop_length];simp only [dh,List.append_nil];exact oe g
  ·exact⟨by show H.next≤H.next+1;omega,fun C _ _ _ _ _ _=>rfl,fun x ae=>by omega⟩
 induction k with
 |zero =>
  intro C H aF s es ap aV cE g fx cw au aD ai;obtain rfl:C=bw.length:=by omega
  exact fin H aF s es cE g
 |succ k ih =>
  intro C H aF s es ap aV cE g fx cw au aD ai;by_cases av:C<bw.length
  ·obtain⟨H1,n4,bb,g1,lP⟩:=aaI (m:=m) cE g fx (by omega) au av (by omega);have ad:=VA s bw[C];have kC:=lP.next
   obtain⟨aH,db,az,g2,qy⟩:=ih (C+1) H1 n4 _ _ (by omega) (by omega) (by omega) g1 (xd _ fx) (by rw [List.length_append];omega) (au.cs (ai.get lP aD)) (by omega) (ai.cU lP aD);refine⟨aH,db,cN.step bb az,?_,lP.trans qy⟩;rw [List.drop_eq_getElem_cons av];simp only [dh];rw [←List.append_assoc];exact g2
  ·obtain rfl:C=bw.length:=by omega
   exact fin H aF s es cE g
def lR(H:j)(v:o)(es:List bj)(ab:Nat):Prop :=
 (v=.slice none 0 0∧es=[])∨(es≠[]∧ab<H.next∧∃J m f,v=.slice (some ⟨ab,J,0,0,6⟩) es.length es.length∧H.get ab=some (b3 (es.map cm) 6 J m f ew))
theorem cu.clear{H:j}{d:Nat}{aF:cL}{s:bO}{es:List bj}(g:cu H d aF s es):∃f aX ah cr af aq,H.get d=some (b2 d f aF.u aX ah cr af aq)∧jb H d aF.ab af es∧aF.u≠d ∧
 ∀k,cu ((⟨H.next+k,H.aJ⟩:j).set d (b2 d f aF.u aX ah cr (.slice none 0 0) aq)) d ⟨aF.u,aF.k,aF.I,d⟩ s []∧Fr H ((⟨H.next+k,H.aJ⟩:j).set d (b2 d f aF.u aX ah cr (.slice none 0 0) aq)) d aF ⟨aF.u,aF.k,aF.I,d⟩:=by
 obtain⟨bo,g,an⟩:=g;obtain⟨aX,ah,af,aq,e,ap,ac,ai⟩:=g.ex;obtain⟨bA,bz,bl,bB,aE,hu⟩:=g.iq
 have mL:aF.u≠d:=by intro h;rw [h,e]at hu;simp [R.made]at hu
 refine⟨_,aX,ah,_,af,aq,e,ai,mL,fun k=>⟨⟨bo,⟨⟨aX,ah,.slice none 0 0,aq,?_,?_,?_,.inl ⟨rfl,rfl,rfl⟩⟩,⟨bA,bz,bl,bB,aE,?_⟩,?_,g.ne⟩,an⟩,?_,?_,?_⟩⟩
 ·exact j.hJ _ _ _
 ·exact ap.cs fun aS=>j.fl _ _ (Ne.symm aS)
 ·exact ac.cs fun aS=>j.fl _ _ (Ne.symm aS)
 ·show((⟨H.next+k,H.aJ⟩:j).set d _).get aF.u=_;rw [j.fl _ _ (Ne.symm mL)];exact hu
 ·have:=g.lt;show d<H.next+k∧aF.u<H.next+k∧aF.k<H.next+k∧aF.I<H.next+k∧d<H.next+k
  omega
 ·show H.next≤H.next+k;omega
 ·intro C aV a6 aO ft ht ig;exact j.fl _ _ (Ne.symm a6)
 ·intro x ae;have ae:x=aF.u∨x=aF.k∨x=aF.I∨x=d:=ae;omega
def Pu(H:j)(d:Nat)(aF:cL)(ab:Option bG)(bw:Bytes):Prop:=(ab=none∧bw=[])∨ ∃q bv df,ab=some ⟨q,bv,df,0,1⟩∧rY H q bv df bw∧q<H.next∧lQ q d aF
theorem pq{t:TypeId}{F:bP}{H H1:j}{a:bG}{bh k:Nat}(a8:bU F (.tmp k)=.ptr (some a))(an:ki (b5.D env) t a (.slice none 0 0) H=some H1):b0 env e7 bh (bU F) H (Op.store t (Operand.tmp k) (Operand.const (Value.slice none 0 0)))=some (.tuple [],H1):=by have av:bU F (Operand.const (Value.slice none 0 0))=.slice none 0 0:=rfl;simp only [b0,a8,av,an,Option.map_some]
theorem Pv{H:j}{d m:Nat}{aF:cL}{s:bO}{es:List bj}{bw:Bytes}{ab:Option bG}(g:cu H d aF s es)(fx:Keys.Good s)(aS:bw.length<2^28)(aT:Pu H d aF ab bw) :
 ∃aP v aQ eG,aI Tryz.prog aw 26 [.ptr (some ⟨d,0,0,0,6⟩),.slice ab bw.length m] H v aP∧cu aP d aQ (dh s bw).1 []∧Fr H aP d aF aQ∧lR aP v (dh s bw).2 eG∧((dh s bw).2≠[]→lQ eG d aQ∧(eG=aF.u∨eG=aF.k∨eG=aF.I∨H.next≤eG)):=by
 obtain⟨f,aX,ah,cr,af,aq,hc,ai,mL,hs⟩:=g.clear;obtain⟨g1,lP⟩:=hs 7;generalize ys:((⟨H.next+7,H.aJ⟩:j).set d (b2 d f aF.u aX ah cr (.slice none 0 0) aq))=H1 at g1 lP;have iV:ki (b5.D env) 56 ⟨d,0,0,5,6⟩ (.slice none 0 0) ⟨H.next+7,H.aJ⟩=some H1:=by rw [←ys];exact BY hc
 have kF:H1.next=H.next+7:=by rw [←ys];rfl
 have nm:cu ⟨H1.next+3,H1.aJ⟩ d ⟨aF.u,aF.k,aF.I,d⟩ s []:=oe g1
 have zR:∃aH db ep,cx Tryz.prog aw H.next 34 (Code.loop (cF Tryz.prog 26 0)) [(0,.ptr (some ⟨d,0,0,0,6⟩)),(13,.slice ab bw.length m),(14,.int .i64 bw.length),(15,.int .i64 0)] ⟨H1.next+3,H1.aJ⟩ (.exit 0) [(0,.ptr (some ⟨d,0,0,0,6⟩)),(13,.slice ab bw.length m),(14,.int .i64 bw.length),(15,ep)] aH ∧
  cu aH d db (dh s bw).1 (dh s bw).2∧Fr H1 aH d ⟨aF.u,aF.k,aF.I,d⟩ db:=by
  rcases aT with ⟨rfl,rfl⟩|⟨q,bv,df,rfl,au,aD,jq⟩
  ·obtain⟨e,aW,p,bb,rfl,rfl,rfl⟩:=aaD ⟨H1.next+3,H1.aJ⟩ H.next d (.slice none 0 m) (fun e aW p=>e=.exit 0∧aW=[(0,.ptr (some ⟨d,0,0,0,6⟩)),(13,.slice none 0 m),(14,.int .i64 0),(15,.int .i64 0)]∧p=⟨H1.next+3+1,H1.aJ⟩) (bq (by show H.next≤H1.next+3;omega) ⟨rfl,rfl,rfl⟩)
   refine⟨_,⟨aF.u,aF.k,aF.I,d⟩,.int .i64 0,cx.gL (cN.last (by simp) bb),oe nm,?_⟩
   exact⟨by show H1.next≤H1.next+3+1;omega,fun C _ _ _ _ _ _=>rfl,fun x ae=>by
    have ae:x=aF.u∨x=aF.k∨x=aF.I∨x=d:=ae;show x=d∨x=aF.u∨x=aF.k∨x=aF.I∨x=d∨_
    omega⟩
  ·have aaK:rY ⟨H1.next+3,H1.aJ⟩ q bv df bw:=au.cs (by show H1.get q=H.get q;exact jq.get lP aD);have aaL:lQ q d ⟨aF.u,aF.k,aF.I,d⟩:=jq.cU lP aD;obtain⟨aH,db,az,g2,qy⟩:=aaJ (B:=H.next) (m:=m) aS bw.length 0 ⟨H1.next+3,H1.aJ⟩ ⟨aF.u,aF.k,aF.I,d⟩ s [] (by omega) (by omega) (by show H.next≤H1.next+3;omega) nm fx (by simp only [List.length_nil];omega) aaK (by show q<H1.next+3;omega) aaL;rw [List.drop_zero,List.nil_append]at g2;exact⟨aH,db,.int .i64 bw.length,cx.gL az,g2,BZ qy⟩
 obtain⟨aH,db,ep,ds,g2,qy⟩:=zR;obtain⟨f2,u1,u2,rC,rE,ng,H5,hC,aga,aaM⟩:=g2.clear;obtain⟨g3,tq⟩:=aaM 9;generalize qz:((⟨aH.next+9,aH.aJ⟩:j).set d (b2 d f2 db.u u1 u2 rC (.slice none 0 0) ng))=aZ at g3 tq;have aaN:ki (b5.D env) 56 ⟨d,0,0,5,6⟩ (.slice none 0 0) ⟨aH.next+9,aH.aJ⟩=some aZ:=by rw [←qz];exact BY H5
 have jc:=qy.next
 have iL:aZ.next=aH.next+9:=by rw [←qz];rfl
 have zC:Fr H ⟨aZ.next+2,aZ.aJ⟩ d aF ⟨db.u,db.k,db.I,d⟩:=H4 (lP.trans (qy.trans tq))
 obtain⟨v,aa,aC,bg,bW⟩:=aaE H H1 aH aZ d bw.length m ab rE ep (fun v aa=>v=rE∧aa=⟨aZ.next+2,aZ.aJ⟩) (by
  refine bq (Nat.le_refl _) (bq (by omega) (bq (by omega) ⟨pq rfl iV,bq (by omega) ⟨ds,bq (by omega) ⟨Ps H5,bq (by omega) ⟨pq rfl aaN,bq (by omega) ?_⟩⟩⟩⟩));refine rK (by omega) ?_
  exact⟨rfl,rfl⟩)
 subst bg bW;have gi:cu ⟨aZ.next+2,aZ.aJ⟩ d ⟨db.u,db.k,db.I,d⟩ (dh s bw).1 []:=oe g3;rcases hC with ⟨p,ad,bd⟩|⟨p,ad,J,nv,mH,bd,bS⟩
 ·exact⟨_,_,_,0,aC,gi,zC,.inl ⟨p,ad⟩,fun h=>absurd ad h⟩
 ·have H6:=(by obtain⟨bo,k9,_⟩:=g2;exact k9.lt:d<aH.next∧db.u<aH.next∧db.k<aH.next∧db.I<aH.next∧db.ab<aH.next)
  have e0:(⟨aZ.next+2,aZ.aJ⟩:j).get db.ab=some (b3 ((dh s bw).2.map cm) 6 J nv mH ew):=by rw [←bS];show aZ.get db.ab=aH.get db.ab;rw [←qz,j.fl _ _ (Ne.symm p)];rfl
  have jq:lQ db.ab d ⟨db.u,db.k,db.I,d⟩:=by
   obtain⟨bo,k9,_⟩:=g2;obtain⟨F3,im,F4,F5,dT,dY,eo,hK⟩:=k9.ex;obtain⟨bA,bz,bl,bB,aE,hu⟩:=k9.iq;refine⟨p,fun h=> ?_,fun h=> ?_,fun h=> ?_,p⟩
   ·have h:db.ab=db.u:=h;rw [h,hu]at bS;simp [R.made]at bS
   ·have h:db.ab=db.k:=h;cases bo with
    |nil=>exact p (by rw [h];exact dY.2.2)
    |one=>have:=dY.2.2.1;rw [←h,bS]at this;simp [R.made]at this
    |grown dO=>obtain⟨_,_,_,_,_,this⟩:=dY;rw [←h,bS]at this;simp at this
   ·have h:db.ab=db.I:=h;rcases eo with ⟨_,_,eo⟩|⟨_,_,_,_,_,_,this⟩
    ·exact p (by rw [h];exact eo)
    ·rw [←h,bS]at this;simp at this
  refine⟨_,_,_,db.ab,aC,gi,zC,.inr ⟨ad,by show db.ab<aZ.next+2;omega,J,nv,mH,bd,e0⟩,fun _=>⟨jq,?_⟩⟩;have hid:db.ab=d∨db.ab=aF.u∨db.ab=aF.k∨db.ab=aF.I∨db.ab=d∨H1.next≤db.ab:=qy.ids db.ab (.inr (.inr (.inr rfl)))
  omega
theorem aaO(U:o→j→Prop)(aY:U (.ptr (some ⟨3,0,0,0,6⟩)) (j.ar 17 [(3,(R.made ([.agg [.func (.func 30) [.ptr (some ⟨3,0,0,0,6⟩)] [],.slice none 0 0,.slice none 0 0,.bool false,.ptr (some ⟨7,0,0,0,5⟩),.slice none 0 0]]) 6 true (some (68,6)))),(7,R.made [.agg [.int .u8 0,.int .u8 0,.int .u8 0,.int .u8 0,.int .i64 0]] 5 true (some (97,5)))])) :
 ∃v p,aI Tryz.prog aw 14 [] (⟨0,.nil⟩) v p∧U v p :=
 cb bQ mixed gU (an:=he 1000 .nil) (by kernel_rfl) aY
theorem aaP(f et c6 cV pm:Nat)(fB ju:Option bG)(cr:Bool)(af:o)(bk K P O:R)(ax:Option (TypeId×Nat))(U:o→j→Prop)(aY:(-9223372036854775808≤(c6:Int)+(et:Int)∧(c6:Int)+(et:Int)≤9223372036854775807)∧U (.int .i64 ((c6:Int)+(et:Int))) (j.ar 20 [(0,⟨[.agg [(eK f),.slice fB et cV,.slice ju c6 pm,.bool cr,.ptr (some ⟨1,0,0,0,5⟩),af]],6,true,false,0,0,0,ax⟩),(1,bk),(2,K),(3,P),(4,O)])) :
 ∃v p,aI Tryz.prog aw 16 [.ptr (some ⟨0,0,0,0,6⟩)] (j.of [b2 0 f 1 (.slice fB et cV) (.slice ju c6 pm) cr af ax,bk,K,P,O]) v p∧U v p :=
 cb bQ mixed gU (an:=ag 3010 .nil) (by kernel_rfl) aY
theorem aaQ(bE aM aR bu:Int)(n:Nat)(aq:Option (TypeId×Nat))(U:o→j→Prop)(aY:((n:Int)=0→U (.slice none 0 0) (j.ar 12 [(0,⟨[.agg [.int .u8 bE,.int .u8 aM,.int .u8 aR,.int .u8 bu,.int .i64 (n:Int)]],5,true,false,0,0,0,aq⟩)]))∧(¬(n:Int)=0→U (.slice (some ⟨15,0,0,0,1⟩) 1 1) (j.ar 17 [(0,(hP bE aM aR bu aq)),(15,R.made [.int .i32 65533] 1 true)]))) :
 ∃v p,aI Tryz.prog aw 57 [.ptr (some ⟨0,0,0,0,5⟩)] (j.of [hj bE aM aR bu n aq]) v p∧U v p :=
 cb bQ mixed gU (an:= .aK 1007 .nil .nil) (by kernel_rfl) aY
theorem Pw(H:j):∃aP d aF,aI Tryz.prog aw 14 [] H (.ptr (some ⟨d,0,0,0,6⟩)) aP∧cu aP d aF ⟨.ground,[],[],[]⟩ []∧H.next≤d∧H.next≤aF.u∧aF.k=d∧aF.I=d∧aF.ab=d∧H.next≤aP.next∧∀C,C<H.next→aP.get C=H.get C:=by
 obtain⟨v,p,aC,rfl,b7,aaR,aS⟩:=aaO (fun v p=>v=.ptr (some ⟨3,0,0,0,6⟩)∧p.get 3=some (b2 3 (cK .ground) 7 (.slice none 0 0) (.slice none 0 0) false (.slice none 0 0) (some (68,6)))∧p.get 7=some (hj 0 0 0 0 0 (some (97,5)))∧p.next=17) ⟨rfl,rfl,rfl,rfl⟩;have aaS:aI Tryz.prog aw 14 [] (j.of []) (.ptr (some ⟨3,0,0,0,6⟩)) p:=aC;obtain⟨aP,hN,kC,e0,jr⟩:=aaS.place (by simp) (fun b au=>by cases au) trivial (H:=H) [] List.nodup_nil (fun C aV=>by cases aV) rfl (fun i b h=>by simp at h);have r:∀i,dJ [] H.next i=H.next+i:=fun i=>by rw [mY (by simp)];simp
 have g3:=e0 3 _ b7;have g7:=e0 7 _ aaR;rw [r,(rF _ _ _ _ _ _).bc]at g7;rw [r]at g3
 have ca:(b2 3 (cK .ground) 7 (.slice none 0 0) (.slice none 0 0) false (.slice none 0 0) (some (68,6))).bc (dJ [] H.next)=b2 (H.next+3) (cK .ground) (H.next+7) (.slice none 0 0) (.slice none 0 0) false (.slice none 0 0) (some (68,6)):=by simp [R.bc,R.made,o.bc,o.gK,bG.bc,r]
 rw [ca]at g3;have agb:aP.next=H.next+17:=by rw [kC,aS];simp
 refine⟨aP,H.next+3,⟨H.next+7,H.next+3,H.next+3,H.next+3⟩,?_,⟨.nil,⟨⟨_,_,_,_,g3,⟨rfl,rfl,rfl⟩,.inl ⟨rfl,rfl,rfl⟩,.inl ⟨rfl,rfl,rfl⟩⟩,⟨0,0,0,0,_,g7⟩,?_,.inl rfl⟩,trivial⟩,by omega,by show H.next≤H.next+7;omega,rfl,rfl,rfl,by omega,fun C aV=>jr C aV (by simp)⟩
 ·simpa [o.bc,bG.bc,r]using hN
 ·show H.next+3<aP.next∧H.next+7<aP.next∧H.next+3<aP.next∧H.next+3<aP.next∧H.next+3<aP.next
  omega
theorem H7{h:j}{d k:Nat}{v:o}{bo:gg}{l:Bytes}(ap:i' h d k v bo l):∃ab,v=.slice ab l.length l.length:=by
 cases bo with
 |nil=>obtain⟨rfl,rfl,_⟩:=ap;exact⟨none,rfl⟩
 |one=>obtain⟨_,rfl,_,rfl⟩:=ap;exact⟨_,rfl⟩
 |grown C=>obtain⟨_,_,_,_,rfl,_⟩:=ap;exact⟨_,rfl⟩
theorem aaT{h:j}{d k:Nat}{v:o}{l:Bytes}(ac:ja h d k v l):∃ab,v=.slice ab l.length l.length:=by
 rcases ac with ⟨rfl,rfl,_⟩|⟨_,_,_,_,_,rfl,_⟩
 ·exact⟨none,rfl⟩
 ·exact⟨_,rfl⟩
theorem Px{H:j}{d:Nat}{aF:cL}{s:bO}{es:List bj}(g:cu H d aF s es)(ap:s.kept.length<2^40)(ac:s.aB.length<2^40):∃aP,aI Tryz.prog aw 16 [.ptr (some ⟨d,0,0,0,6⟩)] H (.int .i64 (held s:Nat)) aP∧∃aQ,cu aP d aQ s es∧Fr H aP d aF aQ:=by
 obtain⟨bo,g,an⟩:=g;refine g.lift (Q:=fun h d aF=>cu h d aF s es) (rest:=[]) (fun a aT=>by cases aT) (cR.int _ _) (fun aa aP r d aF bb iw cQ q=>q.pc bb iw cQ) ?_;intro aX ah af aq aE bA bz bl bB K P O a7 gs cX;obtain⟨aaU,xm,ip,pe⟩:=a7;obtain rfl:aaU=1:=cX.1;obtain⟨gq,po,jv⟩:=ni gs;obtain⟨fB,rfl⟩:=H7 gq;obtain⟨ju,rfl⟩:=aaT po
 obtain⟨v,aa,aC,rfl,ca,bn,bs,b7,ct,aS⟩:=aaP (cK s.cp) s.kept.length s.aB.length s.kept.length s.aB.length fB ju (decide (s.cp=.cW)) af (cn s.hold bA bz bl bB aE) K P O aq (fun v aa=>v=.int .i64 (held s:Nat)∧aa.get 0=some (b2 0 (cK s.cp) 1 (.slice fB s.kept.length s.kept.length) (.slice ju s.aB.length s.aB.length) (decide (s.cp=.cW)) af aq)∧aa.get 1=some (cn s.hold bA bz bl bB aE)∧aa.get 2=some K∧aa.get 3=some P∧aa.get 4=some O∧aa.next=20)
  ⟨⟨by omega,by omega⟩,by unfold held;rw [show((s.aB.length+s.kept.length:Nat):Int)=(s.aB.length:Int)+(s.kept.length:Int)by omega],rfl,rfl,rfl,rfl,rfl,rfl⟩
 refine⟨aa,aC,⟨1,xm,ip,pe⟩,⟨bo,⟨⟨_,_,_,_,ca,?_,?_,?_⟩,⟨bA,bz,bl,bB,aE,bn⟩,?_,gs.ne⟩,an⟩,⟨by show 5≤aa.next;omega,?_,fun x ae=> ?_⟩⟩
 ·exact gq.cs fun aS=>by
   rcases cX.2.1 with h|h
   ·exact absurd h aS
   ·simp only at h;subst h;rw [bs,j.e3];rfl
 ·exact po.cs fun aS=>by
   rcases cX.2.2.1 with h|h
   ·exact absurd h aS
   ·simp only at h;subst h;rw [b7,j.e3];rfl
 ·exact jv.cs fun aS=>by
   rcases cX.2.2.2 with h|h
   ·exact absurd h aS
   ·simp only at h;subst h;rw [ct,j.e3];rfl
 ·have ad:=cX.2.1;have bd:=cX.2.2.1;have bS:=cX.2.2.2;simp only at ad bd bS;show 0<aa.next∧1<aa.next∧xm<aa.next∧ip<aa.next∧pe<aa.next
  omega
 ·intro C aV a6 aO ft ht ig;have aV:C<5:=aV;have aO:C≠1:=aO;have:C=2∨C=3∨C=4:=by omega
  rw [j.e3];rcases this with rfl|rfl|rfl
  ·rw [bs];rfl
  ·rw [b7];rfl
  ·rw [ct];rfl
 ·have ae:x=1∨x=xm∨x=ip∨x=pe:=ae;show x=0∨x=1∨x=xm∨x=ip∨x=pe∨5≤x;omega
theorem aaV{f:FuncId}{args:List o}{h aa:j}{v:o}(k:aI Tryz.prog aw f args h v aa):aI Tryz.prog aw f args h .undef aa:=by intro be br dn fQ al w dF eU cE ed;obtain⟨a,b⟩:=k be br dn fQ al w dF eU cE ed;exact⟨a,b.mono fun e bC ⟨bt,bN,dH,dy,gy,mT,n2,uZ⟩=>⟨bt,bN,dH,dy,by simp only [aN],mT,n2,uZ⟩⟩
structure aaW(h:j)(a:bG):Prop where
 at':a=⟨a.id,0,0,0,5⟩
 lt:a.id<h.next
 ex:∃hold bA bz bl bB aq,h.get a.id=some (cn hold bA bz bl bB aq)
structure aaX(h:j)(a:bG)(aa:j):Prop where
 all:∀hold bA bz bl bB aq,h.get a.id=some (cn hold bA bz bl bB aq)→ ∃i0 i1 i2 i3,aa.get a.id=some (cn [] i0 i1 i2 i3 aq)
 get:∀C,C<h.next→C≠a.id→aa.get C=h.get C
 next:h.next≤aa.next
def H8:List o→j→Option eC:=fun args h=>match args with
 |[.ptr (some a)]=>some (.some .undef [aaW h a] (aaX h a))
 |_=>none
theorem Py{H:j}{u:Nat}{hold:Bytes}{bA bz bl bB:Int}{aq:Option (TypeId×Nat)}(hu:u<H.next)(ag:H.get u=some (cn hold bA bz bl bB aq)):∃aP i0 i1 i2 i3,aI Tryz.prog aw 57 [.ptr (some ⟨u,0,0,0,5⟩)] H .undef aP∧aP.get u=some (cn [] i0 i1 i2 i3 aq)∧(∀C,C<H.next→C≠u→aP.get C=H.get C)∧H.next≤aP.next:=by
 obtain⟨v,p,aC,jt,kF⟩:=aaQ (cd hold 0 bA) (cd hold 1 bz) (cd hold 2 bl) (cd hold 3 bB) hold.length aq (fun v p=>p.get 0=some (hj (cd hold 0 bA) (cd hold 1 bz) (cd hold 2 bl) (cd hold 3 bB) 0 aq)∧1≤p.next) ⟨fun h=>⟨by rw [h];rfl,by show 1≤12;decide⟩,fun _=>⟨rfl,by show 1≤17;decide⟩⟩
 obtain⟨aP,hN,kC,e0,jr⟩:=aC.place kF (fun b au=>by rw [List.mem_singleton.1 au];exact(rF _ _ _ _ _ _).e1 _) (by exact⟨by show 0<1;decide,trivial⟩) (H:=H) [u] (by simp) (fun C aV=>by rw [List.mem_singleton.1 aV];exact hu) rfl (fun i b h=>by
  have ak:i=0:=by have:=(List.getElem?_eq_some_iff.1 h).1;simpa using this
  subst ak;simp only [List.getElem?_cons_zero,Option.some.injEq]at h;subst h;rw [(rF _ _ _ _ _ _).bc]
  exact ag)
 refine⟨aP,cd hold 0 bA,cd hold 1 bz,cd hold 2 bl,cd hold 3 bB,?_,?_,fun C aV b1=>jr C aV (by simpa using b1),by omega⟩
 ·have:=aaV hN;simpa [o.bc,bG.bc,dJ]using this
 ·have:=e0 0 _ jt;rw [(rF _ _ _ _ _ _).bc]at this;exact this
theorem aaY{h ad:Bytes}{bA bz bl bB i0 i1 i2 i3:Int}{aq ng:Option (TypeId×Nat)}(e:cn h bA bz bl bB aq=cn ad i0 i1 i2 i3 ng):aq=ng:=by simp only [R.made,R.mk.injEq]at e;exact e.2.2.2.2.2.2.2
theorem aaZ:∀args h a,H8 args h=some a→a.dw Tryz.prog aw 57 args h:=by
 intro args h a e;unfold H8 at e;split at e<;>first|(cases e;done)|skip
 rename_i a;simp only [Option.some.injEq]at e;subst e;intro ac;obtain⟨hold,bA,bz,bl,bB,aq,ag⟩:=ac.head.ex;obtain⟨aP,i0,i1,i2,i3,aC,g1,g2,g3⟩:=Py ac.head.lt ag;rw [←ac.head.at']at aC;refine⟨aP,aC,⟨fun AZ bE aM aR bu ng kc=> ?_,g2,g3⟩⟩;rw [ag]at kc;have:=aaY (Option.some.inj kc);subst this;exact⟨i0,i1,i2,i3,g1⟩
noncomputable def aa0:fc:=A2.add 57 H8
theorem je:eW Tryz.prog aw aa0:=xn.add aaZ
theorem aa1(H:j)(d:Nat)(U:o→j→Prop)(aY:bF (H.next) (H.next) (bF (H.next) (H.next+1) (cj env.D 4 ⟨d,0,0,3,6⟩ (j.mk (H.next+17) (H.2))=some (o.bool true)∧bF (H.next) (H.next+17) (bK (H.next) (H.next+18) (U (.slice none 0 0) (j.mk (H.next+17+1) (j.aJ (j.mk (H.next+1+16) (j.aJ (j.mk (H.next+1) (j.aJ H))))))))))) :
 ∃v p,aI Tryz.prog aw 27 [.ptr (some ⟨d,0,0,0,6⟩)] H v p∧U v p :=
 cb bQ mixed je (an:= .aA (.val 1006 (.bool true)) .nil) (by kernel_rfl) aY
theorem aa2(H:j)(d:Nat)(fB:Option bG)(U:o→j→Prop)(aY:bF (H.next) (H.next) (bF (H.next) (H.next+1) (cj env.D 4 ⟨d,0,0,3,6⟩ (j.mk (H.next+17) (H.2))=some (o.bool false)∧cj env.D 34 ⟨d,0,0,1,6⟩ (j.mk (H.next+17) (H.2))=some (o.slice fB 0 0)∧bF (H.next) (H.next+17) (bK (H.next) (H.next+18) (U (.slice none 0 0) (j.mk (H.next+17+1) (j.aJ (j.mk (H.next+1+16) (j.aJ (j.mk (H.next+1) (j.aJ H))))))))))) :
 ∃v p,aI Tryz.prog aw 27 [.ptr (some ⟨d,0,0,0,6⟩)] H v p∧U v p :=
 cb bQ mixed je (an:= .aA (.val 1006 (.bool false)) (.aA (.val 1012 (.slice fB 0 0)) .nil)) (by kernel_rfl) aY
abbrev yt(bJ:j):j:=(j.mk (bJ.next+2) (j.aJ bJ))
abbrev B0(bJ:j)(x:Nat)(af:o):dk:=(.aA (.val 13003 af) (.aA (.act 14003 (.tuple []) fun x=>bJ) .nil))
abbrev Pz(t:Bytes):o:=o.agg [.int .i8 7,.int .i32 0,.int .u8 0,.int .i64 0,.int .i64 0,.str t]
abbrev B1(x:Nat):o:=o.agg [.int .i8 1,.int .i32 (x:Int),.int .u8 2,.int .i64 0,.int .i64 0,.str []]
theorem B2(H H1 aH aZ bJ:j)(d u et x:Nat)(fB tr:Option bG)(t:Bytes)(af:o)(U:o→j→Prop)(aY:bF (H.next) (H.next) (bF (H.next) (H.next+1) (cj env.D 4 ⟨d,0,0,3,6⟩ (j.mk (H.next+17) (H.2))=some (o.bool false)∧cj env.D 34 ⟨d,0,0,1,6⟩ (j.mk (H.next+17) (H.2))=some (o.slice fB (et+1) (et+1))∧bF (H.next) (H.next+17) (b0 env e7 (H.next+20) (bU [(23,.ptr (some ⟨d,0,0,5,6⟩)),(22,.ptr (some ⟨d,0,0,0,6⟩)),(21,.ptr (some ⟨d,0,0,0,6⟩)),(20,.bool false),(19,.bool false),(18,.int .i64 (↑(et+1):Int)),(17,.slice fB (et+1) (et+1)),(16,.ptr (some ⟨d,0,0,1,6⟩)),(15,.ptr (some ⟨d,0,0,0,6⟩)),(14,.ptr (some ⟨d,0,0,0,6⟩)),(13,.bool false),(12,.bool false),(11,.bool false),(10,.ptr (some ⟨d,0,0,3,6⟩)),(9,.ptr (some ⟨d,0,0,0,6⟩)),(8,.ptr (some ⟨d,0,0,0,6⟩)),(7,.bool false),(6,.bool false),(5,.ptr (some ⟨d,0,0,0,6⟩)),(2,.slice none 0 0),(0,.ptr (some ⟨d,0,0,0,6⟩))]) (j.mk (H.next+21) (H.2)) (Op.store 56 (Operand.tmp 23) (Operand.const (Value.slice none 0 0)))=some (o.tuple [],H1)∧bF (H.next) (H1.next) (cj env.D 64 ⟨d,0,0,4,6⟩ (j.mk (H1.next+5) (H1.2))=some (o.ptr (some ⟨u,0,0,0,5⟩))∧c7 Tryz.prog aw 57 [.ptr (some ⟨u,0,0,0,5⟩)] (j.mk (H1.next+5) (H1.2)) o.undef aH∧bF (H.next) (aH.next) (cj env.D 34 ⟨d,0,0,1,6⟩ (j.mk (aH.next+6) (aH.2))=some (o.slice tr (et+1) (et+1))∧eO env (aH.next+4) (bU [(32,.slice tr (et+1) (et+1)),(31,.ptr (some ⟨d,0,0,1,6⟩)),(30,.ptr (some ⟨d,0,0,0,6⟩)),(29,.ptr (some ⟨d,0,0,0,6⟩)),(28,o.undef),(27,.ptr (some ⟨u,0,0,0,5⟩)),(26,.ptr (some ⟨d,0,0,4,6⟩)),(25,.ptr (some ⟨d,0,0,0,6⟩)),(24,.ptr (some ⟨d,0,0,0,6⟩)),(23,.ptr (some ⟨d,0,0,5,6⟩)),(22,.ptr (some ⟨d,0,0,0,6⟩)),(21,.ptr (some ⟨d,0,0,0,6⟩)),(20,.bool false),(19,.bool false),(18,.int .i64 (↑(et+1):Int)),(17,.slice fB (et+1) (et+1)),(16,.ptr (some ⟨d,0,0,1,6⟩)),(15,.ptr (some ⟨d,0,0,0,6⟩)),(14,.ptr (some ⟨d,0,0,0,6⟩)),(13,.bool false),(12,.bool false),(11,.bool false),(10,.ptr (some ⟨d,0,0,3,6⟩)),(9,.ptr (some ⟨d,0,0,0,6⟩)),(8,.ptr (some ⟨d,0,0,0,6⟩)),(7,.bool false),(6,.bool false),(5,.ptr (some ⟨d,0,0,0,6⟩)),(2,.slice none 0 0),(0,.ptr (some ⟨d,0,0,0,6⟩))]) (j.mk (aH.next+6) (aH.2)) (Op.convert 34 9 (Operand.tmp 32))=some (o.str t,(j.mk (aH.next+6) (aH.2)))∧bF (H.next) (aH.next+6) (bF (H.next) (aH.next+7) ((t=[(27:UInt8)]→bF (H.next) (aH.next+9) (c7 Tryz.prog aw 58 [.ptr (some ⟨d,0,0,0,6⟩),rO] (j.mk (aH.next+12) (aH.2)) (.tuple []) aZ∧bF (H.next) (aZ.next) (cj env.D 56 ⟨d,0,0,5,6⟩ (j.mk (aZ.next+5) (aZ.2))=some af∧bF (H.next) (aZ.next+5) (b0 env e7 (aZ.next+8) (bU [(59,.ptr (some ⟨d,0,0,5,6⟩)),(58,.ptr (some ⟨d,0,0,0,6⟩)),(57,.ptr (some ⟨d,0,0,0,6⟩)),(4,af),(56,af),(55,.ptr (some ⟨d,0,0,5,6⟩)),(54,.ptr (some ⟨d,0,0,0,6⟩)),(53,.ptr (some ⟨d,0,0,0,6⟩)),(43,.tuple []),(42,rO),(41,.ptr (some ⟨d,0,0,0,6⟩)),(39,.bool true),(40,.bool true),(34,.str t),(3,.str t),(33,.str t),(32,.slice tr (et+1) (et+1)),(31,.ptr (some ⟨d,0,0,1,6⟩)),(30,.ptr (some ⟨d,0,0,0,6⟩)),(29,.ptr (some ⟨d,0,0,0,6⟩)),(28,o.undef),(27,.ptr (some ⟨u,0,0,0,5⟩)),(26,.ptr (some ⟨d,0,0,4,6⟩)),(25,.ptr (some ⟨d,0,0,0,6⟩)),(24,.ptr (some ⟨d,0,0,0,6⟩)),(23,.ptr (some ⟨d,0,0,5,6⟩)),(22,.ptr (some ⟨d,0,0,0,6⟩)),(21,.ptr (some ⟨d,0,0,0,6⟩)),(20,.bool false),(19,.bool false),(18,.int .i64 (↑(et+1):Int)),(17,.slice fB (et+1) (et+1)),(16,.ptr (some ⟨d,0,0,1,6⟩)),(15,.ptr (some ⟨d,0,0,0,6⟩)),(14,.ptr (some ⟨d,0,0,0,6⟩)),(13,.bool false),(12,.bool false),(11,.bool false),(10,.ptr (some ⟨d,0,0,3,6⟩)),(9,.ptr (some ⟨d,0,0,0,6⟩)),(8,.ptr (some ⟨d,0,0,0,6⟩)),(7,.bool false),(6,.bool false),(5,.ptr (some ⟨d,0,0,0,6⟩)),(2,.slice none 0 0),(0,.ptr (some ⟨d,0,0,0,6⟩))]) (j.mk (aZ.next+9) (aZ.2)) (Op.store 56 (Operand.tmp 59) (Operand.const (Value.slice none 0 0)))=some (o.tuple [],bJ)∧bF (H.next) (bJ.next) (bK (H.next) (bJ.next+2) (U af (yt bJ)))))))∧(¬t=[(27:UInt8)]→bF (H.next) (aH.next+9) ((t=[(27:UInt8),(91:UInt8)]→bF (H.next) (aH.next+11) (oD env.D 9 (.str t) (.int .i64 1)=some (.int .u8 (x:Int))∧(-2147483648≤(x:Int)∧(x:Int)≤2147483647)∧c7 Tryz.prog aw 58 [.ptr (some ⟨d,0,0,0,6⟩),(B1 x)] (j.mk (aH.next+17) (aH.2)) (.tuple []) aZ∧bF (H.next) (aZ.next) (cj env.D 56 ⟨d,0,0,5,6⟩ (j.mk (aZ.next+5) (aZ.2))=some af∧bF (H.next) (aZ.next+5) (b0 env e7 (aZ.next+8) (bU [(59,.ptr (some ⟨d,0,0,5,6⟩)),(58,.ptr (some ⟨d,0,0,0,6⟩)),(57,.ptr (some ⟨d,0,0,0,6⟩)),(4,af),(56,af),(55,.ptr (some ⟨d,0,0,5,6⟩)),(54,.ptr (some ⟨d,0,0,0,6⟩)),(53,.ptr (some ⟨d,0,0,0,6⟩)),(52,.tuple []),(51,(B1 x)),(50,.int .i32 (x:Int)),(49,.int .u8 (x:Int)),(48,.str t),(47,.ptr (some ⟨d,0,0,0,6⟩)),(44,.bool true),(45,.bool true),(39,.bool false),(40,.bool false),(34,.str t),(3,.str t),(33,.str t),(32,.slice tr (et+1) (et+1)),(31,.ptr (some ⟨d,0,0,1,6⟩)),(30,.ptr (some ⟨d,0,0,0,6⟩)),(29,.ptr (some ⟨d,0,0,0,6⟩)),(28,o.undef),(27,.ptr (some ⟨u,0,0,0,5⟩)),(26,.ptr (some ⟨d,0,0,4,6⟩)),(25,.ptr (some ⟨d,0,0,0,6⟩)),(24,.ptr (some ⟨d,0,0,0,6⟩)),(23,.ptr (some ⟨d,0,0,5,6⟩)),(22,.ptr (some ⟨d,0,0,0,6⟩)),(21,.ptr (some ⟨d,0,0,0,6⟩)),(20,.bool false),(19,.bool false),(18,.int .i64 (↑(et+1):Int)),(17,.slice fB (et+1) (et+1)),(16,.ptr (some ⟨d,0,0,1,6⟩)),(15,.ptr (some ⟨d,0,0,0,6⟩)),(14,.ptr (some ⟨d,0,0,0,6⟩)),(13,.bool false),(12,.bool false),(11,.bool false),(10,.ptr (some ⟨d,0,0,3,6⟩)),(9,.ptr (some ⟨d,0,0,0,6⟩)),(8,.ptr (some ⟨d,0,0,0,6⟩)),(7,.bool false),(6,.bool false),(5,.ptr (some ⟨d,0,0,0,6⟩)),(2,.slice none 0 0),(0,.ptr (some ⟨d,0,0,0,6⟩))]) (j.mk (aZ.next+9) (aZ.2)) (Op.store 56 (Operand.tmp 59) (Operand.const (Value.slice none 0 0)))=some (o.tuple [],bJ)∧bF (H.next) (bJ.next) (bK (H.next) (bJ.next+2) (U af (yt bJ)))))))∧(¬t=[(27:UInt8),(91:UInt8)]→bF (H.next) (aH.next+11) ((t=[(27:UInt8),(79:UInt8)]→bF (H.next) (aH.next+13) (oD env.D 9 (.str t) (.int .i64 1)=some (.int .u8 (x:Int))∧(-2147483648≤(x:Int)∧(x:Int)≤2147483647)∧c7 Tryz.prog aw 58 [.ptr (some ⟨d,0,0,0,6⟩),(B1 x)] (j.mk (aH.next+19) (aH.2)) (.tuple []) aZ∧bF (H.next) (aZ.next) (cj env.D 56 ⟨d,0,0,5,6⟩ (j.mk (aZ.next+5) (aZ.2))=some af∧bF (H.next) (aZ.next+5) (b0 env e7 (aZ.next+8) (bU [(59,.ptr (some ⟨d,0,0,5,6⟩)),(58,.ptr (some ⟨d,0,0,0,6⟩)),(57,.ptr (some ⟨d,0,0,0,6⟩)),(4,af),(56,af),(55,.ptr (some ⟨d,0,0,5,6⟩)),(54,.ptr (some ⟨d,0,0,0,6⟩)),(53,.ptr (some ⟨d,0,0,0,6⟩)),(52,.tuple []),(51,(B1 x)),(50,.int .i32 (x:Int)),(49,.int .u8 (x:Int)),(48,.str t),(47,.ptr (some ⟨d,0,0,0,6⟩)),(44,.bool true),(46,.bool true),(45,.bool false),(39,.bool false),(40,.bool false),(34,.str t),(3,.str t),(33,.str t),(32,.slice tr (et+1) (et+1)),(31,.ptr (some ⟨d,0,0,1,6⟩)),(30,.ptr (some ⟨d,0,0,0,6⟩)),(29,.ptr (some ⟨d,0,0,0,6⟩)),(28,o.undef),(27,.ptr (some ⟨u,0,0,0,5⟩)),(26,.ptr (some ⟨d,0,0,4,6⟩)),(25,.ptr (some ⟨d,0,0,0,6⟩)),(24,.ptr (some ⟨d,0,0,0,6⟩)),(23,.ptr (some ⟨d,0,0,5,6⟩)),(22,.ptr (some ⟨d,0,0,0,6⟩)),(21,.ptr (some ⟨d,0,0,0,6⟩)),(20,.bool false),(19,.bool false),(18,.int .i64 (↑(et+1):Int)),(17,.slice fB (et+1) (et+1)),(16,.ptr (some ⟨d,0,0,1,6⟩)),(15,.ptr (some ⟨d,0,0,0,6⟩)),(14,.ptr (some ⟨d,0,0,0,6⟩)),(13,.bool false),(12,.bool false),(11,.bool false),(10,.ptr (some ⟨d,0,0,3,6⟩)),(9,.ptr (some ⟨d,0,0,0,6⟩)),(8,.ptr (some ⟨d,0,0,0,6⟩)),(7,.bool false),(6,.bool false),(5,.ptr (some ⟨d,0,0,0,6⟩)),(2,.slice none 0 0),(0,.ptr (some ⟨d,0,0,0,6⟩))]) (j.mk (aZ.next+9) (aZ.2)) (Op.store 56 (Operand.tmp 59) (Operand.const (Value.slice none 0 0)))=some (o.tuple [],bJ)∧bF (H.next) (bJ.next) (bK (H.next) (bJ.next+2) (U af (yt bJ)))))))∧(¬t=[(27:UInt8),(79:UInt8)]→bF (H.next) (aH.next+13) (c7 Tryz.prog aw 58 [.ptr (some ⟨d,0,0,0,6⟩),(Pz t)] (j.mk (aH.next+17) (aH.2)) (.tuple []) aZ∧bF (H.next) (aZ.next) (cj env.D 56 ⟨d,0,0,5,6⟩ (j.mk (aZ.next+5) (aZ.2))=some af∧bF (H.next) (aZ.next+5) (b0 env e7 (aZ.next+8) (bU [(59,.ptr (some ⟨d,0,0,5,6⟩)),(58,.ptr (some ⟨d,0,0,0,6⟩)),(57,.ptr (some ⟨d,0,0,0,6⟩)),(4,af),(56,af),(55,.ptr (some ⟨d,0,0,5,6⟩)),(54,.ptr (some ⟨d,0,0,0,6⟩)),(53,.ptr (some ⟨d,0,0,0,6⟩)),(38,.tuple []),(37,(Pz t)),(36,.str t),(35,.ptr (some ⟨d,0,0,0,6⟩)),(44,.bool false),(46,.bool false),(45,.bool false),(39,.bool false),(40,.bool false),(34,.str t),(3,.str t),(33,.str t),(32,.slice tr (et+1) (et+1)),(31,.ptr (some ⟨d,0,0,1,6⟩)),(30,.ptr (some ⟨d,0,0,0,6⟩)),(29,.ptr (some ⟨d,0,0,0,6⟩)),(28,o.undef),(27,.ptr (some ⟨u,0,0,0,5⟩)),(26,.ptr (some ⟨d,0,0,4,6⟩)),(25,.ptr (some ⟨d,0,0,0,6⟩)),(24,.ptr (some ⟨d,0,0,0,6⟩)),(23,.ptr (some ⟨d,0,0,5,6⟩)),(22,.ptr (some ⟨d,0,0,0,6⟩)),(21,.ptr (some ⟨d,0,0,0,6⟩)),(20,.bool false),(19,.bool false),(18,.int .i64 (↑(et+1):Int)),(17,.slice fB (et+1) (et+1)),(16,.ptr (some ⟨d,0,0,1,6⟩)),(15,.ptr (some ⟨d,0,0,0,6⟩)),(14,.ptr (some ⟨d,0,0,0,6⟩)),(13,.bool false),(12,.bool false),(11,.bool false),(10,.ptr (some ⟨d,0,0,3,6⟩)),(9,.ptr (some ⟨d,0,0,0,6⟩)),(8,.ptr (some ⟨d,0,0,0,6⟩)),(7,.bool false),(6,.bool false),(5,.ptr (some ⟨d,0,0,0,6⟩)),(2,.slice none 0 0),(0,.ptr (some ⟨d,0,0,0,6⟩))]) (j.mk (aZ.next+9) (aZ.2)) (Op.store 56 (Operand.tmp 59) (Operand.const (Value.slice none 0 0)))=some (o.tuple [],bJ)∧bF (H.next) (bJ.next) (bK (H.next) (bJ.next+2) (U af (yt bJ))))))))))))))))))) :
 ∃v p,aI Tryz.prog aw 27 [.ptr (some ⟨d,0,0,0,6⟩)] H v p∧U v p :=
 cb bQ mixed je (an:= .aA (.val 1006 (.bool false)) (.aA (.val 1012 (.slice fB (et+1) (et+1))) (.aA (.act 3003 (.tuple []) fun x=>H1) (.aA (.val 4003 (.ptr (some ⟨u,0,0,0,5⟩))) (.aA (.act 4004 o.undef fun x=>aH) (.aA (.val 5003 (.slice tr (et+1) (et+1))) (.aA (.kZ 5004 (.str t) fun h=>h) (.aK 8000 (.aA (.act 9002 (.tuple []) fun x=>aZ) (B0 bJ x af)) (.aK 10000 (.aA (.val 12002 (.int .u8 (x:Int))) (ag 12003 (.aA (.act 12005 (.tuple []) fun x=>aZ) (B0 bJ x af)))) (.aK 11000 (.aA (.val 12002 (.int .u8 (x:Int))) (ag 12003 (.aA (.act 12005 (.tuple []) fun x=>aZ) (B0 bJ x af)))) (.aA (.act 7003 (.tuple []) fun x=>aZ) (B0 bJ x af)))))))))))) (by kernel_rfl) aY
theorem PA{h:j}{d f u:Nat}{aX ah af:o}{cr:Bool}{aq:Option (TypeId×Nat)}(e:h.get d=some (b2 d f u aX ah cr af aq)):cj (b5.D env) 4 ⟨d,0,0,3,6⟩ h=some (.bool cr):=by
 have b':(b5.D env 4).map (fun d=>d.kind.isAgg)=some false:=by kernel_rfl
 obtain⟨x,p,ad⟩:=Option.map_eq_some_iff.1 b';unfold cj;rw [p,e];simp [R.elem?,R.cO,iD,ad,R.made]
theorem PB{h:j}{d f u:Nat}{aX ah af:o}{cr:Bool}{aq:Option (TypeId×Nat)}(e:h.get d=some (b2 d f u aX ah cr af aq)):cj (b5.D env) 34 ⟨d,0,0,1,6⟩ h=some aX:=by
 have b':(b5.D env 34).map (fun d=>d.kind.isAgg)=some false:=by kernel_rfl
 obtain⟨x,p,ad⟩:=Option.map_eq_some_iff.1 b';unfold cj;rw [p,e];simp [R.elem?,R.cO,iD,ad,R.made]
theorem aa3{h:j}{d f u:Nat}{aX ah af:o}{cr:Bool}{aq:Option (TypeId×Nat)}(e:h.get d=some (b2 d f u aX ah cr af aq)):cj (b5.D env) 64 ⟨d,0,0,4,6⟩ h=some (.ptr (some ⟨u,0,0,0,5⟩)):=by
 have b':(b5.D env 64).map (fun d=>d.kind.isAgg)=some false:=by kernel_rfl
 obtain⟨x,p,ad⟩:=Option.map_eq_some_iff.1 b';unfold cj;rw [p,e];simp [R.elem?,R.cO,iD,ad,R.made]
theorem aa4{H:j}{d k:Nat}{v:o}{bo:gg}{l:Bytes}(ap:i' H d k v bo l)(b1:l≠[]):∃a,v=.slice (some a) l.length l.length∧e2 1 (.slice (some a) l.length l.length) H=some (aL l):=by
 cases bo with
 |nil=>exact absurd ap.2.1 b1
 |one =>
  obtain⟨_,rfl,ag,rfl⟩:=ap;refine⟨_,rfl,?_⟩;simp only [e2,if_true,ag];rfl
 |grown C =>
  obtain⟨_,J,m,f,rfl,ag⟩:=ap;refine⟨_,rfl,?_⟩;have aS:l.length≠0:=fun h=>b1 (List.length_eq_zero_iff.1 h)
  simp only [e2,if_true,ag];rw [if_neg aS,if_pos ⟨by simp [R.cO,aL],by simp [aL]⟩];simp only [aL,List.map_append];rw [List.drop_left' (by simp),List.take_of_length_le (by simp)]
theorem B3{F:bP}{bh k n c:Nat}{H:j}{a:bG}{l:Bytes}(a8:bU F (.tmp k)=.slice (some a) n c)(fu:e2 1 (.slice (some a) n c) H=some (aL l)):eO env bh (bU F) H (Op.convert 34 9 (Operand.tmp k))=some (.str l,H):=by
 have p:(b5.D env 34).map (fun d=>d.kind)=some (.slice 5):=by kernel_rfl
 have ad:(b5.D env 9).map (fun d=>d.kind)=some .string:=by kernel_rfl
 have bd:(b5.D env 5).map (fun d=>d.kind)=some (.int .u8):=by kernel_rfl
 obtain⟨kt,d1,aM⟩:=Option.map_eq_some_iff.1 p;obtain⟨t',d2,aR⟩:=Option.map_eq_some_iff.1 ad;obtain⟨sy,d3,bu⟩:=Option.map_eq_some_iff.1 bd;simp only [eO,a8,oG,d1,d2,aM,aR,d3,bu,fu,Ao,Option.map_some]
theorem aa5{H aH:j}{d:Nat}{aF:cL}{f:Nat}{cr:Bool}{bo:gg}{kept hold aB:Bytes}{es:List bj}{k:Nat}(g:dQ H d aF f cr bo kept hold aB es)(aC:aF.u≠d)(hu:∃i0 i1 i2 i3 aq,aH.get aF.u=some (cn [] i0 i1 i2 i3 aq))(ag:∀C,C<H.next+k→C≠aF.u→aH.get C=H.get C)(aS:H.next+k≤aH.next)(aa6:aF.k≠d→aF.k≠aF.u)(aa7:aF.I≠d→aF.I≠aF.u)(no:aF.ab≠d→aF.ab≠aF.u):dQ aH d aF f cr bo kept [] aB es:=by obtain⟨aX,ah,af,aq,e,ap,ac,ai⟩:=g.ex;have az:=g.lt;refine⟨⟨aX,ah,af,aq,?_,ap.cs fun h=>ag _ (by omega) (aa6 h),ac.cs fun h=>ag _ (by omega) (aa7 h),ai.cs fun h=>ag _ (by omega) (no h)⟩,hu,by omega,g.ne⟩;rw [ag d (by omega) (Ne.symm aC)];exact e
theorem dQ.apart{H:j}{d:Nat}{aF:cL}{f:Nat}{cr:Bool}{bo:gg}{kept hold aB:Bytes}{es:List bj}(g:dQ H d aF f cr bo kept hold aB es):aF.u≠d∧(aF.k≠d→aF.k≠aF.u)∧(aF.I≠d→aF.I≠aF.u)∧(aF.ab≠d→aF.ab≠aF.u):=by
 obtain⟨aX,ah,af,aq,e,ap,ac,ai⟩:=g.ex;obtain⟨bA,bz,bl,bB,aE,hu⟩:=g.iq;refine⟨fun h=> ?_,fun p h=> ?_,fun p h=> ?_,fun p h=> ?_⟩
 ·rw [h,e]at hu;simp [R.made]at hu
 ·cases bo with
  |nil=>exact p ap.2.2
  |one=>have:=ap.2.2.1;rw [h,hu]at this;simp [R.made]at this
  |grown dO=>obtain⟨_,_,_,_,_,this⟩:=ap;rw [h,hu]at this;simp [R.made]at this
 ·rcases ac with ⟨_,_,ac⟩|⟨_,_,_,_,_,_,this⟩
  ·exact p ac
  ·rw [h,hu]at this;simp [R.made]at this
 ·rcases ai with ⟨_,_,ac⟩|⟨_,_,_,_,_,_,this⟩
  ·exact p ac
  ·rw [h,hu]at this;simp [R.made]at this
theorem dQ.next{h:j}{d:Nat}{aF:cL}{f:Nat}{cr:Bool}{bo:gg}{kept hold aB:Bytes}{es:List bj}{k:Nat}(g:dQ h d aF f cr bo kept hold aB es):dQ ⟨h.next+k,h.aJ⟩ d aF f cr bo kept hold aB es:=by
 refine⟨g.ex,g.iq,?_,g.ne⟩;have:=g.lt;show d<h.next+k∧aF.u<h.next+k∧aF.k<h.next+k∧aF.I<h.next+k∧aF.ab<h.next+k
 omega
structure yu(H:j)(d:Nat)(aF aQ:cL)(ab:Nat):Prop where
 off:lQ ab d aQ
 of:ab=aF.u∨ab=aF.k∨ab=aF.I∨ab=aF.ab∨H.next≤ab
theorem aa8{aH:j}{d:Nat}{db:cL}{s:bO}{es:List bj}{f2:Nat}{u1 u2 rE:o}{rC:Bool}{ng:Option (TypeId×Nat)}{a b:Nat}(g2:cu aH d db s es)(H5:aH.get d=some (b2 d f2 db.u u1 u2 rC rE ng))(hC:jb aH d db.ab rE es) :
 ∀(aZ:j),((⟨aH.next+a,aH.aJ⟩:j).set d (b2 d f2 db.u u1 u2 rC (.slice none 0 0) ng))=aZ→lR ⟨aZ.next+b,aZ.aJ⟩ rE es db.ab∧(es≠[]→lQ db.ab d ⟨db.u,db.k,db.I,d⟩):=by
 intro aZ qz;have iL:aZ.next=aH.next+a:=by rw [←qz];rfl
 rcases hC with ⟨p,ad,bd⟩|⟨p,ad,J,nv,mH,bd,bS⟩
 ·exact⟨.inl ⟨p,ad⟩,fun h=>absurd ad h⟩
 ·have H6:=(by obtain⟨bo,k9,_⟩:=g2;exact k9.lt:d<aH.next∧db.u<aH.next∧db.k<aH.next∧db.I<aH.next∧db.ab<aH.next)
  have e0:(⟨aZ.next+b,aZ.aJ⟩:j).get db.ab=some (b3 (es.map cm) 6 J nv mH ew):=by rw [←bS];show aZ.get db.ab=aH.get db.ab;rw [←qz,j.fl _ _ (Ne.symm p)];rfl
  have jq:lQ db.ab d ⟨db.u,db.k,db.I,d⟩:=by
   obtain⟨bo,k9,_⟩:=g2;obtain⟨F3,im,F4,F5,dT,dY,eo,hK⟩:=k9.ex;obtain⟨bA,bz,bl,bB,aE,hu⟩:=k9.iq;refine⟨p,fun h=> ?_,fun h=> ?_,fun h=> ?_,p⟩
   ·have h:db.ab=db.u:=h;rw [h,hu]at bS;simp [R.made]at bS
   ·have h:db.ab=db.k:=h;cases bo with
    |nil=>exact p (by rw [h];exact dY.2.2)
    |one=>have:=dY.2.2.1;rw [←h,bS]at this;simp [R.made]at this
    |grown dO=>obtain⟨_,_,_,_,_,this⟩:=dY;rw [←h,bS]at this;simp at this
   ·have h:db.ab=db.I:=h;rcases eo with ⟨_,_,eo⟩|⟨_,_,_,_,_,_,this⟩
    ·exact p (by rw [h];exact eo)
    ·rw [←h,bS]at this;simp at this
  exact⟨.inr ⟨ad,by show db.ab<aZ.next+b;omega,J,nv,mH,bd,e0⟩,fun _=>jq⟩
theorem aa9{H:j}{d:Nat}{aF:cL}{s:bO}(g:cu H d aF s [])(fx:Keys.Good s)(lm:s.kept.length<2^40) :
 ∃aP v aQ eG,aI Tryz.prog aw 27 [.ptr (some ⟨d,0,0,0,6⟩)] H v aP∧cu aP d aQ (flush s).1 []∧Fr H aP d aF aQ∧lR aP v (flush s).2 eG∧((flush s).2≠[]→yu H d aF aQ eG):=by
 have PC:∀v aa,v=o.slice none 0 0∧aa=⟨H.next+18,H.aJ⟩→flush s=(s,[])→aI Tryz.prog aw 27 [.ptr (some ⟨d,0,0,0,6⟩)] H v aa →
  ∃aP v aQ eG,aI Tryz.prog aw 27 [.ptr (some ⟨d,0,0,0,6⟩)] H v aP∧cu aP d aQ (flush s).1 []∧Fr H aP d aF aQ∧lR aP v (flush s).2 eG∧((flush s).2≠[]→yu H d aF aQ eG):=by
  rintro v aa ⟨rfl,rfl⟩ a8 aC;refine⟨_,_,aF,0,aC,by rw [a8];exact oe g,⟨by show H.next≤H.next+18;omega,fun C _ _ _ _ _ _=>rfl,fun x ae=>by omega⟩,.inl ⟨rfl,by rw [a8]⟩,fun h=>absurd (by rw [a8]) h⟩
 obtain⟨bo,k9,an⟩:=id g;obtain⟨aX,ah,af,aq,e,ap,ac,ai⟩:=k9.ex;by_cases nh:s.cp=.cW
 ·have az:=PA (h:=⟨H.next+17,H.aJ⟩) e;rw [decide_eq_true nh]at az;obtain⟨v,aa,aC,aD⟩:=aa1 H d (fun v aa=>v=o.slice none 0 0∧aa=⟨H.next+18,H.aJ⟩) (bq (Nat.le_refl _) (bq (by omega) ⟨az,bq (by omega) (rK (by omega) ⟨rfl,rfl⟩)⟩));exact PC v aa aD (by unfold flush;rw [if_pos (.inl nh)]) aC
 have jE:=PA (h:=⟨H.next+17,H.aJ⟩) e;rw [decide_eq_false nh]at jE;have kD:=PB (h:=⟨H.next+17,H.aJ⟩) e;by_cases gF:s.kept=[]
 ·obtain⟨fB,bg⟩:=H7 ap;rw [bg,gF]at kD;obtain⟨v,aa,aC,aD⟩:=aa2 H d fB (fun v aa=>v=o.slice none 0 0∧aa=⟨H.next+18,H.aJ⟩) (bq (Nat.le_refl _) (bq (by omega) ⟨jE,kD,bq (by omega) (rK (by omega) ⟨rfl,rfl⟩)⟩));exact PC v aa aD (by unfold flush;rw [if_pos (.inr gF)]) aC
 obtain⟨et,kU⟩:∃et,s.kept.length=et+1:=⟨s.kept.length-1,by have:s.kept.length≠0:=fun h=>gF (List.length_eq_zero_iff.1 h);omega⟩
 obtain⟨f,xk,lL,aa',A1,aba,hc,agc,mL,hs⟩:=g.clear;obtain⟨g1,lP⟩:=hs 21;generalize ys:((⟨H.next+21,H.aJ⟩:j).set d (b2 d f aF.u xk lL aa' (.slice none 0 0) aba))=H1 at g1 lP;have iV:ki (b5.D env) 56 ⟨d,0,0,5,6⟩ (.slice none 0 0) ⟨H.next+21,H.aJ⟩=some H1:=by rw [←ys];exact BY hc
 have kF:H1.next=H.next+21:=by rw [←ys];rfl
 obtain⟨abb,yv,eA⟩:=id g1;obtain⟨agd,j0,age,agf,bn,gq,po,jv⟩:=yv.ex;obtain⟨bA,bz,bl,bB,aE,abc⟩:=yv.iq;have B4:=yv.apart;have B5:=yv.lt;have sk:=aa3 (h:=⟨H1.next+5,H1.aJ⟩) bn;obtain⟨aH,i0,i1,i2,i3,we,abd,kc,jc⟩:=Py (H:=⟨H1.next+5,H1.aJ⟩) (u:=aF.u) (by have:=B5.2.1;show aF.u<H1.next+5;exact Nat.lt_of_lt_of_le this (by omega)) abc;have jc:H1.next+5≤aH.next:=jc
 have H9:dQ aH d ⟨aF.u,aF.k,aF.I,d⟩ (cK s.cp) (decide (s.cp=.cW)) abb s.kept [] s.aB []:=aa5 yv B4.1 ⟨_,_,_,_,_,abd⟩ kc jc B4.2.1 B4.2.2.1 B4.2.2.2;obtain⟨u1,u2,rE,ng,bs,cB,u3,hC⟩:=H9.ex;obtain⟨a,tV,fu⟩:=aa4 cB gF;have yw:=PB (h:=⟨aH.next+6,aH.aJ⟩) bs;obtain⟨fB,bg⟩:=H7 ap;rw [bg,kU]at kD;rw [tV,kU]at yw;rw [kU]at fu;rw [decide_eq_false nh]at H9
 have tail:∀(m:Nat)(x:bj),∃aZ bJ v aQ eG,aI Tryz.prog aw 58 [.ptr (some ⟨d,0,0,0,6⟩),cm x] ⟨aH.next+m,aH.aJ⟩ (.tuple []) aZ∧H.next≤aZ.next∧cj (b5.D env) 56 ⟨d,0,0,5,6⟩ ⟨aZ.next+5,aZ.aJ⟩=some v∧ki (b5.D env) 56 ⟨d,0,0,5,6⟩ (.slice none 0 0) ⟨aZ.next+9,aZ.aJ⟩=some bJ∧H.next≤bJ.next ∧
  cu ⟨bJ.next+2,bJ.aJ⟩ d aQ ⟨.ground,[],[],s.aB⟩ []∧Fr H ⟨bJ.next+2,bJ.aJ⟩ d aF aQ∧lR ⟨bJ.next+2,bJ.aJ⟩ v [x] eG∧yu H d aF aQ eG:=by
  intro m x;obtain⟨aZ,abe,pr,abf,tq⟩:=M7 (H9.next (k:=m)) x (by simp);have g3:cu aZ d pr ⟨.ground,[],[],s.aB⟩ [x]:=⟨.nil,abf,trivial⟩
  have PD:=tq.next
  have PD:aH.next+m≤aZ.next:=PD
  obtain⟨f3,abg,abh,abi,abj,abk,H',h3,agh,abl⟩:=g3.clear;obtain⟨g4,yx⟩:=abl 9;have out:=fun bJ=>aa8 (a:=9) (b:=2) g3 H' h3 bJ
  generalize Ia:((⟨aZ.next+9,aZ.aJ⟩:j).set d (b2 d f3 pr.u abg abh abi (.slice none 0 0) abk))=bJ at g4 yx;have abm:ki (b5.D env) 56 ⟨d,0,0,5,6⟩ (.slice none 0 0) ⟨aZ.next+9,aZ.aJ⟩=some bJ:=by rw [←Ia];exact BY H'
  obtain⟨pb,n3⟩:=out bJ Ia;have abn:bJ.next=aZ.next+9:=by rw [←Ia];rfl
  have qy:Fr H1 ⟨aH.next+m,aH.aJ⟩ d ⟨aF.u,aF.k,aF.I,d⟩ ⟨aF.u,aF.k,aF.I,d⟩:=by refine⟨by show H1.next≤aH.next+m;omega,fun C aV a6 aO ft ht ig=> ?_,fun y bY=>by omega⟩;exact kc C (by show C<H1.next+5;omega) aO
  have PE:=lP.trans (qy.trans tq);refine⟨aZ,bJ,abj,⟨pr.u,pr.k,pr.I,d⟩,pr.ab,abe,by omega,Ps H',abm,by omega,oe g4,H4 (PE.trans yx),pb,n3 (by simp),?_⟩;have:=PE.ids pr.ab (.inr (.inr (.inr rfl)));have b1:=(n3 (by simp)).d;omega
 have done:∀(x:bj)(bJ:j)(v:o)(aQ:cL)(eG:Nat),flush s=(⟨.ground,[],[],s.aB⟩,[x])→aI Tryz.prog aw 27 [.ptr (some ⟨d,0,0,0,6⟩)] H v ⟨bJ.next+2,bJ.aJ⟩→cu ⟨bJ.next+2,bJ.aJ⟩ d aQ ⟨.ground,[],[],s.aB⟩ []→Fr H ⟨bJ.next+2,bJ.aJ⟩ d aF aQ→lR ⟨bJ.next+2,bJ.aJ⟩ v [x] eG→yu H d aF aQ eG →
  ∃aP v aQ eG,aI Tryz.prog aw 27 [.ptr (some ⟨d,0,0,0,6⟩)] H v aP∧cu aP d aQ (flush s).1 []∧Fr H aP d aF aQ∧lR aP v (flush s).2 eG∧((flush s).2≠[]→yu H d aF aQ eG):=by
  intro x bJ v aQ eG a8 aC dH dy gy mT;rw [a8];exact⟨_,v,aQ,eG,aC,dH,dy,gy,fun _=>mT⟩
 have fP:∀{a b:Nat}{I:Prop},a≤b→I→_root_.cond (Nat.ble a b) I False:=fun h k=>by rw [Nat.ble_eq.mpr h];exact k
 by_cases dG:s.kept=[27]
 ·obtain⟨aZ,bJ,v,aQ,eG,t1,t2,t3,t4,t5,t6,t7,t8,t9⟩:=tail 12 (eR 4);obtain⟨v2,ad,aC,rfl,rfl⟩:=B2 H H1 aH aZ bJ d aF.u et 0 fB (some a) s.kept v (fun v2 ad=>v2=v∧ad=⟨bJ.next+2,bJ.aJ⟩) (bq (Nat.le_refl _) (bq (by omega) ⟨jE,kD,bq (by omega) ⟨pq rfl iV,bq (by omega) ⟨sk,⟨we⟩,bq (by omega) ⟨yw,B3 rfl fu,bq (by omega) (bq (by omega) ⟨fun _=>bq (by omega) ⟨⟨t1⟩,bq t2 ⟨t3,bq (by omega) ⟨pq rfl t4,bq t5 (fP (by omega) ⟨rfl,rfl⟩)⟩⟩⟩,fun h=>absurd dG h⟩)⟩⟩⟩⟩));exact done _ _ _ _ _ (by unfold flush;rw [if_neg (by simp [nh,gF]),if_pos dG];rfl) aC t6 t7 t8 t9
 by_cases ee:s.kept=[27,91]
 ·obtain⟨aZ,bJ,v,aQ,eG,t1,t2,t3,t4,t5,t6,t7,t8,t9⟩:=tail 17 (fe 91 2);obtain⟨v2,ad,aC,rfl,rfl⟩:=B2 H H1 aH aZ bJ d aF.u et 91 fB (some a) s.kept v (fun v2 ad=>v2=v∧ad=⟨bJ.next+2,bJ.aJ⟩) (bq (Nat.le_refl _) (bq (by omega) ⟨jE,kD,bq (by omega) ⟨pq rfl iV,bq (by omega) ⟨sk,⟨we⟩,bq (by omega) ⟨yw,B3 rfl fu,bq (by omega) (bq (by omega) ⟨fun h=>absurd h dG,fun _=>bq (by omega) ⟨fun _=>bq (by omega) ⟨by rw [ee];kernel_rfl,⟨by decide,by decide⟩,⟨t1⟩,bq t2 ⟨t3,bq (by omega) ⟨pq rfl t4,bq t5 (fP (by omega) ⟨rfl,rfl⟩)⟩⟩⟩,fun h=>absurd ee h⟩⟩)⟩⟩⟩⟩));exact done _ _ _ _ _ (by unfold flush;rw [if_neg (by simp [nh,gF]),if_neg dG,if_pos (.inl ee),ee];rfl) aC t6 t7 t8 t9
 by_cases f':s.kept=[27,79]
 ·obtain⟨aZ,bJ,v,aQ,eG,t1,t2,t3,t4,t5,t6,t7,t8,t9⟩:=tail 19 (fe 79 2);obtain⟨v2,ad,aC,rfl,rfl⟩:=B2 H H1 aH aZ bJ d aF.u et 79 fB (some a) s.kept v (fun v2 ad=>v2=v∧ad=⟨bJ.next+2,bJ.aJ⟩) (bq (Nat.le_refl _) (bq (by omega) ⟨jE,kD,bq (by omega) ⟨pq rfl iV,bq (by omega) ⟨sk,⟨we⟩,bq (by omega) ⟨yw,B3 rfl fu,bq (by omega) (bq (by omega) ⟨fun h=>absurd h dG,fun _=>bq (by omega) ⟨fun h=>absurd h ee,fun _=>bq (by omega) ⟨fun _=>bq (by omega) ⟨by rw [f'];kernel_rfl,⟨by decide,by decide⟩,⟨t1⟩,bq t2 ⟨t3,bq (by omega) ⟨pq rfl t4,bq t5 (fP (by omega) ⟨rfl,rfl⟩)⟩⟩⟩,fun h=>absurd f' h⟩⟩⟩)⟩⟩⟩⟩));exact done _ _ _ _ _ (by unfold flush;rw [if_neg (by simp [nh,gF]),if_neg dG,if_pos (.inr f'),f'];rfl) aC t6 t7 t8 t9
 ·obtain⟨aZ,bJ,v,aQ,eG,t1,t2,t3,t4,t5,t6,t7,t8,t9⟩:=tail 17 (gV s.kept);obtain⟨v2,ad,aC,rfl,rfl⟩:=B2 H H1 aH aZ bJ d aF.u et 0 fB (some a) s.kept v (fun v2 ad=>v2=v∧ad=⟨bJ.next+2,bJ.aJ⟩) (bq (Nat.le_refl _) (bq (by omega) ⟨jE,kD,bq (by omega) ⟨pq rfl iV,bq (by omega) ⟨sk,⟨we⟩,bq (by omega) ⟨yw,B3 rfl fu,bq (by omega) (bq (by omega) ⟨fun h=>absurd h dG,fun _=>bq (by omega) ⟨fun h=>absurd h ee,fun _=>bq (by omega) ⟨fun h=>absurd h f',fun _=>bq (by omega) ⟨⟨t1⟩,bq t2 ⟨t3,bq (by omega) ⟨pq rfl t4,bq t5 (fP (by omega) ⟨rfl,rfl⟩)⟩⟩⟩⟩⟩⟩)⟩⟩⟩⟩));exact done _ _ _ _ _ (by unfold flush;rw [if_neg (by simp [nh,gF]),if_neg dG,if_neg (by simp [ee,f'])];rfl) aC t6 t7 t8 t9
def og(l:List o):Bool:=l.all fun x=>match x with|.int _ _=>true|_=>false
def B6:Bytes:=[27,91,49,48,53,59,53,117]
noncomputable def Ib(r:Option (o×j)):Bool :=
 match r with
 |some (.tuple [.slice (some a) n c,.int .i64 e],h) =>
  decide (e=0)&&decide (n=8)&&decide (a.bR=0)&&decide (a.es=1)&&Nat.blt a.id h.next&&(match h.get a.id with|some b=>og b.bi|none=>false)&&(match e2 1 (.slice (some a) n c) h with|some l=>decide (bytesOf l=some B6)|none=>false)
 |_=>false
def Ic(r:Option (o×j)):Bool :=
 match r with
 |some (.tuple [.agg [.int .i8 a,.int .i32 b,.int .u8 c,.int .i64 d,.int .i64 e,.str t],.int .i64 f],h)=>decide (a=1)&&decide (b=120)&&decide (c=6)&&decide (d=0)&&decide (e=0)&&decide (t=[])&&decide (f=0)
 |_=>false
def PF:Bytes:=[99,116,114,108,43,97,108,116,43,120]
theorem abo:Ib (o1 Tryz.prog env 400 21 [.agg [.int .i8 1,.int .i32 105,.int .u8 4,.int .i64 0,.int .i64 0,.str []]] ⟨0,.nil⟩)=true:=by decide+kernel
theorem abp:Ic (o1 Tryz.prog env 400 25 [.str PF] ⟨0,.nil⟩)=true:=by decide+kernel
abbrev gP(k:Int)(c:Int)(m:Int):o:= .agg [.int .i8 k,.int .i32 c,.int .u8 m,.int .i64 0,.int .i64 0,.str []]
abbrev nw(q:Nat):o:=o.slice (some ⟨q,0,0,0,1⟩) 8 8
abbrev ps(fB:Nat)(aX:Nat):o:=o.slice (some ⟨fB,aX,0,0,6⟩) 1 1
abbrev oh(a1:Nat)(eD:Nat):o:=o.slice (some ⟨a1,eD,0,0,6⟩) 2 2
abbrev ts(gM:Nat)(hn:bG):o:=o.tuple [.slice (some hn) 8 gM,.int .i64 0]
abbrev Ie:o:=o.agg [.int .i8 2,.int .i32 7,.int .u8 5,.int .i64 0,.int .i64 0,.str []]
abbrev If:o:=o.agg [.int .i8 1,.int .i32 97,.int .u8 0,.int .i64 0,.int .i64 0,.str []]
abbrev B7:o:=o.agg [.int .i8 1,.int .i32 105,.int .u8 4,.int .i64 0,.int .i64 0,.str []]
abbrev yy:o:=o.agg [.int .i8 1,.int .i32 120,.int .u8 6,.int .i64 0,.int .i64 0,.str []]
abbrev tt:o:=o.tuple [yy,.int .i64 0]
theorem abq(H H1 aH aZ bJ fY ec kG qA e':j)(d q a1 eD fB aX x gM agi:Nat)(hn:bG)(U:o→j→Prop)(aY:bF (H.next) (H.next) (bF (H.next) (H.next+1) (c7 Tryz.prog aw 14 [] (j.mk (H.next+3) (H.2)) (.ptr (some ⟨d,0,0,0,6⟩)) H1∧bF (H.next) (H1.next) (bF (H.next) (H1.next+2) (b0 env e7 (H1.next+3) (bU [(14,.ptr (some ⟨d,0,0,0,6⟩)),(13,.bool false),(12,.ptr (some ⟨d,0,0,0,6⟩)),(1,.ptr (some ⟨d,0,0,0,6⟩)),(11,.ptr (some ⟨d,0,0,0,6⟩)),(0,.bool false)]) (j.mk (H1.next+7) (H1.2)) (Op.buildSlice 34 8 {toList:=[(0,Operand.const (Value.int .u8 (97))),(1,Operand.const (Value.int .u8 (27))),(2,Operand.const (Value.int .u8 (91))),(3,Operand.const (Value.int .u8 (49))),(4,Operand.const (Value.int .u8 (59))),(5,Operand.const (Value.int .u8 (54))),(6,Operand.const (Value.int .u8 (67))),(7,Operand.const (Value.int .u8 (27)))]})=some ((nw q),aH)∧eO env (H1.next+4) (bU [(15,(nw q)),(14,.ptr (some ⟨d,0,0,0,6⟩)),(13,.bool false),(12,.ptr (some ⟨d,0,0,0,6⟩)),(1,.ptr (some ⟨d,0,0,0,6⟩)),(11,.ptr (some ⟨d,0,0,0,6⟩)),(0,.bool false)]) aH (Op.convert 34 34 (Operand.tmp 15))=some ((nw q),aH)∧c7 Tryz.prog aw 26 [.ptr (some ⟨d,0,0,0,6⟩),(nw q)] aH ((oh a1 eD)) aZ∧bF (H.next) (aZ.next) (c7 Tryz.prog aw 16 [.ptr (some ⟨d,0,0,0,6⟩)] (j.mk (aZ.next+3) (aZ.2)) (.int .i64 1) bJ∧bF (H.next) (bJ.next) (c7 Tryz.prog aw 27 [.ptr (some ⟨d,0,0,0,6⟩)] (j.mk (bJ.next+3) (bJ.2)) ((ps fB aX)) fY∧bF (H.next) (fY.next) (c7 Tryz.prog aw 21 [B7] (j.mk (fY.next+7) (fY.2)) ((ts gM hn)) ec∧bF (H.next) (ec.next) (c7 Tryz.prog aw 25 [.str [99,116,114,108,43,97,108,116,43,120]] (j.mk (ec.next+7) (ec.2)) (tt) kG∧b0 env e7 (ec.next+4) (bU [(30,.int .i64 0),(29,yy),(27,tt),(28,tt),(6,.int .i64 0),(5,.slice (some hn) 8 gM),(26,.int .i64 0),(25,.slice (some hn) 8 gM),(22,(ts gM hn)),(24,(ts gM hn)),(23,B7),(4,(ps fB aX)),(21,(ps fB aX)),(20,.ptr (some ⟨d,0,0,0,6⟩)),(3,.int .i64 1),(19,.int .i64 1),(18,.ptr (some ⟨d,0,0,0,6⟩)),(2,(oh a1 eD)),(17,(oh a1 eD)),(16,(nw q)),(15,(nw q)),(14,.ptr (some ⟨d,0,0,0,6⟩)),(13,.bool false),(12,.ptr (some ⟨d,0,0,0,6⟩)),(1,.ptr (some ⟨d,0,0,0,6⟩)),(11,.ptr (some ⟨d,0,0,0,6⟩)),(0,.bool false)]) kG (Op.alloc 42)=some (o.ptr (some ⟨x,0,0,0,6⟩),qA)∧b0 env e7 (ec.next+5) (bU [(7,.ptr (some ⟨x,0,0,0,6⟩)),(30,.int .i64 0),(29,yy),(27,tt),(28,tt),(6,.int .i64 0),(5,.slice (some hn) 8 gM),(26,.int .i64 0),(25,.slice (some hn) 8 gM),(22,(ts gM hn)),(24,(ts gM hn)),(23,B7),(4,(ps fB aX)),(21,(ps fB aX)),(20,.ptr (some ⟨d,0,0,0,6⟩)),(3,.int .i64 1),(19,.int .i64 1),(18,.ptr (some ⟨d,0,0,0,6⟩)),(2,(oh a1 eD)),(17,(oh a1 eD)),(16,(nw q)),(15,(nw q)),(14,.ptr (some ⟨d,0,0,0,6⟩)),(13,.bool false),(12,.ptr (some ⟨d,0,0,0,6⟩)),(1,.ptr (some ⟨d,0,0,0,6⟩)),(11,.ptr (some ⟨d,0,0,0,6⟩)),(0,.bool false)]) qA (Op.store 42 (Operand.tmp 7) (Operand.tmp 29))=some (o.tuple [],e')∧bF (H.next) (e'.next) (cj env.D 42 ⟨a1,eD,0,0,6⟩ (j.mk (e'.next+18) (e'.2))=some (If)∧cj env.D 42 ⟨a1,eD,1,0,6⟩ (j.mk (e'.next+18) (e'.2))=some (Ie)∧bF (H.next) (e'.next+18) (cj env.D 42 ⟨fB,aX,0,0,6⟩ (j.mk (e'.next+33) (e'.2))=some (rO)∧bF (H.next) (e'.next+33) (eO env (e'.next+43) (bU [(71,.slice (some hn) 8 gM),(70,.bool true),(69,.bool true),(68,.bool true),(67,.int .i64 0),(66,.bool true),(65,.bool true),(64,.bool true),(63,.bool true),(62,.bool true),(10,.bool true),(61,.bool true),(60,.bool true),(59,rO),(58,rO),(57,.ptr (some ⟨fB,aX,0,0,6⟩)),(56,(ps fB aX)),(55,.bool true),(54,.bool true),(53,.bool true),(52,.int .i64 1),(51,(ps fB aX)),(50,.bool true),(49,.bool true),(48,.int .i64 1),(9,.bool true),(47,.bool true),(46,.bool true),(45,Ie),(44,Ie),(43,.ptr (some ⟨a1,eD,1,0,6⟩)),(42,(oh a1 eD)),(41,.bool true),(40,.bool true),(39,.bool true),(38,If),(37,If),(36,.ptr (some ⟨a1,eD,0,0,6⟩)),(35,(oh a1 eD)),(34,.bool true),(33,.bool true),(32,.int .i64 2),(31,(oh a1 eD)),(8,.int .i64 0),(7,.ptr (some ⟨x,0,0,0,6⟩)),(30,.int .i64 0),(29,yy),(27,tt),(28,tt),(6,.int .i64 0),(5,.slice (some hn) 8 gM),(26,.int .i64 0),(25,.slice (some hn) 8 gM),(22,(ts gM hn)),(24,(ts gM hn)),(23,B7),(4,(ps fB aX)),(21,(ps fB aX)),(20,.ptr (some ⟨d,0,0,0,6⟩)),(3,.int .i64 1),(19,.int .i64 1),(18,.ptr (some ⟨d,0,0,0,6⟩)),(2,(oh a1 eD)),(17,(oh a1 eD)),(16,(nw q)),(15,(nw q)),(14,.ptr (some ⟨d,0,0,0,6⟩)),(13,.bool false),(12,.ptr (some ⟨d,0,0,0,6⟩)),(1,.ptr (some ⟨d,0,0,0,6⟩)),(11,.ptr (some ⟨d,0,0,0,6⟩)),(0,.bool false)]) (j.mk (e'.next+56) (e'.2)) (Op.convert 34 9 (Operand.tmp 71))=some (o.str [27,91,49,48,53,59,53,117],(j.mk (e'.next+56) (e'.2)))∧cj env.D 42 ⟨x,0,0,0,6⟩ (j.mk (e'.next+56) (e'.2))=some (yy)∧bK (H.next) (e'.next+56) (U (.bool true) (j.mk (e'.next+56) (e'.2))))))))))))))) :
 ∃v p,aI Tryz.prog aw 19 [] H v p∧U v p :=
 cb bQ mixed je (an:= .aA (.act 1000 (.ptr (some ⟨d,0,0,0,6⟩)) fun x=>H1) (.aA (.act 4001 ((nw q)) fun x=>aH) (.aA (.kZ 4002 ((nw q)) fun h=>h) (.aA (.act 4003 ((oh a1 eD)) fun x=>aZ) (.aA (.act 5001 (.int .i64 1) fun x=>bJ) (.aA (.act 6001 ((ps fB aX)) fun x=>fY) (.aA (.act 7001 (.tuple [.slice (some hn) 8 gM,.int .i64 0]) fun x=>ec) (.aA (.act 8000 (.tuple [gP 1 120 6,.int .i64 0]) fun x=>kG) (.aA (.act 8004 (.ptr (some ⟨x,0,0,0,6⟩)) fun x=>qA) (.aA (.act 8005 (.tuple []) fun x=>e') (.aA (.val 9006 (gP 1 97 0)) (.aA (.val 9013 (gP 2 7 5)) (.aA (.val 10010 (gP 2 4 0)) (.aA (.kZ 11010 (.str B6) fun h=>h) (.aA (.val 11018 (gP 1 120 6)) .nil))))))))))))))) (by kernel_rfl) aY
abbrev my(b8:Nat)(n:Nat):o:=o.slice (some ⟨0,b8,0,0,6⟩) n n
abbrev nx(bv:Nat)(n:Nat):o:=o.slice (some ⟨1,bv,0,0,6⟩) n n
abbrev B8(b8:Nat)(bv:Nat)(n:Nat)(C:Nat)(bn:o)(bs:o):bP:=[(24,bs),(23,.ptr (some ⟨1,bv,0+Int.toNat (C:Int),0,6⟩)),(22,.int .i64 (C:Int)),(21,(nx bv n)),(20,bn),(19,.ptr (some ⟨0,b8,0+Int.toNat (C:Int),0,6⟩)),(18,.int .i64 (C:Int)),(17,(my b8 n)),(14,.bool true),(13,.int .i64 (n:Int)),(12,(my b8 n)),(11,.int .i64 (C:Int)),(0,(my b8 n)),(1,(nx bv n)),(5,.int .i64 (C:Int))]
theorem PG(A B:R)(b8 bv n C:Nat)(bn bs:o)(U:dc→bP→j→Prop)(aY:((C:Int)<(n:Int)→(0≤(C:Int)∧(C:Int)<(n:Int))∧cj env.D 42 ⟨0,b8,0+Int.toNat (C:Int),0,6⟩ (j.ar 15 [(0,A),(1,B)])=some bn∧(0≤(C:Int)∧(C:Int)<(n:Int))∧cj env.D 42 ⟨1,bv,0+Int.toNat (C:Int),0,6⟩ (j.ar 15 [(0,A),(1,B)])=some bs∧ld env.D (b5.ho env) (lf (Operand.tmp 20) || lf (Operand.tmp 24)) BinOp.neq 42 (bU (B8 b8 bv n C bn bs) (Operand.tmp 20)) (bU (B8 b8 bv n C bn bs) (Operand.tmp 24))=some (o.bool true)∧U .ret [(0,(my b8 n)),(1,(nx bv n)),(4,.bool false),(5,.int .i64 (C:Int))] (j.ar 16 [(0,A),(1,B)]))∧(¬(C:Int)<(n:Int)→U (.exit 0) [(0,(my b8 n)),(1,(nx bv n)),(5,.int .i64 (C:Int))] (j.ar 6 [(0,A),(1,B)]))) :
 ∃e aW p,cx Tryz.prog aw 2 26 (cF Tryz.prog 28 0) [(0,.slice (some ⟨0,b8,0,0,6⟩) n n),(1,.slice (some ⟨1,bv,0,0,6⟩) n n),(5,.int .i64 C)] (j.rows 2 [(0,A),(1,B)]) e aW p∧U e aW p :=
 gm bQ mixed je (an:= .aK 4003 (ag 6002 (.aA (.val 6003 bn) (ag 6006 (.aA (.val 6007 bs) (.aA (.val 6008 (.bool true)) .nil))))) .nil) (cs:=[0,1,4,5]) (by kernel_rfl) aY
theorem abr(A B:R)(b8 bv n C:Nat)(bn bs:o)(U:dc→bP→j→Prop)(aY:((C:Int)<(n:Int)→(0≤(C:Int)∧(C:Int)<(n:Int))∧cj env.D 42 ⟨0,b8,0+Int.toNat (C:Int),0,6⟩ (j.ar 15 [(0,A),(1,B)])=some bn∧(0≤(C:Int)∧(C:Int)<(n:Int))∧cj env.D 42 ⟨1,bv,0+Int.toNat (C:Int),0,6⟩ (j.ar 15 [(0,A),(1,B)])=some bs∧ld env.D (b5.ho env) (lf (Operand.tmp 20) || lf (Operand.tmp 24)) BinOp.neq 42 (bU (B8 b8 bv n C bn bs) (Operand.tmp 20)) (bU (B8 b8 bv n C bn bs) (Operand.tmp 24))=some (o.bool false)∧(-9223372036854775808≤(C:Int)+1∧(C:Int)+1≤9223372036854775807)∧U .normal [(0,(my b8 n)),(1,(nx bv n)),(5,.int .i64 ((C:Int)+1))] (j.ar 18 [(0,A),(1,B)]))∧(¬(C:Int)<(n:Int)→U (.exit 0) [(0,(my b8 n)),(1,(nx bv n)),(5,.int .i64 (C:Int))] (j.ar 6 [(0,A),(1,B)]))) :
 ∃e aW p,cx Tryz.prog aw 2 26 (cF Tryz.prog 28 0) [(0,.slice (some ⟨0,b8,0,0,6⟩) n n),(1,.slice (some ⟨1,bv,0,0,6⟩) n n),(5,.int .i64 C)] (j.rows 2 [(0,A),(1,B)]) e aW p∧U e aW p :=
 gm bQ mixed je (an:= .aK 4003 (ag 6002 (.aA (.val 6003 bn) (ag 6006 (.aA (.val 6007 bs) (.aA (.val 6008 (.bool false)) (ag 5001 .nil)))))) .nil) (cs:=[0,1,4,5]) (by kernel_rfl) aY
theorem abt(H:j)(B:Nat)(U:dc→bP→j→Prop)(aY:bF B (H.next) (U (.exit 0) [(0,.slice none 0 0),(1,.slice none 0 0),(5,.int .i64 0)] (j.mk (H.next+4) (j.aJ H)))) :
 ∃e aW p,cx Tryz.prog aw B 26 (cF Tryz.prog 28 0) [(0,.slice none 0 0),(1,.slice none 0 0),(5,.int .i64 0)] H e aW p∧U e aW p :=
 gm bQ mixed je (an:= .nil) (cs:=[0,1,4,5]) (by kernel_rfl) aY
theorem abu(A B:R)(b8 bv n kH:Nat)(U:o→j→Prop)(aY:some (o.bool ((n:Int) != (n:Int)))=some (o.bool false)∧cx Tryz.prog aw 2 26 (Code.loop (cF Tryz.prog 28 0)) [(0,(my b8 n)),(1,(nx bv n)),(5,.int .i64 0)] (j.ar 9 [(0,A),(1,B)]) (.exit 0) [(0,(my b8 n)),(1,(nx bv n)),(5,.int .i64 (kH:Int))] (j.ar 6 [(0,A),(1,B)])∧U (.bool true) (j.ar 7 [(0,A),(1,B)])) :
 ∃v p,aI Tryz.prog aw 28 [.slice (some ⟨0,b8,0,0,6⟩) n n,.slice (some ⟨1,bv,0,0,6⟩) n n] (j.of [A,B]) v p∧U v p :=
 cb bQ mixed je (an:= .aA (.val 1004 (.bool false)) (.aA (.cs [0,1,5]) (.aA (.loop [(0,(my b8 n)),(1,(nx bv n)),(5,.int .i64 (kH:Int))] (j.ar 6 [(0,A),(1,B)]) (.exit 0)) .nil))) (by kernel_rfl) aY
theorem abv(A B:R)(b8 bv n kH:Nat)(U:o→j→Prop)(aY:some (o.bool ((n:Int) != (n:Int)))=some (o.bool false)∧cx Tryz.prog aw 2 26 (Code.loop (cF Tryz.prog 28 0)) [(0,(my b8 n)),(1,(nx bv n)),(5,.int .i64 0)] (j.ar 9 [(0,A),(1,B)]) .ret [(0,(my b8 n)),(1,(nx bv n)),(4,.bool false),(5,.int .i64 (kH:Int))] (j.ar 16 [(0,A),(1,B)])∧U (.bool false) (j.ar 16 [(0,A),(1,B)])) :
 ∃v p,aI Tryz.prog aw 28 [.slice (some ⟨0,b8,0,0,6⟩) n n,.slice (some ⟨1,bv,0,0,6⟩) n n] (j.of [A,B]) v p∧U v p :=
 cb bQ mixed je (an:= .aA (.val 1004 (.bool false)) (.aA (.cs [0,1,5]) (.aA (.loop [(0,(my b8 n)),(1,(nx bv n)),(4,.bool false),(5,.int .i64 (kH:Int))] (j.ar 16 [(0,A),(1,B)]) .ret) .nil))) (by kernel_rfl) aY
theorem abw(H:j)(U:o→j→Prop)(aY:bF (H.next) (H.next) (bF (H.next) (H.next+1) (bF (H.next) (H.next+6) (cx Tryz.prog aw (H.next) 26 (Code.loop (cF Tryz.prog 28 0)) [(0,.slice none 0 0),(1,.slice none 0 0),(5,.int .i64 0)] (j.mk (H.next+6+1) (j.aJ (j.mk (H.next+1+5) (j.aJ (j.mk (H.next+1) (j.aJ H)))))) (.exit 0) [(0,.slice none 0 0),(1,.slice none 0 0),(5,.int .i64 0)] (j.mk (H.next+11) (j.aJ H))∧bF (H.next) (H.next+11) (bK (H.next) (H.next+12) (U (.bool true) (j.mk (H.next+11+1) (j.aJ (j.mk (H.next+11) (H.2)))))))))) :
 ∃v p,aI Tryz.prog aw 28 [.slice none 0 0,.slice none 0 0] H v p∧U v p :=
 cb bQ mixed je (an:= .aA (.cs [0,1,5]) (.aA (.loop [(0,.slice none 0 0),(1,.slice none 0 0),(5,.int .i64 0)] (j.mk (H.next+11) (j.aJ H)) (.exit 0)) .nil)) (by kernel_rfl) aY
theorem abx(H:j)(pb n3:Option bG)(a6 aO dG ee:Nat)(U:o→j→Prop)(aY:bF (H.next) (H.next) (bF (H.next) (H.next+1) (some (o.bool ((a6:Int) != (aO:Int)))=some (o.bool true)∧bF (H.next) (H.next+6) (bK (H.next) (H.next+7) (U (.bool false) (j.mk (H.next+6+1) (j.aJ (j.mk (H.next+1+5) (j.aJ (j.mk (H.next+1) (j.aJ H))))))))))) :
 ∃v p,aI Tryz.prog aw 28 [.slice pb a6 dG,.slice n3 aO ee] H v p∧U v p :=
 cb bQ mixed je (an:= .aA (.val 1004 (.bool true)) .nil) (by kernel_rfl) aY
theorem vo{h:j}{ab J m f i:Nat}{es:List bj}(e:h.get ab=some (b3 (es.map cm) 6 J m f ew))(aV:i<es.length):cj (b5.D env) 42 ⟨ab,J,i,0,6⟩ h=some (cm es[i]):=by
 have b':(b5.D env 42).map (fun d=>(d.kind.isAgg,d.size))=some (true,6):=by kernel_rfl
 obtain⟨x,p,ad⟩:=Option.map_eq_some_iff.1 b';simp only [Prod.mk.injEq]at ad;unfold cj;rw [p,e]
 have fu:(b3 (es.map cm) 6 J m f ew).elem? J i=some (cm es[i]):=by unfold R.elem?;rw [if_pos (by simpa [R.cO]using aV)];simp [aV]
 simp only [fu];simp [iD,ad.1,ad.2,cm]
theorem PH{l:Bool}(e f:bj):ld (b5.D env) (b5.ho env) l BinOp.neq 42 (cm e) (cm f)=some (.bool (!decide (e=f))):=by
 obtain⟨ao,a2,a3,a4,a5,mh⟩:=e;obtain⟨ba,bT,eQ,B9,tu,PI⟩:=f;have k:ld (b5.D env) (b5.ho env) l BinOp.neq 42 (cm ⟨ao,a2,a3,a4,a5,mh⟩) (cm ⟨ba,bT,eQ,B9,tu,PI⟩)=some (.bool (!((ao == ba)&&((a2 == bT)&&((a3 == eQ)&&((a4 == B9)&&((a5 == tu)&&((mh == PI)&&true)))))))):=by kernel_rfl
 rw [k]
 congr 3
 rw [Bool.eq_iff_iff];simp [bj.mk.injEq]
theorem B'(l:List bj):∀e∈l.map cm,cR e:=by intro e he;obtain⟨b,_,rfl⟩:=List.mem_map.1 he;exact F0 b
abbrev pt(b8 bv n C:Nat):bP:=[(0,.slice (some ⟨0,b8,0,0,6⟩) n n),(1,.slice (some ⟨1,bv,0,0,6⟩) n n),(5,.int .i64 (C:Nat))]
abbrev Ig(b8 bv n C:Nat):bP:=[(0,.slice (some ⟨0,b8,0,0,6⟩) n n),(1,.slice (some ⟨1,bv,0,0,6⟩) n n),(4,.bool false),(5,.int .i64 (C:Nat))]
theorem Ca{b8 bv n C K:Nat}{A B:R}(ed:dl A)(cE:dl B)(bm:(j.ar K [(0,A),(1,B)]).get 0=some A)(p:(j.ar K [(0,A),(1,B)]).get 1=some B):eV 2 26 (pt b8 bv n C) (j.ar K [(0,A),(1,B)]) (pt b8 bv n C) (j.rows 2 [(0,A),(1,B)]):=by
 refine eV.drop (K:=2) (l:=[(0,A),(1,B)]) (by simp [bm,p]) rfl rfl rfl ?_ ?_
 ·exact bZ.cons (show(0:Nat)∈ [0,1]by simp) (bZ.cons (show(1:Nat)∈ [0,1]by simp) (bZ.cons trivial bZ.nil))
 ·exact bZ.cons (fun e he=>(ed e he).e1 _) (bZ.cons (fun e he=>(cE e he).e1 _) bZ.nil)
theorem aby(es b4:List bj)(b8 m f bv m2 f2:Nat)(az:es.length=b4.length)(aS:es.length<2^62):∀(k C:Nat),es.length-C≤k→C≤es.length→ ∃kH,
 (es.drop C=b4.drop C→cN Tryz.prog aw 2 26 (cF Tryz.prog 28 0) (pt b8 bv es.length C) (j.rows 2 [(0,b3 (es.map cm) 6 b8 m f ew),(1,b3 (b4.map cm) 6 bv m2 f2 ew)]) (.exit 0) (pt b8 bv es.length kH) (j.ar 6 [(0,b3 (es.map cm) 6 b8 m f ew),(1,b3 (b4.map cm) 6 bv m2 f2 ew)])) ∧
 (es.drop C≠b4.drop C→cN Tryz.prog aw 2 26 (cF Tryz.prog 28 0) (pt b8 bv es.length C) (j.rows 2 [(0,b3 (es.map cm) 6 b8 m f ew),(1,b3 (b4.map cm) 6 bv m2 f2 ew)]) .ret (Ig b8 bv es.length kH) (j.ar 16 [(0,b3 (es.map cm) 6 b8 m f ew),(1,b3 (b4.map cm) 6 bv m2 f2 ew)])):=by
 intro k;generalize ed:b3 (es.map cm) 6 b8 m f ew=A;generalize cE:b3 (b4.map cm) 6 bv m2 f2 ew=B;have vp:dl A:=by rw [←ed];exact B' es
 have vq:dl B:=by rw [←cE];exact B' b4
 have fin:∃kH,(es.drop es.length=b4.drop es.length→cN Tryz.prog aw 2 26 (cF Tryz.prog 28 0) (pt b8 bv es.length es.length) (j.rows 2 [(0,A),(1,B)]) (.exit 0) (pt b8 bv es.length kH) (j.ar 6 [(0,A),(1,B)])) ∧
  (es.drop es.length≠b4.drop es.length→cN Tryz.prog aw 2 26 (cF Tryz.prog 28 0) (pt b8 bv es.length es.length) (j.rows 2 [(0,A),(1,B)]) .ret (Ig b8 bv es.length kH) (j.ar 16 [(0,A),(1,B)])):=by
  refine⟨es.length,fun _=> ?_,fun h=>absurd (by rw [List.drop_length,az,List.drop_length]) h⟩;obtain⟨e,aW,p,bb,rfl,rfl,rfl⟩:=PG A B b8 bv es.length es.length .undef .undef (fun e aW p=>e=.exit 0∧aW=pt b8 bv es.length es.length∧p=j.ar 6 [(0,A),(1,B)]) ⟨fun h=>by omega,fun _=>⟨rfl,rfl,rfl⟩⟩;exact cN.last (by simp) bb
 induction k with
 |zero =>
  intro C ap aV;obtain rfl:C=es.length:=by omega
  exact fin
 |succ k ih =>
  intro C ap aV;by_cases av:C<es.length
  ·have jp:C<b4.length:=by omega
   have ek:cj (b5.D env) 42 ⟨0,b8,0+Int.toNat (C:Int),0,6⟩ (j.ar 15 [(0,A),(1,B)])=some (cm es[C]):=by rw [show 0+Int.toNat (C:Int)=C by simp];exact vo (m:=m) (f:=f) (by rw [ed];rfl) av
   have ck:cj (b5.D env) 42 ⟨1,bv,0+Int.toNat (C:Int),0,6⟩ (j.ar 15 [(0,A),(1,B)])=some (cm b4[C]):=by rw [show 0+Int.toNat (C:Int)=C by simp];exact vo (m:=m2) (f:=f2) (by rw [cE];rfl) jp
   by_cases he:es[C]=b4[C]
   ·obtain⟨e,aW,p,bb,rfl,rfl,rfl⟩:=abr A B b8 bv es.length C (cm es[C]) (cm b4[C]) (fun e aW p=>e=.normal∧aW=pt b8 bv es.length (C+1)∧p=j.ar 18 [(0,A),(1,B)]) ⟨fun _=>⟨⟨by omega,by omega⟩,ek,⟨by omega,by omega⟩,ck,(PH _ _).trans (by rw [decide_eq_true he];rfl),⟨by omega,by omega⟩,rfl,by rw [show((C:Int)+1)=((C+1:Nat):Int)by omega],rfl⟩,fun h=>absurd (by omega) h⟩;obtain⟨kH,dH,dy⟩:=ih (C+1) (by omega) (by omega)
    have aC:es.drop C=b4.drop C↔es.drop (C+1)=b4.drop (C+1):=by rw [List.drop_eq_getElem_cons av,List.drop_eq_getElem_cons jp,he];exact⟨fun h=>(List.cons.inj h).2,fun h=>by rw [h]⟩
    exact⟨kH,fun h=>cN.round bb (Ca vp vq rfl rfl) (dH (aC.1 h)),fun h=>cN.round bb (Ca vp vq rfl rfl) (dy fun x=>h (aC.2 x))⟩
   ·obtain⟨e,aW,p,bb,rfl,rfl,rfl⟩:=PG A B b8 bv es.length C (cm es[C]) (cm b4[C]) (fun e aW p=>e=.ret∧aW=Ig b8 bv es.length C∧p=j.ar 16 [(0,A),(1,B)]) ⟨fun _=>⟨⟨by omega,by omega⟩,ek,⟨by omega,by omega⟩,ck,(PH _ _).trans (by rw [decide_eq_false he];rfl),rfl,rfl,rfl⟩,fun h=>absurd (by omega) h⟩;refine⟨C,fun h=>absurd ?_ he,fun _=>cN.last (by simp) bb⟩;rw [List.drop_eq_getElem_cons av,List.drop_eq_getElem_cons jp]at h;exact(List.cons.inj h).1
  ·obtain rfl:C=es.length:=by omega
   exact fin
theorem abz{H:j}{v1 v2:o}{es b4:List bj}{pb n3:Nat}(p:lR H v1 es pb)(ad:lR H v2 b4 n3)(b1:es≠[]→b4≠[]→pb≠n3)(aS:es.length<2^62) :
 ∃aP,aI Tryz.prog aw 28 [v1,v2] H (.bool (decide (es=b4))) aP∧H.next≤aP.next∧∀C,aP.get C=H.get C:=by
 have fP:∀{a b:Nat}{I:Prop},a≤b→I→_root_.cond (Nat.ble a b) I False:=fun h k=>by rw [Nat.ble_eq.mpr h];exact k
 have sw:∀{v:o}{l:List bj}{ab:Nat},lR H v l ab→ ∃a,v=.slice a l.length l.length:=by
  intro v l ab h;rcases h with ⟨rfl,rfl⟩|⟨_,_,J,m,f,rfl,_⟩
  ·exact⟨none,rfl⟩
  ·exact⟨_,rfl⟩
 by_cases az:es.length=b4.length
 ·rcases p with ⟨rfl,rfl⟩|⟨a6,B5,J,m,f,rfl,g1⟩
  ·obtain rfl:b4=[]:=List.length_eq_zero_iff.1 az.symm;rcases ad with ⟨rfl,_⟩|⟨ae,_⟩
   ·obtain⟨e,aW,bd,bb,rfl,rfl,rfl⟩:=abt ⟨H.next+7,H.aJ⟩ H.next (fun e aW p=>e=.exit 0∧aW=[(0,o.slice none 0 0),(1,o.slice none 0 0),(5,o.int .i64 0)]∧p=⟨H.next+11,H.aJ⟩) (bq (by show H.next≤H.next+7;omega) ⟨rfl,rfl,rfl⟩)
    obtain⟨v,aa,aC,rfl,rfl⟩:=abw H (fun v aa=>v=.bool true∧aa=⟨H.next+12,H.aJ⟩) (bq (Nat.le_refl _) (bq (by omega) (bq (by omega) ⟨cx.gL (cN.last (by simp) bb),bq (by omega) (fP (by omega) ⟨rfl,rfl⟩)⟩)));exact⟨_,aC,by show H.next≤H.next+12;omega,fun _=>rfl⟩
   ·exact absurd rfl ae
  ·have aO:b4≠[]:=fun h=>by subst h;exact a6 (List.length_eq_zero_iff.1 az)
   rcases ad with ⟨_,ae⟩|⟨_,H6,jX,m2,f2,rfl,g2⟩
   ·exact absurd ae aO
   have aC:=b1 a6 aO;obtain⟨kH,dH,dy⟩:=aby es b4 J m f jX m2 f2 az aS es.length 0 (by omega) (by omega);rw [List.drop_zero,List.drop_zero]at dH dy;have vp:dl (b3 (es.map cm) 6 J m f ew):=B' es;have vq:dl (b3 (b4.map cm) 6 jX m2 f2 ew):=B' b4
   have up:∀{b:Bool}{K:Nat},(j.ar K [(0,b3 (es.map cm) 6 J m f ew),(1,b3 (b4.map cm) 6 jX m2 f2 ew)]).get 0=some (b3 (es.map cm) 6 J m f ew)→(j.ar K [(0,b3 (es.map cm) 6 J m f ew),(1,b3 (b4.map cm) 6 jX m2 f2 ew)]).get 1=some (b3 (b4.map cm) 6 jX m2 f2 ew)→aI Tryz.prog aw 28 [.slice (some ⟨0,J,0,0,6⟩) es.length es.length,.slice (some ⟨1,jX,0,0,6⟩) es.length es.length] (j.of [b3 (es.map cm) 6 J m f ew,b3 (b4.map cm) 6 jX m2 f2 ew]) (.bool b) (j.ar K [(0,b3 (es.map cm) 6 J m f ew),(1,b3 (b4.map cm) 6 jX m2 f2 ew)])→aI Tryz.prog aw 28 [.slice (some ⟨pb,J,0,0,6⟩) es.length es.length,.slice (some ⟨n3,jX,0,0,6⟩) es.length es.length] H (.bool b) H:=by
    intro b K ca bn mb
    have:=aI.pure (l:=[b3 (es.map cm) 6 J m f ew,b3 (b4.map cm) 6 jX m2 f2 ew]) mb (fun x ae=>by
     rcases List.mem_cons.1 ae with rfl|ae
     ·exact vp
     ·rw [List.mem_singleton.1 ae];exact vq) (by show [j.get _ 0,j.get _ 1]=_;rw [ca,bn];rfl) (cR.bool _) (by exact⟨by show 0<2;decide,by show 1<2;decide,trivial⟩) (H:=H) [pb,n3] (by simp [aC]) (by
      intro C aV;rcases List.mem_cons.1 aV with rfl|aV
      ·exact B5
      ·rw [List.mem_singleton.1 aV];exact H6) (by simp [g1,g2])
    simpa [o.bc,bG.bc,dJ]using this
   refine⟨H,?_,Nat.le_refl _,fun _=>rfl⟩;rw [←az];by_cases he:es=b4
   ·rw [decide_eq_true he];have ds:=(dH he).pre (Ca (K:=9) vp vq rfl rfl);obtain⟨v,aa,mb,rfl,rfl⟩:=abu (b3 (es.map cm) 6 J m f ew) (b3 (b4.map cm) 6 jX m2 f2 ew) J jX es.length kH (fun v aa=>v=.bool true∧aa=j.ar 7 [(0,b3 (es.map cm) 6 J m f ew),(1,b3 (b4.map cm) 6 jX m2 f2 ew)]) ⟨by simp,cx.gL ds,rfl,rfl⟩;exact up rfl rfl mb
   ·rw [decide_eq_false he];have ds:=(dy he).pre (Ca (K:=9) vp vq rfl rfl);obtain⟨v,aa,mb,rfl,rfl⟩:=abv (b3 (es.map cm) 6 J m f ew) (b3 (b4.map cm) 6 jX m2 f2 ew) J jX es.length kH (fun v aa=>v=.bool false∧aa=j.ar 16 [(0,b3 (es.map cm) 6 J m f ew),(1,b3 (b4.map cm) 6 jX m2 f2 ew)]) ⟨by simp,cx.gL ds,rfl,rfl⟩;exact up rfl rfl mb
 ·obtain⟨ao,rfl⟩:=sw p;obtain⟨a2,rfl⟩:=sw ad;rw [decide_eq_false (fun h=>az (by rw [h]))];obtain⟨v,aa,aC,rfl,rfl⟩:=abx H ao a2 es.length b4.length es.length b4.length (fun v aa=>v=.bool false∧aa=⟨H.next+7,H.aJ⟩) (bq (Nat.le_refl _) (bq (by omega) ⟨by simp;omega,bq (by omega) (fP (by omega) ⟨rfl,rfl⟩)⟩));exact⟨_,aC,by show H.next≤H.next+7;omega,fun _=>rfl⟩
theorem cu.same{H aH:j}{d:Nat}{aF:cL}{s:bO}{es:List bj}(g:cu H d aF s es)(ag:∀C,C<H.next→aH.get C=H.get C)(aS:H.next≤aH.next):cu aH d aF s es:=by obtain⟨bo,g,an⟩:=g;obtain⟨aX,ah,af,aq,e,ap,ac,ai⟩:=g.ex;obtain⟨bA,bz,bl,bB,aE,hu⟩:=g.iq;have az:=g.lt;exact⟨bo,⟨⟨aX,ah,af,aq,by rw [ag d az.1];exact e,ap.cs fun _=>ag _ az.2.2.1,ac.cs fun _=>ag _ az.2.2.2.1,ai.cs fun _=>ag _ az.2.2.2.2⟩,⟨bA,bz,bl,bB,aE,by rw [ag aF.u az.2.1];exact hu⟩,by omega,g.ne⟩,an⟩
theorem PJ{h ad:j}{a a2:bG}{n c ee:Nat}(e:ad.get a2.id=h.get a.id)(bn:a2.J=a.J)(bs:a2.idx=a.idx)(b7:a2.bR=a.bR)(ct:a2.es=a.es):e2 1 (.slice (some a2) n ee) ad=e2 1 (.slice (some a) n c) h:=by simp only [e2,e,bn,bs,b7,ct]
theorem PK{l:List o}(h:og l=true):∀e∈l,cR e:=by intro e he;have:=List.all_eq_true.1 h e he;cases e<;>first|exact cR.int _ _|(simp at this)
theorem abA{r:Option (o×j)}(h:Ib r=true):∃a c H b,r=some (.tuple [.slice (some a) 8 c,.int .i64 0],H)∧a.id<H.next∧H.get a.id=some b∧dl b∧∃l,e2 1 (.slice (some a) 8 c) H=some l∧bytesOf l=some B6:=by
 unfold Ib at h;split at h
 ·rename_i a n c e H;simp only [Bool.and_eq_true,decide_eq_true_eq]at h;obtain⟨⟨⟨⟨⟨⟨rfl,rfl⟩,p⟩,ad⟩,bm⟩,bd⟩,bS⟩:=h;split at bd
  ·rename_i b au;split at bS
   ·rename_i l az;exact⟨a,c,H,b,rfl,Nat.blt_eq.mp bm,au,PK bd,l,az,of_decide_eq_true bS⟩
   ·cases bS
  ·cases bd
 ·cases h
theorem abB{r:Option (o×j)}(h:Ic r=true):∃H,r=some (.tuple [gP 1 120 6,.int .i64 0],H):=by
 unfold Ic at h;split at h
 ·simp only [Bool.and_eq_true,decide_eq_true_eq]at h;obtain⟨⟨⟨⟨⟨⟨rfl,rfl⟩,rfl⟩,rfl⟩,rfl⟩,rfl⟩,rfl⟩:=h;exact⟨_,rfl⟩
 ·cases h
theorem abC(H:j):∃aP a c,aI Tryz.prog aw 21 [gP 1 105 4] H (.tuple [.slice (some a) 8 c,.int .i64 0]) aP∧a.id<aP.next∧(∃l,e2 1 (.slice (some a) 8 c) aP=some l∧bytesOf l=some B6)∧H.next≤aP.next∧∀C,C<H.next→aP.get C=H.get C:=by
 obtain⟨a,c,p,b,bb,cQ,au,l',l,az,qZ⟩:=abA abo;rw [wQ]at bb;have aC:aI Tryz.prog aw 21 [gP 1 105 4] (j.of []) _ p:=aI.uo bQ mixed bb;obtain⟨aP,hN,kC,e0,jr⟩:=aC.place (by simp) (fun b au=>by cases au) (by exact⟨(cR.of rfl).e1 _,trivial⟩) (H:=H) [] List.nodup_nil (fun C aV=>by cases aV) rfl (fun i b h=>by simp at h);have r:∀i,dJ [] H.next i=H.next+i:=fun i=>by rw [mY (by simp)];simp
 have g:=e0 a.id b au;rw [l'.bc,r]at g;refine⟨aP,⟨H.next+a.id,a.J,a.idx,a.bR,a.es⟩,c,?_,by rw [kC];simp only [List.length_nil,Nat.sub_zero];show H.next+a.id<_;omega,⟨l,?_,qZ⟩,by omega,fun C aV=>jr C aV (by simp)⟩
 ·simpa [o.bc,o.gK,bG.bc,r]using hN
 ·exact(PJ (h:=p) (ad:=aP) (a:=a) (a2:=⟨H.next+a.id,a.J,a.idx,a.bR,a.es⟩) (c:=c) (ee:=c) (by show aP.get (H.next+a.id)=_;rw [g,au]) rfl rfl rfl rfl).trans az
theorem abD(H:j):aI Tryz.prog aw 25 [.str PF] H (.tuple [gP 1 120 6,.int .i64 0]) H:=by obtain⟨p,bb⟩:=abB abp;rw [wQ]at bb;exact(aI.uo bQ mixed bb).bare (fun a aT=>by rw [List.mem_singleton.1 aT];exact cR.str _) (cR.of rfl) H
theorem abE{F:bP}{bh k n c:Nat}{H:j}{a:bG}{l:List o}{s:Bytes}(a8:bU F (.tmp k)=.slice (some a) n c)(fu:e2 1 (.slice (some a) n c) H=some l)(au:bytesOf l=some s):eO env bh (bU F) H (Op.convert 34 9 (Operand.tmp k))=some (.str s,H):=by
 have p:(b5.D env 34).map (fun d=>d.kind)=some (.slice 5):=by kernel_rfl
 have ad:(b5.D env 9).map (fun d=>d.kind)=some .string:=by kernel_rfl
 have bd:(b5.D env 5).map (fun d=>d.kind)=some (.int .u8):=by kernel_rfl
 obtain⟨kt,d1,aM⟩:=Option.map_eq_some_iff.1 p;obtain⟨t',d2,aR⟩:=Option.map_eq_some_iff.1 ad;obtain⟨sy,d3,bu⟩:=Option.map_eq_some_iff.1 bd;simp only [eO,a8,oG,d1,d2,aM,aR,d3,bu,fu,au,Option.map_some]
abbrev pu:Bytes:=[97,27,91,49,59,54,67,27]
abbrev h6:bO:=⟨.ground,[],[],[]⟩
theorem PL:dh h6 pu=(⟨.du,[27],[],[]⟩,[fe 97 0,⟨2,7,5,0,0,[]⟩]):=by kernel_rfl
theorem yz:Keys.Good h6:=by unfold Keys.Good;simp
theorem lR.cases{H:j}{v:o}{e:bj}{es:List bj}{ab:Nat}(h:lR H v (e::es) ab):∃J m f,v=.slice (some ⟨ab,J,0,0,6⟩) (e::es).length (e::es).length∧H.get ab=some (b3 ((e::es).map cm) 6 J m f ew)∧ab<H.next:=by
 rcases h with h|⟨p,ad,J,m,f,bd,bS⟩
 ·exact absurd h.2 (by simp)
 ·exact⟨J,m,f,bd,bS,ad⟩
theorem abF{h:j}{x:Nat}{aq:Option (TypeId×Nat)}{a b c:Int}(e:h.get x=some (R.made [gP 0 0 0] 6 true aq)):ki (b5.D env) 42 ⟨x,0,0,0,6⟩ (gP a b c) h=some (h.set x (R.made [gP a b c] 6 true aq)):=by
 have b':(b5.D env 42).map (fun d=>(d.kind.isAgg,d.size))=some (true,6):=by kernel_rfl
 obtain⟨x,p,ad⟩:=Option.map_eq_some_iff.1 b';simp only [Prod.mk.injEq]at ad;unfold ki;rw [p,e];simp [o.fits,ad.1,ad.2,R.made,vJ,o.cells,jC];exact⟨rfl,rfl,rfl,rfl,rfl⟩
theorem abG{h:j}{x:Nat}{aq:Option (TypeId×Nat)}{a b c:Int}(e:h.get x=some (R.made [gP a b c] 6 true aq)):cj (b5.D env) 42 ⟨x,0,0,0,6⟩ h=some (gP a b c):=by
 have b':(b5.D env 42).map (fun d=>(d.kind.isAgg,d.size))=some (true,6):=by kernel_rfl
 obtain⟨x,p,ad⟩:=Option.map_eq_some_iff.1 b';simp only [Prod.mk.injEq]at ad;unfold cj;rw [p,e];simp [R.elem?,R.cO,iD,ad.1,ad.2,R.made]
theorem abH{t:TypeId}{F:bP}{H H1:j}{a:bG}{v:o}{bh k m:Nat}(a8:bU F (.tmp k)=.ptr (some a))(hm:bU F (.tmp m)=v)(an:ki (b5.D env) t a v H=some H1):b0 env e7 bh (bU F) H (Op.store t (Operand.tmp k) (Operand.tmp m))=some (.tuple [],H1):=by simp only [b0,a8,hm,an,Option.map_some]
theorem abI(l:Bytes)(e:Bool)(C:Nat)(h:C<l.length):(R.made (aL l) 1 e).elem? 0 (0+C)=some (.int .u8 l[C].toNat):=by simp [R.elem?,R.cO,R.made,aL,h]
theorem abJ(H:j):∃aP,aI Tryz.prog aw 19 [] H (.bool true) aP:=by
 have fP:∀{a b:Nat}{I:Prop},a≤b→I→_root_.cond (Nat.ble a b) I False:=fun h k=>by rw [Nat.ble_eq.mpr h];exact k
 obtain⟨H1,d,aF,ff,g1,_,_,_,_,_,a6,_⟩:=Pw ⟨H.next+3,H.aJ⟩;have a6:H.next+3≤H1.next:=a6
 have B5:=(by obtain⟨bo,k9,_⟩:=g1;exact k9.lt:d<H1.next∧aF.u<H1.next∧aF.k<H1.next∧aF.I<H1.next∧aF.ab<H1.next)
 have jI:∀F,b0 env e7 (H1.next+3) (bU F) ⟨H1.next+7,H1.aJ⟩ (Op.buildSlice 34 8 {toList:=[(0,Operand.const (Value.int .u8 (97))),(1,Operand.const (Value.int .u8 (27))),(2,Operand.const (Value.int .u8 (91))),(3,Operand.const (Value.int .u8 (49))),(4,Operand.const (Value.int .u8 (59))),(5,Operand.const (Value.int .u8 (54))),(6,Operand.const (Value.int .u8 (67))),(7,Operand.const (Value.int .u8 (27)))]})=some (o.slice (some ⟨H1.next+3,0,0,0,1⟩) 8 8,(⟨H1.next+7,H1.aJ⟩:j).set (H1.next+3) (R.made (aL pu) 1 true)):=by intro F;kernel_rfl
 have kc:((⟨H1.next+7,H1.aJ⟩:j).set (H1.next+3) (R.made (aL pu) 1 true)).get (H1.next+3)=some (R.made (aL pu) 1 true):=j.hJ _ _ _;have hC:∀C,C<H1.next→((⟨H1.next+7,H1.aJ⟩:j).set (H1.next+3) (R.made (aL pu) 1 true)).get C=H1.get C:=fun C aV=>j.fl _ _ (by omega)
 have jc:((⟨H1.next+7,H1.aJ⟩:j).set (H1.next+3) (R.made (aL pu) 1 true)).next=H1.next+7:=rfl
 generalize agj:(⟨H1.next+7,H1.aJ⟩:j).set (H1.next+3) (R.made (aL pu) 1 true)=aH at jI kc hC jc;have g2:cu aH d aF h6 []:=g1.same hC (by omega)
 have vr:∀F,bU F (.tmp 15)=o.slice (some ⟨H1.next+3,0,0,0,1⟩) 8 8→eO env (H1.next+4) (bU F) aH (Op.convert 34 34 (Operand.tmp 15))=some (o.slice (some ⟨H1.next+3,0,0,0,1⟩) 8 8,aH):=by
  intro F a8;have p:(b5.D env 34).map (fun d=>d.kind)=some (.slice 5):=by kernel_rfl
  have bd:(b5.D env 5).map (fun d=>d.kind)=some (.int .u8):=by kernel_rfl
  obtain⟨kt,d1,aM⟩:=Option.map_eq_some_iff.1 p;obtain⟨sy,d3,bu⟩:=Option.map_eq_some_iff.1 bd;simp only [eO,a8,oG,d1,aM,d3,bu,kc];simp [R.made]
 obtain⟨aZ,v3,pr,vs,abK,g3,tq,b7,vt⟩:=Pv (m:=8) (bw:=pu) g2 yz (by decide) (.inr ⟨H1.next+3,0,0,rfl,⟨_,kc,abI pu true⟩,by omega,by omega,by omega,by omega,by omega,by omega⟩);rw [PL]at g3 b7 vt;simp only at g3 b7 vt;have vt:=(vt (by simp)).1;have ft:=tq.next
 obtain⟨eD,m3,f3,rfl,qe,PM⟩:=b7.cases;obtain⟨bJ,abL,PN,g4,yx⟩:=Px (oe (k:=3) g3) (by decide) (by decide);have ht:aZ.next+3≤bJ.next:=yx.next
 have PO:=BZ yx;have abM:=vt.cU PO PM;have xl:=vt.get PO PM;obtain⟨fY,v5,agk,Cb,abN,g5,PP,il,PQ⟩:=aa9 (oe (k:=3) g4) (by have h:=AK pu (s:=h6) yz;rw [PL]at h;exact h) (by decide);have wf:flush ⟨.du,[27],[],[]⟩=(⟨.ground,[],[],[]⟩,[eR 4]):=by kernel_rfl
 rw [wf]at g5 il PQ;simp only at g5 il PQ;have ig:bJ.next+3≤fY.next:=PP.next
 have abO:=BZ PP;have abP:=abM.get abO (by omega);obtain⟨aX,m5,f5,rfl,abQ,agl⟩:=il.cases;obtain⟨ec,hn,gM,yA,abR,⟨MY,abS,abT⟩,rZ,PR⟩:=abC ⟨fY.next+7,fY.aJ⟩;have rZ:fY.next+7≤ec.next:=rZ
 have abU:=abD ⟨ec.next+7,ec.aJ⟩;have Cc:∀F,b0 env e7 (ec.next+4) (bU F) ⟨ec.next+7,ec.aJ⟩ (Op.alloc 42)=some (.ptr (some ⟨ec.next+4,0,0,0,6⟩),(⟨ec.next+7,ec.aJ⟩:j).set (ec.next+4) (R.made [gP 0 0 0] 6 true (some (42,6)))):=by intro F;kernel_rfl
 have PS:((⟨ec.next+7,ec.aJ⟩:j).set (ec.next+4) (R.made [gP 0 0 0] 6 true (some (42,6)))).get (ec.next+4)=some (R.made [gP 0 0 0] 6 true (some (42,6))):=j.hJ _ _ _;have PT:∀C,C<ec.next→((⟨ec.next+7,ec.aJ⟩:j).set (ec.next+4) (R.made [gP 0 0 0] 6 true (some (42,6)))).get C=ec.get C:=fun C aV=>j.fl _ _ (by omega)
 have PU:((⟨ec.next+7,ec.aJ⟩:j).set (ec.next+4) (R.made [gP 0 0 0] 6 true (some (42,6)))).next=ec.next+7:=rfl
 generalize agm:(⟨ec.next+7,ec.aJ⟩:j).set (ec.next+4) (R.made [gP 0 0 0] 6 true (some (42,6)))=qA at Cc PS PT PU;have iV:=abF (a:=1) (b:=120) (c:=6) PS;have PV:(qA.set (ec.next+4) (R.made [gP 1 120 6] 6 true (some (42,6)))).get (ec.next+4)=some (R.made [gP 1 120 6] 6 true (some (42,6))):=j.hJ _ _ _;have Cd:∀C,C<ec.next→(qA.set (ec.next+4) (R.made [gP 1 120 6] 6 true (some (42,6)))).get C=ec.get C:=fun C aV=>by rw [j.fl _ _ (by omega)];exact PT C aV
 have abV:(qA.set (ec.next+4) (R.made [gP 1 120 6] 6 true (some (42,6)))).next=ec.next+7:=PU
 generalize agn:qA.set (ec.next+4) (R.made [gP 1 120 6] 6 true (some (42,6)))=e' at iV PV Cd abV
 have gy:e'.get vs=some (b3 ([fe 97 0,⟨2,7,5,0,0,[]⟩].map cm) 6 eD m3 f3 ew):=by rw [Cd _ (by omega),PR _ (by show vs<fY.next+7;omega)];show fY.get vs=_;rw [abP,xl,qe]
 have n2:e'.get Cb=some (b3 ([eR 4].map cm) 6 aX m5 f5 ew):=by rw [Cd _ (by omega),PR _ (by show Cb<fY.next+7;omega)];exact abQ
 have uZ:e2 1 (.slice (some hn) 8 gM) ⟨e'.next+56,e'.aJ⟩=some MY:=by rw [←abS];exact PJ (by show e'.get hn.id=_;exact Cd _ abR) rfl rfl rfl rfl
 have kx:∀k,cj (b5.D env) 42 ⟨vs,eD,0,0,6⟩ ⟨e'.next+k,e'.aJ⟩=some (gP 1 97 0):=fun k=>vo (i:=0) (h:=⟨e'.next+k,e'.aJ⟩) gy (by decide)
 have abW:∀k,cj (b5.D env) 42 ⟨vs,eD,1,0,6⟩ ⟨e'.next+k,e'.aJ⟩=some (gP 2 7 5):=fun k=>vo (i:=1) (h:=⟨e'.next+k,e'.aJ⟩) gy (by decide)
 have abX:∀k,cj (b5.D env) 42 ⟨Cb,aX,0,0,6⟩ ⟨e'.next+k,e'.aJ⟩=some (gP 2 4 0):=fun k=>vo (i:=0) (h:=⟨e'.next+k,e'.aJ⟩) n2 (by decide)
 have abY:∀k,cj (b5.D env) 42 ⟨ec.next+4,0,0,0,6⟩ ⟨e'.next+k,e'.aJ⟩=some (gP 1 120 6):=fun k=>abG (h:=⟨e'.next+k,e'.aJ⟩) PV
 obtain⟨v,aa,aC,rfl⟩:=abq H H1 aH aZ bJ fY ec ⟨ec.next+7,ec.aJ⟩ qA e' d (H1.next+3) vs eD Cb aX (ec.next+4) gM 0 hn (fun v _=>v=.bool true)
  (bq (Nat.le_refl _) (bq (by omega) ⟨⟨ff⟩,bq (by omega) (bq (by omega) ⟨jI _,vr _ rfl,⟨abK⟩,bq (by omega) ⟨⟨abL⟩,bq (by omega) ⟨⟨abN⟩,bq (by omega) ⟨⟨yA⟩,bq (by omega) ⟨⟨abU⟩,Cc _,abH rfl rfl iV,bq (by omega) ⟨kx 18,abW 18,bq (by omega) ⟨abX 33,bq (by omega) ⟨abE rfl uZ abT,abY 56,fP (by omega) rfl⟩⟩⟩⟩⟩⟩⟩⟩)⟩))
 exact⟨aa,aC⟩
structure fq(H aP:j)(ch eM:Nat→Nat)(L:List Nat):Prop where
 next:H.next≤aP.next
 get:∀x,x<H.next→ch x ∉ L→aP.get x=H.get x
 ch:∀x,x<H.next→ch x ∉ L→eM x=ch x
theorem fq.trans{H H1 aH:j}{c dG ee:Nat→Nat}{PW PX:List Nat}(a:fq H H1 c dG PW)(b:fq H1 aH dG ee PX):fq H aH c ee (PW++PX) where
 next:=Nat.le_trans a.next b.next
 get x ae h:=by
  simp only [List.mem_append,not_or]at h;have aS:=a.next
  rw [b.get x (by omega) (by rw [a.ch x ae h.1];exact h.2),a.get x ae h.1]
 ch x ae h:=by
  simp only [List.mem_append,not_or]at h;have aS:=a.next
  rw [b.ch x (by omega) (by rw [a.ch x ae h.1];exact h.2),a.ch x ae h.1]
theorem fq.sub{H aP:j}{c fS:Nat→Nat}{L M:List Nat}(a:fq H aP c fS L)(h:∀x∈L,x∈M):fq H aP c fS M where
 next:=a.next
 get x ae k:=a.get x ae fun q=>k (h _ q)
 ch x ae k:=a.ch x ae fun q=>k (h _ q)
theorem fq.refl(H:j)(c:Nat→Nat):fq H H c c []:=⟨Nat.le_refl _,fun _ _ _=>rfl,fun _ _ _=>rfl⟩
def fresh(H:j)(ch:Nat→Nat):Nat→Nat:=fun x=>if x<H.next then ch x else 8
theorem fq.fresh(H:j)(ch:Nat→Nat)(k:Nat):fq H ⟨H.next+k,H.aJ⟩ ch (fresh H ch) [] where
 next:=by show H.next≤H.next+k;omega
 get _ _ _:=rfl
 ch x ae _:=by unfold Proofs.YtddnafghiejcoaaGreatDoor.fresh;rw [if_pos ae]
theorem abZ{H:j}{ch:Nat→Nat}{x:Nat}(h:H.next≤x):fresh H ch x=8:=by unfold fresh;rw [if_neg (by omega)]
def mz(d:Nat)(aF:cL)(x:Nat):Prop:=x=d∨x=aF.u∨x=aF.k∨x=aF.I∨x=aF.ab
structure ke(H:j)(ch:Nat→Nat)(c d:Nat)(aF:cL)(s:bO):Prop where
 at':cu H d aF s []
 ch:∀x,mz d aF x→ch x=c
theorem ke.lt{H:j}{ch:Nat→Nat}{c d:Nat}{aF:cL}{s:bO}(h:ke H ch c d aF s):∀x,mz d aF x→x<H.next:=by obtain⟨bo,g,_⟩:=h.at';have:=g.lt;intro x ae;unfold mz at ae;omega
theorem ke.gj{H aP:j}{ch eM:Nat→Nat}{c d:Nat}{aF:cL}{s:bO}{L:List Nat}(h:ke H ch c d aF s)(m:fq H aP ch eM L)(av:c ∉ L):ke aP eM c d aF s:=by
 have lt:=h.lt;have ag:∀x,mz d aF x→aP.get x=H.get x:=fun x ae=>m.get x (lt x ae) (by rw [h.ch x ae];exact av)
 refine⟨?_,fun x ae=>by rw [m.ch x (lt x ae) (by rw [h.ch x ae];exact av)];exact h.ch x ae⟩;obtain⟨bo,g,an⟩:=h.at';obtain⟨aX,ah,af,aq,e,ap,ac,ai⟩:=g.ex;obtain⟨bA,bz,bl,bB,aE,hu⟩:=g.iq;have az:=g.lt;have aS:=m.next
 exact⟨bo,⟨⟨aX,ah,af,aq,by rw [ag d (.inl rfl)];exact e,ap.cs fun _=>ag _ (.inr (.inr (.inl rfl))),ac.cs fun _=>ag _ (.inr (.inr (.inr (.inl rfl)))),ai.cs fun _=>ag _ (.inr (.inr (.inr (.inr rfl))))⟩,⟨bA,bz,bl,bB,aE,by rw [ag aF.u (.inr (.inl rfl))];exact hu⟩,by omega,g.ne⟩,an⟩
structure hH(H:j)(ch:Nat→Nat)(c c2:Nat)(aq:Option (TypeId×Nat))(v:o)(l:List o):Prop where
 ex:(v=.slice none 0 0∧l=[])∨(l≠[]∧∃ab,ab<H.next∧ch ab=c∧∃J m f,v=.slice (some ⟨ab,J,0,0,c2⟩) l.length l.length∧H.get ab=some (b3 l c2 J m f aq))
theorem hH.gj{H aP:j}{ch eM:Nat→Nat}{c c2:Nat}{aq:Option (TypeId×Nat)}{v:o}{l:List o}{L:List Nat}(h:hH H ch c c2 aq v l)(m:fq H aP ch eM L)(av:c ∉ L):hH aP eM c c2 aq v l:=by
 rcases h.ex with h|⟨p,ab,ad,bd,J,nv,f,bS,bI⟩
 ·exact⟨.inl h⟩
 ·have aS:=m.next
  exact⟨.inr ⟨p,ab,by omega,by rw [m.ch ab ad (by rw [bd];exact av)];exact bd,J,nv,f,bS,by rw [m.get ab ad (by rw [bd];exact av)];exact bI⟩⟩
theorem hH.nil(H:j)(ch:Nat→Nat)(c c2:Nat)(aq:Option (TypeId×Nat)):hH H ch c c2 aq (.slice none 0 0) []:=⟨.inl ⟨rfl,rfl⟩⟩
theorem hH.gJ{H:j}{ch:Nat→Nat}{c c2 bh:Nat}{t e lB:Nat}{v w:o}{l new:List o}(an:rf env.D t e c2 lB)(g:hH H ch c c2 (some (e,0)) v l)(aS:bh<H.next)(et:ch bh=8)(ae:e2 c2 w H=some new)(au:((l.length+new.length)+(l.length+new.length)/4+512)*lB≤2^48)(az:l.length+new.length<2^62) :
 ∃bt aP eM,fZ env .append #[t,t] [v,w] bh H=some (bt,aP)∧hH aP eM c c2 (some (e,0)) bt (l++new)∧fq H aP ch eM [c,8]∧aP.next=H.next:=by
 by_cases ff:new=[]
 ·subst ff;refine⟨v,H,ch,?_,by rw [List.append_nil];exact g,(fq.refl H ch).sub (by simp),rfl⟩;rcases g.ex with ⟨rfl,rfl⟩|⟨p,ab,ad,bd,J,nv,f,rfl,bI⟩
  ·exact EY (b:=R.made [] 1 true) an ae (by simpa using au) (by decide) (fun a aT=>by cases aT) (Nat.le_refl _) (fun _=>rfl)
  ·exact EY an ae (by simpa using au) (by simpa using az) (fun a aT=>by cases aT;exact⟨bI,rfl,rfl⟩) (Nat.le_refl _) (fun h=>by cases h)
 ·rcases g.ex with ⟨rfl,rfl⟩|⟨p,ab,ad,bd,J,nv,f,rfl,bI⟩
  ·refine⟨_,_,fun x=>if x=bh then c else ch x,Uw an ae ff (by simpa using au) (by simpa using az),⟨.inr ⟨by simpa using ff,bh,aS,by simp,0,0,0,rfl,j.hJ _ _ _⟩⟩,⟨Nat.le_refl _,fun x _ h=> ?_,fun x _ h=> ?_⟩,rfl⟩
   ·refine j.fl _ _ fun e=> ?_
    subst e;rw [et]at h;simp at h
   ·show(if x=bh then c else ch x)=ch x;rw [if_neg];intro e;subst e;rw [et]at h;simp at h
  ·have ir:0<new.length:=List.length_pos_iff.2 ff;refine⟨_,_,ch,Lq an ae ff au az bI ⟨rfl,rfl⟩ (by omega) rfl rfl rfl (by simp) (.inr rfl),⟨.inr ⟨by simp [p],ab,ad,bd,J+1,nv,if nv=J then l.length else min f l.length,by rw [List.length_append],j.hJ _ _ _⟩⟩,⟨Nat.le_refl _,fun x _ h=> ?_,fun _ _ _=>rfl⟩,rfl⟩;refine j.fl _ _ fun e=> ?_
   subst e;rw [bd]at h;simp at h
theorem PY{H aP:j}{ch:Nat→Nat}{c d:Nat}{aF aQ:cL}{s bL:bO}(g:ke H ch c d aF s)(dv:cu aP d aQ bL [])(cU:Fr H aP d aF aQ)(P:Prop)[Decidable P](ab:Nat)(ai:P→lQ ab d aQ∧(mz d aF ab∨H.next≤ab)) :
 ∃eM,ke aP eM c d aQ bL∧fq H aP ch eM [c]∧(P→eM ab=7):=by
 have cQ:=g.lt;refine⟨fun x=>if x=ab∧P then 7 else if x<H.next then ch x else c,⟨dv,fun x ae=> ?_⟩,⟨cU.next,fun x ae h=> ?_,fun x ae h=> ?_⟩,fun mx=>by simp [mx]⟩
 ·have jJ:¬(x=ab∧P):=by rintro ⟨rfl,mx⟩;have:=(ai mx).1;have dH:=this.d;have dy:=this.u;have gy:=this.k;have mT:=this.I;have n2:=this.ab;unfold mz at ae;omega
  show(if x=ab∧P then 7 else if x<H.next then ch x else c)=c;rw [if_neg jJ];split
  ·rename_i az
   have ab0:mz d aF x:=by
    rcases ae with ae|ae
    ·exact .inl ae
    ·have:=cU.ids x ae;unfold mz;omega
   exact g.ch x ab0
  ·rfl
 ·have aS:¬mz d aF x:=fun k=>h (by rw [g.ch x k];simp)
  unfold mz at aS;simp only [not_or]at aS;exact cU.get x ae aS.1 aS.2.1 aS.2.2.1 aS.2.2.2.1 aS.2.2.2.2
 ·show(if x=ab∧P then 7 else if x<H.next then ch x else c)=ch x;rw [if_neg,if_pos ae];rintro ⟨rfl,mx⟩;rcases (ai mx).2 with k|k
  ·exact h (by rw [g.ch x k];simp)
  ·omega
theorem ab1{H:j}{ch:Nat→Nat}{c:Nat}{v:o}{es:List bj}{ab:Nat}(h:lR H v es ab)(av:es≠[]→ch ab=c):hH H ch c 6 ew v (es.map cm):=by
 rcases h with ⟨p,ad⟩|⟨p,ad,J,m,f,bd,bS⟩
 ·exact⟨.inl ⟨p,by rw [ad];rfl⟩⟩
 ·exact⟨.inr ⟨by simpa using p,ab,ad,av p,J,m,f,by rw [List.length_map];exact bd,bS⟩⟩
theorem Ih{H:j}{ch:Nat→Nat}{c:Nat}{v:o}{es:List bj}(h:hH H ch c 6 ew v (es.map cm)):∃ab,lR H v es ab∧(es≠[]→ch ab=c):=by
 rcases h.ex with ⟨p,ad⟩|⟨p,ab,ad,bd,J,m,f,bS,bI⟩
 ·have:es=[]:=by simpa using ad
  exact⟨0,.inl ⟨p,this⟩,fun h=>absurd this h⟩
 ·exact⟨ab,.inr ⟨by simpa using p,ad,J,m,f,by rw [List.length_map]at bS;exact bS,bI⟩,fun _=>bd⟩
theorem fq.pad(H:j)(ch:Nat→Nat):fq H ⟨H.next+1,H.aJ⟩ ch ch []:=⟨by show H.next≤H.next+1;omega,fun _ _ _=>rfl,fun _ _ _=>rfl⟩
theorem PZ{f:FuncId}{args:List o}{h aa:j}{v:o}(k:aI Tryz.prog aw f args h v aa):aI Tryz.prog aw f args h v ⟨aa.next+1,aa.aJ⟩:=k.pad (by show aa.next≤aa.next+1;omega) (fun _ _=>rfl)
structure Ii(H:j)(ch:Nat→Nat)(c:Nat)(ab:Option bG)(bw:Bytes):Prop where
 ex:(ab=none∧bw=[])∨ ∃q bv df,ab=some ⟨q,bv,df,0,1⟩∧rY H q bv df bw∧q<H.next∧ch q=c
theorem hH.hn{H:j}{ch:Nat→Nat}{c:Nat}{v:o}{bw:Bytes}(h:hH H ch c 1 cI v (aL bw)):∃ab,v=.slice ab bw.length bw.length∧Ii H ch c ab bw:=by
 rcases h.ex with ⟨rfl,ad⟩|⟨p,ab,ad,bd,J,m,f,rfl,bI⟩
 ·have:bw=[]:=by simpa [aL]using ad
  subst this;exact⟨none,rfl,⟨.inl ⟨rfl,rfl⟩⟩⟩
 ·refine⟨_,by rw [h1],⟨.inr ⟨ab,J,0,rfl,⟨_,bI,fun C aV=> ?_⟩,ad,bd⟩⟩⟩;simp [R.elem?,R.cO,aL,aV]
theorem ke.new(H:j)(ch:Nat→Nat)(c:Nat):∃aP d aF eM,aI Tryz.prog aw 14 [] H (.ptr (some ⟨d,0,0,0,6⟩)) aP∧ke aP eM c d aF h6∧fq H aP ch eM []:=by obtain⟨aP,d,aF,aC,g,a6,aO,ft,ht,ig,rZ,Ij⟩:=Pw H;refine⟨aP,d,aF,fun x=>if x<H.next then ch x else c,aC,⟨g,fun x ae=> ?_⟩,⟨rZ,fun x ae _=>Ij x ae,fun x ae _=>if_pos ae⟩⟩;unfold mz at ae;exact if_neg (by omega)
theorem ke.held{H:j}{ch:Nat→Nat}{c d:Nat}{aF:cL}{s:bO}(g:ke H ch c d aF s)(ap:s.kept.length<2^40)(ac:s.aB.length<2^40):∃aP aQ eM,aI Tryz.prog aw 16 [.ptr (some ⟨d,0,0,0,6⟩)] H (.int .i64 (held s:Nat)) aP∧ke aP eM c d aQ s∧fq H aP ch eM [c]∧H.next<aP.next:=by
 obtain⟨aP,aC,aQ,dv,cU⟩:=Px g.at' ap ac;obtain⟨eM,dH,dy,_⟩:=PY g dv cU False 0 (fun h=>h.elim);have aS:=cU.next
 exact⟨_,aQ,eM,PZ aC,dH.gj (fq.pad aP eM) (by simp),(dy.trans (fq.pad aP eM)).sub (by simp),by show H.next<aP.next+1;omega⟩
theorem ke.feed{H:j}{ch:Nat→Nat}{c ee d m:Nat}{aF:cL}{s:bO}{bw:Bytes}{ab:Option bG}(g:ke H ch c d aF s)(fx:Keys.Good s)(aS:bw.length<2^28)(aT:Ii H ch ee ab bw)(av:ee≠c):∃aP v aQ eM,aI Tryz.prog aw 26 [.ptr (some ⟨d,0,0,0,6⟩),.slice ab bw.length m] H v aP∧ke aP eM c d aQ (dh s bw).1∧hH aP eM 7 6 ew v ((dh s bw).2.map cm)∧fq H aP ch eM [c]:=by
 have ab2:Pu H d aF ab bw:=by
  rcases aT.ex with h|⟨q,bv,df,p,ad,bd,bS⟩
  ·exact .inl h
  ·have b1:∀x,mz d aF x→q≠x:=fun x ae e=>av (by rw [←bS,e];exact g.ch x ae)
   exact .inr ⟨q,bv,df,p,ad,bd,⟨b1 _ (.inl rfl),b1 _ (.inr (.inl rfl)),b1 _ (.inr (.inr (.inl rfl))),b1 _ (.inr (.inr (.inr (.inl rfl)))),b1 _ (.inr (.inr (.inr (.inr rfl))))⟩⟩
 obtain⟨aP,v,aQ,eG,aC,dv,cU,he,jq⟩:=Pv (m:=m) g.at' fx aS ab2
 obtain⟨eM,dH,dy,gy⟩:=PY g dv cU ((dh s bw).2≠[]) eG (fun h=>by
  have k:=jq h;have ago:=k.1.d;refine⟨k.1,?_⟩;have:=k.2;unfold mz
  omega)
 exact⟨aP,v,aQ,eM,aC,dH,ab1 he gy,dy⟩
theorem hH.same{H:j}{ch:Nat→Nat}{dG ee:Nat}{v1 v2:o}{es b4:List bj}(p:hH H ch dG 6 ew v1 (es.map cm))(ad:hH H ch ee 6 ew v2 (b4.map cm))(av:dG≠ee)(aS:es.length<2^62) :
 ∃aP,aI Tryz.prog aw 28 [v1,v2] H (.bool (decide (es=b4))) aP∧fq H aP ch ch []∧H.next<aP.next:=by
 obtain⟨pb,bn,aM⟩:=Ih p;obtain⟨n3,bs,aR⟩:=Ih ad;obtain⟨aP,aC,dH,dy⟩:=abz bn bs (fun a6 aO e=>av (by rw [←aM a6,←aR aO,e])) aS;exact⟨_,PZ aC,⟨by show H.next≤aP.next+1;omega,fun x _ _=>dy x,fun _ _ _=>rfl⟩,by show H.next<aP.next+1;omega⟩
theorem ab3:rf env.D 56 42 6 48:=by
 have p:(env.D 42).map (fun x=>(x.size,x.bytes,x.r'))=some (6,48,true):=by kernel_rfl
 have ad:(env.D 56).map (fun x=>x.kind)=some (.slice 42):=by kernel_rfl
 obtain⟨x,ae,k⟩:=Option.map_eq_some_iff.1 p;obtain⟨d,aC,Ik⟩:=Option.map_eq_some_iff.1 ad;simp only [Prod.mk.injEq]at k;exact⟨d,x,aC,Ik,ae,k.1,k.2.1,by decide,k.2.2⟩
theorem tv:rf env.D 34 5 1 1:=by
 have p:(env.D 5).map (fun x=>(x.size,x.bytes,x.r'))=some (1,1,true):=by kernel_rfl
 have ad:(env.D 34).map (fun x=>x.kind)=some (.slice 5):=by kernel_rfl
 obtain⟨x,ae,k⟩:=Option.map_eq_some_iff.1 p;obtain⟨d,aC,Ik⟩:=Option.map_eq_some_iff.1 ad;simp only [Prod.mk.injEq]at k;exact⟨d,x,aC,Ik,ae,k.1,k.2.1,by decide,k.2.2⟩
end Go.Proofs.YtddnafghiejcoaaGreatDoor
namespace Go.Keys
def zero:bO:=⟨.ground,[],[],[]⟩
theorem P0{s:bO}(h:Good s)(n:s.cp=.ground):s=zero:=by obtain⟨cp,kept,hold,aB⟩:=s;simp only at n;subst n;obtain⟨a,b,c⟩:=h;simp only at a b c;subst a b c;rfl
def yB(s:bO)(c:UInt8)(r:bO×List bj):Prop :=
 r.1.cp=.ground∨r.1.cp=.cW∨(r.2=[]∧r.1.kept=s.kept++[c])∨(r.1=(ground zero c).1∧(ground zero c).2=[]∧r.1.kept=[c])
theorem ab4(s:bO)(ap:s.kept=[])(c:UInt8):(ground s c).1.cp=.ground∨((ground s c).2=[]∧(ground s c).1.kept=[c]):=by
 unfold ground;split
 ·rename_i av;exact .inr ⟨rfl,by rw [av]⟩
 ·unfold ix;split
  ·exact .inl rfl
  ·unfold gD;simp only;split
   ·exact .inr ⟨rfl,by simp [ap]⟩
   ·split
    ·split
     ·exact .inl rfl
     ·exact .inl rfl
    ·exact .inl rfl
theorem Ce{s s1:bO}{c:UInt8}{r:bO×List bj}(p:s1=zero)(e:r.1=(ground s1 c).1):yB s c r:=by
 subst p;rcases ab4 zero rfl c with h|⟨p,ad⟩
 ·exact .inl (by rw [e];exact h)
 ·exact .inr (.inr (.inr ⟨e,p,by rw [e];exact ad⟩))
theorem P1{s:bO}{c:UInt8}{no:bO→bO×List bj}(jJ:∀s1:bO,s1.hold=[]→s1.aB=s.aB→yB s c (no s1)):yB s c (gD s c no):=by
 unfold gD;simp only;split
 ·exact .inr (.inr (.inl ⟨rfl,rfl⟩))
 ·split
  ·split
   ·exact .inl rfl
   ·exact .inl rfl
  ·exact jJ _ rfl rfl
theorem Il{s s1:bO}{c:UInt8}(p:s1.hold=[])(ad:s1.aB=[]):yB s c (bad s1 c):=by refine Ce (s1:=(tell s1 (gV s1.kept)).1) ?_ rfl;obtain⟨cp,kept,hold,aB⟩:=s1;simp only at p ad;subst p ad;rfl
theorem P2{s:bO}{e:bj}(p:s.hold=[])(ad:s.aB=[]):(tell s e).1=zero:=by obtain⟨cp,kept,hold,aB⟩:=s;simp only at p ad;subst p ad;rfl
theorem ab5{s:bO}(c:UInt8)(h:Good s)(aS:s.cp≠ .cW):yB s c (step s c):=by
 obtain⟨cp,kept,hold,aB⟩:=s;unfold step;cases cp with
 |ground =>
  obtain⟨p,ad,bd⟩:=h;simp only at p ad bd⊢;subst p ad bd;exact Ce (s1:=zero) rfl rfl
 |du =>
  obtain⟨p,ad,bd⟩:=h;simp only at p ad bd⊢;unfold du;split
  ·exact Ce (P2 ad bd) rfl
  ·split
   ·exact .inr (.inr (.inl ⟨rfl,rfl⟩))
   ·split
    ·exact .inr (.inr (.inl ⟨rfl,rfl⟩))
    ·unfold plain ix;split
     ·exact .inl rfl
     ·exact P1 fun s1 a b=>Il a (by rw [b];exact bd)
 |dd =>
  obtain⟨p,ad,bd,bS,bI⟩:=h;simp only at p⊢;exact P1 fun s1 a b=>Il a (by rw [b];exact p)
 |sequence =>
  obtain⟨p,ad,bd,bS⟩:=h;simp only at p ad⊢;unfold sequence;split
  ·unfold done;split
   ·exact .inr (.inl rfl)
   ·exact .inl rfl
  ·split
   ·exact Il p ad
   ·split
    ·exact .inl rfl
    ·exact .inr (.inr (.inl ⟨rfl,rfl⟩))
 |single =>
  obtain⟨p,ad,bd⟩:=h;simp only at p ad bd⊢;unfold single;split
  ·exact .inl rfl
  ·split
   ·exact .inl rfl
   ·split
    ·exact .inl rfl
    ·exact Ce (P2 p ad) rfl
 |cW=>exact absurd rfl aS
def Path(s:bO):Prop:=s.cp=.cW∨dh zero s.kept=(s,[])
theorem vu(s:bO)(c:UInt8):dh s [c]=step s c:=by simp [dh]
end Go.Keys
namespace Go.Keys
def Seq(s:bO):Prop:=s.cp=.sequence→ ∃w,s.kept=27::91::w
end Go.Keys
namespace Go.Keys
def r0(k:Int):Prop:=(1≤k∧k≤14)∨(21≤k∧k≤32)
def Im(e:bj):Prop:=e.x=0∧e.y=0∧e.text=[]
def tw(e:bj):Prop :=
 (e.kind=1∧0≤e.dW∧e.dW≤7∧shown e.code=true∧Im e) ∨
 (e.kind=2∧0≤e.dW∧e.dW≤7∧r0 e.code∧Im e) ∨
 (e.kind=3∧0≤e.dW∧e.dW≤7∧0≤e.code∧e.code≤6∧0≤e.x∧e.x<4096∧0≤e.y∧e.y<4096∧e.text=[]) ∨
 (e.kind=5∧e.dW=0∧(e.code=0∨e.code=1)∧Im e)
theorem yC{k m:Int}(h:r0 k)(bm:0≤m)(cP:m≤7):tw (eR k m):= .inr (.inl ⟨rfl,bm,cP,h,rfl,rfl,rfl⟩)
theorem ab6{k m:Int}(h:shown k=true)(bm:0≤m)(cP:m≤7):tw (fe k m):= .inl ⟨rfl,bm,cP,h,rfl,rfl,rfl⟩
theorem P3{c:Nat}(h:0<gE c):r0 (gE c):=by
 unfold gE at h⊢;unfold r0
 repeat' split at h
 all_goals (first|(rename_i p;simp only [p];split<;>(try split)<;>omega)|omega|(split<;>(try split)<;>(try split)<;>omega))
theorem ab7{n:Nat}(h:0<iI n):r0 (iI n):=by unfold iI at h⊢;unfold r0;split<;>(try split)<;>(try split)<;>(try split)<;>(try split)<;>(try split)<;>(try split)<;>first|omega|(simp_all;done)
theorem ab8{c:Nat}{m:Int}{e:bj}(bm:0≤m)(cP:m≤7)(h:dM c m=some e):tw e:=by
 unfold dM at h
 repeat' split at h
 all_goals first
  |(cases h;done)
  |(simp only [Option.some.injEq]at h;subst h;exact yC (by unfold r0;omega) bm cP)
  |(rename_i aD;simp only [Option.some.injEq]at h;subst h;exact ab6 (by simp only [not_or,Bool.not_eq_false]at aD;exact aD.2) bm cP)
theorem ab9{w:Bytes}{c:Nat}{e:bj}(h:e9 w c=some e):tw e:=by
 unfold e9 at h;split at h
 ·split at h
  ·rename_i aj a6 aO aD;simp only at h;have hm:(0:Int)≤((aj/4%8:Nat):Int)∧((aj/4%8:Nat):Int)≤7:=by omega
   split at h
   ·cases h
   ·rename_i au;simp only [not_or]at au;have go:∀k:Int,0≤k→k≤6→tw ⟨3,k,((aj/4%8:Nat):Int),(a6:Int)-1,(aO:Int)-1,[]⟩:=fun k bm dx=> .inr (.inr (.inl ⟨rfl,hm.1,hm.2,bm,dx,by show(0:Int)≤(a6:Int)-1;omega,by show(a6:Int)-1<4096;omega,by show(0:Int)≤(aO:Int)-1;omega,by show(aO:Int)-1<4096;omega,rfl⟩))
    split at h
    ·simp only [Option.some.injEq]at h;subst h;exact go 3 (by decide) (by decide)
    ·split at h
     ·rename_i ap;simp only [Option.some.injEq]at h;subst h;exact go _ (by omega) (by omega)
     ·split at h
      ·simp only [Option.some.injEq]at h;subst h;exact go 6 (by decide) (by decide)
      ·split at h
       ·simp only [Option.some.injEq]at h;subst h;exact go 4 (by decide) (by decide)
       ·split at h
        ·simp only [Option.some.injEq]at h;subst h;exact go 5 (by decide) (by decide)
        ·cases h
  ·cases h
 ·cases h
theorem P4{aj k C:Nat}{m:Int}{c:UInt8}{e:bj}(h:(if 1<k∨m<1∨8<m then none else if 0<gE c.toNat∧aj=1∧k=C then some (eR (gE c.toNat) (m-1))else if c=126∧0<iI aj then some (eR (iI aj) (m-1))else if c=117 then dM aj (m-1)else none)=some e):tw e:=by
 split at h
 ·cases h
 ·rename_i hm;simp only [not_or]at hm;split at h
  ·rename_i aT;simp only [Option.some.injEq]at h;subst h;exact yC (P3 aT.1) (by omega) (by omega)
  ·split at h
   ·rename_i aT;simp only [Option.some.injEq]at h;subst h;exact yC (ab7 aT.2) (by omega) (by omega)
   ·split at h
    ·exact ab8 (by omega) (by omega) h
    ·cases h
theorem ab'{w:Bytes}{c:UInt8}{e:bj}(h:told w c=some e):tw e∨e=⟨6,0,0,0,0,w++[c]⟩:=by
 unfold told at h;split at h
 ·simp only [Option.some.injEq]at h;subst h;exact .inr rfl
 ·refine .inl ?_;split at h
  ·exact ab9 h
  ·split at h
   ·cases h
   ·split at h
    ·simp only [Option.some.injEq]at h;subst h;exact yC (by unfold r0;omega) (by decide) (by decide)
    ·split at h
     ·simp only [Option.some.injEq]at h;subst h;exact .inr (.inr (.inr ⟨rfl,rfl,.inr rfl,rfl,rfl,rfl⟩))
     ·split at h
      ·simp only [Option.some.injEq]at h;subst h;exact .inr (.inr (.inr ⟨rfl,rfl,.inl rfl,rfl,rfl,rfl⟩))
      ·split at h
       ·rename_i aT;simp only [Option.some.injEq]at h;subst h;exact yC (P3 aT) (by decide) (by decide)
       ·cases h
   ·rename_i aj r aD;rcases r with _|⟨x,_|⟨y,t⟩⟩
    ·exact P4 h
    ·exact P4 h
    ·simp only [List.length_cons]at h;rw [if_pos (.inl (by omega))]at h;cases h
end Go.Keys
namespace Go.Keys
open Go.Lib
def eu:List Nat→Bytes
 |[]=> []
 |[n]=>decDigits n
 |n::m::r=>decDigits n++59::eu (m::r)
def gx(e:Bytes)(l:List Nat):Bytes:=27::91::(eu l++e)
def tx(r:Nat):Option UInt8 :=
 if r=32 then some 0 else if 97≤r∧r≤122∧r≠105∧r≠109 then some (u8 (r%32))else if 92≤r∧r≤95 then some (u8 (r%32))else none
def kI(r m:Nat):Bytes :=
 if m=0 then put r
 else if m=2∧r≠91∧r≠79 then 27::put r
 else if m=4∨m=6 then
  match tx r with
  |some c=>if m=4 then [c]else [27,c]
  |none=>gx [117] [r,m+1]
 else gx [117] [r,m+1]
def pv(k:Nat):Nat:=if k=1 then 13 else if k=2 then 9 else if k=3 then 127 else 27
def ty(k:Nat):Option UInt8 :=
 if 5≤k∧k≤8 then some (u8 (60+k))else if k=9 then some 72 else if k=10 then some 70 else none
def r1(k:Nat):Option Nat :=
 if k=11∨k=12 then some (k-9)else if k=13∨k=14 then some (k-8)
 else if 21≤k∧k≤25 then some (k-10)else if 26≤k∧k≤30 then some (k-9)else if k=31∨k=32 then some (k-8)else none
def oi(k m:Nat):Option Bytes :=
 if 1≤k∧k≤4 then
  if m=0 then some [u8 (pv k)]
  else if m=2∧k≠4 then some [27,u8 (pv k)]
  else if m=1∧k=2 then some (gx [90] [])
  else some (gx [117] [pv k,m+1])
 else match ty k with
 |some c=>if m=0 then some (gx [c] [])else some (gx [c] [1,m+1])
 |none =>
  if m=0∧21≤k∧k≤24 then some [27,79,u8 (80+(k-21))]
  else match r1 k with
  |some n=>if m=0 then some (gx [126] [n])else some (gx [126] [n,m+1])
  |none=>none
def gG(c:Nat):Nat:=if c=1 then 1 else if c=2 then 2 else if c=4 then 64 else if c=5 then 65 else if c=6 then 35 else 0
def oj(c m x y:Nat):Bytes:=27::91::60::(eu [gG c+4*m,x+1,y+1]++[if c=3 then 109 else 77])
def tz(e:bj):Bool:=decide (0≤e.code)&&decide (e.code≤6)&&decide (e.dW≤7)&&decide (0≤e.x)&&decide (e.x<4096)&&decide (0≤e.y)&&decide (e.y<4096)&&decide (e.text=[])
def hasEnd:Bytes→Bool
 |[]=>false
 |b::r=>ea.isPrefixOf (b::r) || hasEnd r
def ol:Bytes:=[27,91,50,48,48,126]
def vv(e:bj):Bool:=decide (e.x=0)&&decide (e.y=0)&&decide (e.text=[])
def dI(e:bj):Option Bytes :=
 if e.kind=3 then if tz e=true then some (oj e.code.toNat e.dW.toNat e.x.toNat e.y.toNat)else none
 else if 7<e.dW then none
 else if e.kind=1∧vv e=true∧shown e.code=true then some (kI e.code.toNat e.dW.toNat)
 else if e.kind=2∧vv e=true then if 0≤e.code then oi e.code.toNat e.dW.toNat else none
 else if e=⟨5,0,0,0,0,[]⟩then some (gx [79] [])
 else if e=⟨5,1,0,0,0,[]⟩then some (gx [73] [])
 else if e=⟨4,0,0,0,0,e.text⟩∧e.text.length≤65536∧hasEnd e.text=false then some (ol++(e.text++ea))
 else if e=⟨6,0,0,0,0,e.text⟩∧e.text.length≤62 then
  if(dh zero (27::91::e.text)).2=[e]∧held (dh zero (27::91::e.text)).1=0 then some (27::91::e.text)else none
 else none
theorem Cf:∀(n:Nat),(decDigits n).all digit=true:=by
 intro n;induction n using Nat.strongRecOn with
 |ind n ih =>
  rw [decDigits];split
  ·rename_i h;simp only [List.all_cons,List.all_nil,Bool.and_true,digit,Bool.and_eq_true,decide_eq_true_eq,UInt8.toNat_ofNat'];omega
  ·rename_i h;rw [List.all_append,ih _ (by omega)];simp only [List.all_cons,List.all_nil,Bool.and_true,Bool.true_and,digit,Bool.and_eq_true,decide_eq_true_eq,UInt8.toNat_ofNat'];omega
theorem aca(w:Bytes)(b:UInt8):number (w++[b])=10*number w+(b.toNat-48):=by unfold number;rw [List.foldl_append];rfl
theorem P5:∀(n:Nat),number (decDigits n)=n:=by
 intro n;induction n using Nat.strongRecOn with
 |ind n ih =>
  rw [decDigits];split
  ·rename_i h;show 10*0+((UInt8.ofNat (48+n)).toNat-48)=n;rw [UInt8.toNat_ofNat'];omega
  ·rename_i h;rw [aca,ih _ (by omega),UInt8.toNat_ofNat'];omega
theorem Io(n:Nat):decDigits n≠[]:=by intro h;have:=decDigits_length n;rw [h]at this;have:=nDigits_pos n;simp at *; omega
theorem pw{n k:Nat}(h:n<10^(k+1)):(decDigits n).length≤k+1:=by
 rw [decDigits_length];induction k generalizing n with
 |zero=>rw [nDigits_small (by simpa using h)];omega
 |succ k ih =>
  by_cases nH:n<10
  ·rw [nDigits_small nH];omega
  ·rw [nDigits_big nH];have:=ih (n:=n/10) (by rw [Nat.pow_succ]at h;omega);omega
theorem acb{n:Nat}(h:n<1000000000):¬(decDigits n=[]∨9<(decDigits n).length∨(decDigits n).all digit=false):=by have:=pw (n:=n) (k:=8) (by simpa using h);rw [Cf];simp [Io];omega
theorem acd{w:Bytes}(h:w.all digit=true)(r:Bytes):splitAt 59 (w++59::r)=w::splitAt 59 r:=by
 induction w with
 |nil=>rw [List.nil_append,splitAt,if_pos rfl]
 |cons b t ih =>
  simp only [List.all_cons,Bool.and_eq_true]at h;have au:¬b=59:=by rintro rfl;exact absurd h.1 (by decide)
  rw [List.cons_append,splitAt,if_neg au,ih h.2]
theorem ace{w:Bytes}(h:w.all digit=true):splitAt 59 w=[w]:=by
 induction w with
 |nil=>rfl
 |cons b t ih =>
  simp only [List.all_cons,Bool.and_eq_true]at h;have au:¬b=59:=by rintro rfl;exact absurd h.1 (by decide)
  rw [splitAt,if_neg au,ih h.2]
theorem P6:∀{l:List Nat},l≠[]→splitAt 59 (eu l)=l.map decDigits
 |[],h=>absurd rfl h
 |[n],_=>ace (Cf n)
 |n::m::r,_=>by rw [eu,acd (Cf n),P6 (by simp)];rfl
theorem P7:∀{l:List Nat},(∀n∈l,n<1000000000)→lF (l.map decDigits)=some l
 |[],_=>rfl
 |n::r,h=>by rw [List.map_cons,lF,if_neg (acb (h n (by simp))),P7 fun x ae=>h x (by simp [ae]),P5];rfl
theorem acf:∀{l:List Nat},l≠[]→eu l≠[]
 |[],h=>absurd rfl h
 |[n],_=>Io n
 |n::m::r,_=>by simp [eu]
theorem Ip{l:List Nat}(h:∀n∈l,n<1000000000):numbers (eu l)=some l:=by
 cases l with
 |nil=>rfl
 |cons n r =>
  unfold numbers;rw [if_neg (acf (by simp)),P6 (by simp),P7 h]
def qB(b:UInt8):Bool:=decide (48≤b.toNat)&&decide (b.toNat≤63)
theorem acg{b:UInt8}(h:digit b=true):qB b=true:=by simp only [digit,qB,Bool.and_eq_true,decide_eq_true_eq]at *; omega
theorem P8(n:Nat):(decDigits n).all qB=true:=by have:=Cf n;rw [List.all_eq_true]at *;exact fun b au=>acg (this b au)
theorem Iq:∀(l:List Nat),(eu l).all qB=true
 |[]=>rfl
 |[n]=>P8 n
 |n::m::r=>by rw [eu,List.all_append,P8,List.all_cons,Iq];rfl
theorem ach(w:Bytes)(b:UInt8):(w++[b]).getLastD 0=b:=by simp
theorem P9:∀(w:Bytes){k:Bytes},w.all qB=true→k.length+w.length<64→48≤(k.getLastD 0).toNat→dh ⟨.sequence,k,[],[]⟩ w=(⟨.sequence,k++w,[],[]⟩,[])
 |[],k,_,_,_=>by simp [dh]
 |b ::r,k,hw,az,ap=>by
  simp only [List.all_cons,Bool.and_eq_true,qB,decide_eq_true_eq]at hw;simp only [List.length_cons]at az
  have e:step ⟨.sequence,k,[],[]⟩ b=(⟨.sequence,k++[b],[],[]⟩,[]):=by show sequence _ b=_;unfold sequence;rw [if_neg (by omega),if_neg (by simp only;omega),if_neg (by simp only;omega)]
  rw [dh,e];simp only [List.nil_append];have:=P9 r (k:=k++[b]) (by simpa using hw.2) (by simp;omega) (by rw [ach];exact hw.1.1);rw [this];simp
theorem aci{w:Bytes}(hw:w.all qB=true)(az:w.length≤60){c:UInt8}(p:64≤c.toNat)(ad:c.toNat≤126):dh zero (27::91::(w++[c]))=done ⟨.sequence,27::91::(w++[c]),[],[]⟩ w c:=by
 have e:dh zero [27,91]=(⟨.sequence,[27,91],[],[]⟩,[]):=by decide
 have:(27:UInt8)::91::(w++[c])=[27,91]++(w++[c]):=rfl;rw [this,w6,e];simp only [List.nil_append];rw [w6,P9 w hw (by simp;omega) (by decide),vu];simp only [List.nil_append];show sequence _ c=_;unfold sequence;rw [if_pos ⟨p,ad⟩];simp
theorem Ir{w:Bytes}{e:bj}(hw:w.all qB=true)(az:w.length≤60){c:UInt8}(p:64≤c.toNat)(ad:c.toNat≤126)(ac:c=126→j' w=false)(bX:told w c=some e):dh zero (27::91::(w++[c]))=(zero,[e]):=by rw [aci hw az p ad];unfold done;rw [if_neg (by rintro ⟨a,b⟩;rw [ac a]at b;cases b),bX];rfl
theorem yD{l:List Nat}{c:UInt8}{e:bj}(az:(eu l).length≤60)(p:64≤c.toNat)(ad:c.toNat≤126)(ac:c=126→j' (eu l)=false)(bX:told (eu l) c=some e):dh zero (gx [c] l)=(zero,[e]) :=
 Ir (Iq l) az p ad ac bX
end Go.Keys
namespace Go.Proofs.YtddnafghiejcoaaGreatDoor
open Go.cM Go.Keys
set_option maxRecDepth 1000000
abbrev g':o:= .int .u8 0
abbrev px(l:List o):R:=R.made [.agg l] 24 true (some (154,24))
abbrev kJ:R:=px [g',g',g',g',g',g',g',g',g',g',g',g',g',g',g',g',g',g',g',g',g',g',g',g']
def h4:Bytes:=Lib.smalls.data.toList
theorem acj(u:Nat)(U:o→j→Prop)(aY:(0≤(u:Int)∧(u:Int)≤4294967295)∧((100:Int)=0→False)∧(0≤Int.tmod (u:Int) 100*2∧Int.tmod (u:Int) 100*2≤4294967295)∧(((100:Int)=0→False)∧ik .u32 (Int.tdiv (u:Int) 100))∧(0≤Int.tmod (u:Int) 100*2+1∧Int.tmod (u:Int) 100*2+1≤4294967295)∧(0≤Int.tmod (u:Int) 100*2+1∧Int.tmod (u:Int) 100*2+1<200)∧(0≤Int.tmod (u:Int) 100*2∧Int.tmod (u:Int) 100*2<200)∧(0≤48+Int.tdiv (u:Int) 100∧48+Int.tdiv (u:Int) 100≤4294967295)∧(0≤48+Int.tdiv (u:Int) 100∧48+Int.tdiv (u:Int) 100≤255)∧U (.tuple []) (j.ar 46 [(0,(R.made ([.agg [.int .u8 (48+Int.tdiv (u:Int) 100),.int .u8 (↑(UInt8.toNat (List.getD h4 (Int.toNat (Int.tmod (u:Int) 100*2)) 0)):Int),.int .u8 (↑(UInt8.toNat (List.getD h4 (Int.toNat (Int.tmod (u:Int) 100*2+1)) 0)):Int),.int .u8 0,.int .u8 0,.int .u8 0,.int .u8 0,.int .u8 0,.int .u8 0,.int .u8 0,.int .u8 0,.int .u8 0,.int .u8 0,.int .u8 0,.int .u8 0,.int .u8 0,.int .u8 0,.int .u8 0,.int .u8 0,.int .u8 0,.int .u8 0,.int .u8 0,.int .u8 0,.int .u8 0]]) 24 true (some (154,24))))])) :
 ∃v p,aI Tryz.prog aw 121 [.slice (some ⟨0,0,0,1,24⟩) 3 24,.int .u64 u] (j.rows 1 [(0,kJ)]) v p∧U v p :=
 cb bQ mixed gU (an:= .aA (.rounds 300) (ag 12001 (ag 21001 (ag 21002 (ag 22001 (ag 23007 (ag 23008 (ag 23010 (ag 26002 (ag 26003 .nil)))))))))) (by kernel_rfl) aY
theorem ack(u:Nat)(U:o→j→Prop)(aY:(0≤(u:Int)∧(u:Int)≤4294967295)∧((10000:Int)=0→False)∧(((10000:Int)=0→False)∧ik .u32 (Int.tdiv (u:Int) 10000))∧(((100:Int)=0→False)∧ik .u32 (Int.tdiv (Int.tmod (u:Int) 10000) 100))∧(0≤Int.tdiv (Int.tmod (u:Int) 10000) 100*2∧Int.tdiv (Int.tmod (u:Int) 10000) 100*2≤4294967295)∧((100:Int)=0→False)∧(0≤Int.tmod (Int.tmod (u:Int) 10000) 100*2∧Int.tmod (Int.tmod (u:Int) 10000) 100*2≤4294967295)∧(0≤Int.tmod (Int.tmod (u:Int) 10000) 100*2+1∧Int.tmod (Int.tmod (u:Int) 10000) 100*2+1≤4294967295)∧(0≤Int.tmod (Int.tmod (u:Int) 10000) 100*2+1∧Int.tmod (Int.tmod (u:Int) 10000) 100*2+1<200)∧(0≤Int.tmod (Int.tmod (u:Int) 10000) 100*2∧Int.tmod (Int.tmod (u:Int) 10000) 100*2<200)∧(0≤Int.tdiv (Int.tmod (u:Int) 10000) 100*2+1∧Int.tdiv (Int.tmod (u:Int) 10000) 100*2+1≤4294967295)∧(0≤Int.tdiv (Int.tmod (u:Int) 10000) 100*2+1∧Int.tdiv (Int.tmod (u:Int) 10000) 100*2+1<200)∧(0≤Int.tdiv (Int.tmod (u:Int) 10000) 100*2∧Int.tdiv (Int.tmod (u:Int) 10000) 100*2<200)∧U (.tuple []) (j.ar 62 [(0,(R.made ([.agg [.int .u8 (↑(UInt8.toNat (List.getD h4 (Int.toNat (Int.tdiv (Int.tmod (u:Int) 10000) 100*2)) 0)):Int),.int .u8 (↑(UInt8.toNat (List.getD h4 (Int.toNat (Int.tdiv (Int.tmod (u:Int) 10000) 100*2+1)) 0)):Int),.int .u8 (↑(UInt8.toNat (List.getD h4 (Int.toNat (Int.tmod (Int.tmod (u:Int) 10000) 100*2)) 0)):Int),.int .u8 (↑(UInt8.toNat (List.getD h4 (Int.toNat (Int.tmod (Int.tmod (u:Int) 10000) 100*2+1)) 0)):Int),.int .u8 0,.int .u8 0,.int .u8 0,.int .u8 0,.int .u8 0,.int .u8 0,.int .u8 0,.int .u8 0,.int .u8 0,.int .u8 0,.int .u8 0,.int .u8 0,.int .u8 0,.int .u8 0,.int .u8 0,.int .u8 0,.int .u8 0,.int .u8 0,.int .u8 0,.int .u8 0]]) 24 true (some (154,24))))])) :
 ∃v p,aI Tryz.prog aw 121 [.slice (some ⟨0,0,0,1,24⟩) 4 24,.int .u64 u] (j.rows 1 [(0,kJ)]) v p∧U v p :=
 cb bQ mixed gU (an:= .aA (.rounds 300) (ag 12001 (ag 14001 (ag 15001 (ag 16001 (ag 16002 (ag 16004 (ag 16005 (ag 17007 (ag 17008 (ag 17010 (ag 18007 (ag 18008 (ag 18010 .nil)))))))))))))) (by kernel_rfl) aY
theorem acm(u:Nat)(U:o→j→Prop)(aY:(0≤(u:Int)∧(u:Int)≤4294967295)∧((10000:Int)=0→False)∧(((10000:Int)=0→False)∧ik .u32 (Int.tdiv (u:Int) 10000))∧(((100:Int)=0→False)∧ik .u32 (Int.tdiv (Int.tmod (u:Int) 10000) 100))∧(0≤Int.tdiv (Int.tmod (u:Int) 10000) 100*2∧Int.tdiv (Int.tmod (u:Int) 10000) 100*2≤4294967295)∧((100:Int)=0→False)∧(0≤Int.tmod (Int.tmod (u:Int) 10000) 100*2∧Int.tmod (Int.tmod (u:Int) 10000) 100*2≤4294967295)∧(0≤Int.tmod (Int.tmod (u:Int) 10000) 100*2+1∧Int.tmod (Int.tmod (u:Int) 10000) 100*2+1≤4294967295)∧(0≤Int.tmod (Int.tmod (u:Int) 10000) 100*2+1∧Int.tmod (Int.tmod (u:Int) 10000) 100*2+1<200)∧(0≤Int.tmod (Int.tmod (u:Int) 10000) 100*2∧Int.tmod (Int.tmod (u:Int) 10000) 100*2<200)∧(0≤Int.tdiv (Int.tmod (u:Int) 10000) 100*2+1∧Int.tdiv (Int.tmod (u:Int) 10000) 100*2+1≤4294967295)∧(0≤Int.tdiv (Int.tmod (u:Int) 10000) 100*2+1∧Int.tdiv (Int.tmod (u:Int) 10000) 100*2+1<200)∧(0≤Int.tdiv (Int.tmod (u:Int) 10000) 100*2∧Int.tdiv (Int.tmod (u:Int) 10000) 100*2<200)∧(0≤48+Int.tdiv (u:Int) 10000∧48+Int.tdiv (u:Int) 10000≤4294967295)∧(0≤48+Int.tdiv (u:Int) 10000∧48+Int.tdiv (u:Int) 10000≤255)∧U (.tuple []) (j.ar 68 [(0,(R.made ([.agg [.int .u8 (48+Int.tdiv (u:Int) 10000),.int .u8 (↑(UInt8.toNat (List.getD h4 (Int.toNat (Int.tdiv (Int.tmod (u:Int) 10000) 100*2)) 0)):Int),.int .u8 (↑(UInt8.toNat (List.getD h4 (Int.toNat (Int.tdiv (Int.tmod (u:Int) 10000) 100*2+1)) 0)):Int),.int .u8 (↑(UInt8.toNat (List.getD h4 (Int.toNat (Int.tmod (Int.tmod (u:Int) 10000) 100*2)) 0)):Int),.int .u8 (↑(UInt8.toNat (List.getD h4 (Int.toNat (Int.tmod (Int.tmod (u:Int) 10000) 100*2+1)) 0)):Int),.int .u8 0,.int .u8 0,.int .u8 0,.int .u8 0,.int .u8 0,.int .u8 0,.int .u8 0,.int .u8 0,.int .u8 0,.int .u8 0,.int .u8 0,.int .u8 0,.int .u8 0,.int .u8 0,.int .u8 0,.int .u8 0,.int .u8 0,.int .u8 0,.int .u8 0]]) 24 true (some (154,24))))])) :
 ∃v p,aI Tryz.prog aw 121 [.slice (some ⟨0,0,0,1,24⟩) 5 24,.int .u64 u] (j.rows 1 [(0,kJ)]) v p∧U v p :=
 cb bQ mixed gU (an:= .aA (.rounds 300) (ag 12001 (ag 14001 (ag 15001 (ag 16001 (ag 16002 (ag 16004 (ag 16005 (ag 17007 (ag 17008 (ag 17010 (ag 18007 (ag 18008 (ag 18010 (ag 26002 (ag 26003 .nil)))))))))))))))) (by kernel_rfl) aY
theorem acn(u:Nat)(U:o→j→Prop)(aY:(0≤(u:Int)∧(u:Int)≤4294967295)∧((10000:Int)=0→False)∧(((10000:Int)=0→False)∧ik .u32 (Int.tdiv (u:Int) 10000))∧(((100:Int)=0→False)∧ik .u32 (Int.tdiv (Int.tmod (u:Int) 10000) 100))∧(0≤Int.tdiv (Int.tmod (u:Int) 10000) 100*2∧Int.tdiv (Int.tmod (u:Int) 10000) 100*2≤4294967295)∧((100:Int)=0→False)∧(0≤Int.tmod (Int.tmod (u:Int) 10000) 100*2∧Int.tmod (Int.tmod (u:Int) 10000) 100*2≤4294967295)∧(0≤Int.tmod (Int.tmod (u:Int) 10000) 100*2+1∧Int.tmod (Int.tmod (u:Int) 10000) 100*2+1≤4294967295)∧(0≤Int.tmod (Int.tmod (u:Int) 10000) 100*2+1∧Int.tmod (Int.tmod (u:Int) 10000) 100*2+1<200)∧(0≤Int.tmod (Int.tmod (u:Int) 10000) 100*2∧Int.tmod (Int.tmod (u:Int) 10000) 100*2<200)∧(0≤Int.tdiv (Int.tmod (u:Int) 10000) 100*2+1∧Int.tdiv (Int.tmod (u:Int) 10000) 100*2+1≤4294967295)∧(0≤Int.tdiv (Int.tmod (u:Int) 10000) 100*2+1∧Int.tdiv (Int.tmod (u:Int) 10000) 100*2+1<200)∧(0≤Int.tdiv (Int.tmod (u:Int) 10000) 100*2∧Int.tdiv (Int.tmod (u:Int) 10000) 100*2<200)∧((100:Int)=0→False)∧(0≤Int.tmod (Int.tdiv (u:Int) 10000) 100*2∧Int.tmod (Int.tdiv (u:Int) 10000) 100*2≤4294967295)∧(((100:Int)=0→False)∧ik .u32 (Int.tdiv (Int.tdiv (u:Int) 10000) 100))∧(0≤Int.tmod (Int.tdiv (u:Int) 10000) 100*2+1∧Int.tmod (Int.tdiv (u:Int) 10000) 100*2+1≤4294967295)∧(0≤Int.tmod (Int.tdiv (u:Int) 10000) 100*2+1∧Int.tmod (Int.tdiv (u:Int) 10000) 100*2+1<200)∧(0≤Int.tmod (Int.tdiv (u:Int) 10000) 100*2∧Int.tmod (Int.tdiv (u:Int) 10000) 100*2<200)∧U (.tuple []) (j.ar 87 [(0,(R.made ([.agg [.int .u8 (↑(UInt8.toNat (List.getD h4 (Int.toNat (Int.tmod (Int.tdiv (u:Int) 10000) 100*2)) 0)):Int),.int .u8 (↑(UInt8.toNat (List.getD h4 (Int.toNat (Int.tmod (Int.tdiv (u:Int) 10000) 100*2+1)) 0)):Int),.int .u8 (↑(UInt8.toNat (List.getD h4 (Int.toNat (Int.tdiv (Int.tmod (u:Int) 10000) 100*2)) 0)):Int),.int .u8 (↑(UInt8.toNat (List.getD h4 (Int.toNat (Int.tdiv (Int.tmod (u:Int) 10000) 100*2+1)) 0)):Int),.int .u8 (↑(UInt8.toNat (List.getD h4 (Int.toNat (Int.tmod (Int.tmod (u:Int) 10000) 100*2)) 0)):Int),.int .u8 (↑(UInt8.toNat (List.getD h4 (Int.toNat (Int.tmod (Int.tmod (u:Int) 10000) 100*2+1)) 0)):Int),.int .u8 0,.int .u8 0,.int .u8 0,.int .u8 0,.int .u8 0,.int .u8 0,.int .u8 0,.int .u8 0,.int .u8 0,.int .u8 0,.int .u8 0,.int .u8 0,.int .u8 0,.int .u8 0,.int .u8 0,.int .u8 0,.int .u8 0,.int .u8 0]]) 24 true (some (154,24))))])) :
 ∃v p,aI Tryz.prog aw 121 [.slice (some ⟨0,0,0,1,24⟩) 6 24,.int .u64 u] (j.rows 1 [(0,kJ)]) v p∧U v p :=
 cb bQ mixed gU (an:= .aA (.rounds 300) (ag 12001 (ag 14001 (ag 15001 (ag 16001 (ag 16002 (ag 16004 (ag 16005 (ag 17007 (ag 17008 (ag 17010 (ag 18007 (ag 18008 (ag 18010 (ag 21001 (ag 21002 (ag 22001 (ag 23007 (ag 23008 (ag 23010 .nil)))))))))))))))))))) (by kernel_rfl) aY
theorem aco(u:Nat)(U:o→j→Prop)(aY:(0≤(u:Int)∧(u:Int)≤4294967295)∧((10000:Int)=0→False)∧(((10000:Int)=0→False)∧ik .u32 (Int.tdiv (u:Int) 10000))∧(((100:Int)=0→False)∧ik .u32 (Int.tdiv (Int.tmod (u:Int) 10000) 100))∧(0≤Int.tdiv (Int.tmod (u:Int) 10000) 100*2∧Int.tdiv (Int.tmod (u:Int) 10000) 100*2≤4294967295)∧((100:Int)=0→False)∧(0≤Int.tmod (Int.tmod (u:Int) 10000) 100*2∧Int.tmod (Int.tmod (u:Int) 10000) 100*2≤4294967295)∧(0≤Int.tmod (Int.tmod (u:Int) 10000) 100*2+1∧Int.tmod (Int.tmod (u:Int) 10000) 100*2+1≤4294967295)∧(0≤Int.tmod (Int.tmod (u:Int) 10000) 100*2+1∧Int.tmod (Int.tmod (u:Int) 10000) 100*2+1<200)∧(0≤Int.tmod (Int.tmod (u:Int) 10000) 100*2∧Int.tmod (Int.tmod (u:Int) 10000) 100*2<200)∧(0≤Int.tdiv (Int.tmod (u:Int) 10000) 100*2+1∧Int.tdiv (Int.tmod (u:Int) 10000) 100*2+1≤4294967295)∧(0≤Int.tdiv (Int.tmod (u:Int) 10000) 100*2+1∧Int.tdiv (Int.tmod (u:Int) 10000) 100*2+1<200)∧(0≤Int.tdiv (Int.tmod (u:Int) 10000) 100*2∧Int.tdiv (Int.tmod (u:Int) 10000) 100*2<200)∧((100:Int)=0→False)∧(0≤Int.tmod (Int.tdiv (u:Int) 10000) 100*2∧Int.tmod (Int.tdiv (u:Int) 10000) 100*2≤4294967295)∧(((100:Int)=0→False)∧ik .u32 (Int.tdiv (Int.tdiv (u:Int) 10000) 100))∧(0≤Int.tmod (Int.tdiv (u:Int) 10000) 100*2+1∧Int.tmod (Int.tdiv (u:Int) 10000) 100*2+1≤4294967295)∧(0≤Int.tmod (Int.tdiv (u:Int) 10000) 100*2+1∧Int.tmod (Int.tdiv (u:Int) 10000) 100*2+1<200)∧(0≤Int.tmod (Int.tdiv (u:Int) 10000) 100*2∧Int.tmod (Int.tdiv (u:Int) 10000) 100*2<200)∧(0≤48+Int.tdiv (Int.tdiv (u:Int) 10000) 100∧48+Int.tdiv (Int.tdiv (u:Int) 10000) 100≤4294967295)∧(0≤48+Int.tdiv (Int.tdiv (u:Int) 10000) 100∧48+Int.tdiv (Int.tdiv (u:Int) 10000) 100≤255)∧U (.tuple []) (j.ar 93 [(0,(R.made ([.agg [.int .u8 (48+Int.tdiv (Int.tdiv (u:Int) 10000) 100),.int .u8 (↑(UInt8.toNat (List.getD h4 (Int.toNat (Int.tmod (Int.tdiv (u:Int) 10000) 100*2)) 0)):Int),.int .u8 (↑(UInt8.toNat (List.getD h4 (Int.toNat (Int.tmod (Int.tdiv (u:Int) 10000) 100*2+1)) 0)):Int),.int .u8 (↑(UInt8.toNat (List.getD h4 (Int.toNat (Int.tdiv (Int.tmod (u:Int) 10000) 100*2)) 0)):Int),.int .u8 (↑(UInt8.toNat (List.getD h4 (Int.toNat (Int.tdiv (Int.tmod (u:Int) 10000) 100*2+1)) 0)):Int),.int .u8 (↑(UInt8.toNat (List.getD h4 (Int.toNat (Int.tmod (Int.tmod (u:Int) 10000) 100*2)) 0)):Int),.int .u8 (↑(UInt8.toNat (List.getD h4 (Int.toNat (Int.tmod (Int.tmod (u:Int) 10000) 100*2+1)) 0)):Int),.int .u8 0,.int .u8 0,.int .u8 0,.int .u8 0,.int .u8 0,.int .u8 0,.int .u8 0,.int .u8 0,.int .u8 0,.int .u8 0,.int .u8 0,.int .u8 0,.int .u8 0,.int .u8 0,.int .u8 0,.int .u8 0,.int .u8 0]]) 24 true (some (154,24))))])) :
 ∃v p,aI Tryz.prog aw 121 [.slice (some ⟨0,0,0,1,24⟩) 7 24,.int .u64 u] (j.rows 1 [(0,kJ)]) v p∧U v p :=
 cb bQ mixed gU (an:= .aA (.rounds 300) (ag 12001 (ag 14001 (ag 15001 (ag 16001 (ag 16002 (ag 16004 (ag 16005 (ag 17007 (ag 17008 (ag 17010 (ag 18007 (ag 18008 (ag 18010 (ag 21001 (ag 21002 (ag 22001 (ag 23007 (ag 23008 (ag 23010 (ag 26002 (ag 26003 .nil)))))))))))))))))))))) (by kernel_rfl) aY
end Go.Proofs.YtddnafghiejcoaaGreatDoor
