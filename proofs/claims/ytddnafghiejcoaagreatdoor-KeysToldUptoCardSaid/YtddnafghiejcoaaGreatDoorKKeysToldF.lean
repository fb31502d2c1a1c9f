/-
  Parts of the proof of KeysTold.
-/
import Derived.Lib.ItoaNum
import Derived.Test.YtddnafghiejcoaaGreatDoorKKeysToldE
set_option linter.unusedVariables false
set_option linter.unusedSimpArgs false
namespace Go.Proofs.YtddnafghiejcoaaGreatDoor
open Go.cH Go.Keys
set_option maxRecDepth 1000000
set_option maxHeartbeats 4000000
theorem Zm(x:Bytes)(n k:Nat):List.take n (List.drop k (aJ x))=aJ ((x.drop k).take n):=by simp [aJ,List.map_drop,List.map_take]
theorem Zn(x:Bytes)(c:UInt8)(h:2≤x.length):strOf (List.take (Int.toNat (((x.length+1:Nat):Int)-1)-2) (List.drop 2 (List.append (aJ x) [o.int .u8 c.toNat])))=x.drop 2:=by show strOf (List.take _ (List.drop 2 (aJ x++_)))=_;rw [mR,Zm,iZ,List.drop_append_of_le_length h,show Int.toNat (((x.length+1:Nat):Int)-1)-2=(x.drop 2).length by rw [List.length_drop];omega,List.take_append_of_le_length (Nat.le_refl _),List.take_length]
theorem OD(x:Bytes)(h:x≠[]):(aJ x)[0+Int.toNat ((x.length:Int)-1)]? =some (o.int .u8 (x.getLastD 0).toNat):=by
 have e:0+Int.toNat ((x.length:Int)-1)=x.length-1:=by omega
 rw [e]
 have:x[x.length-1]? =some (x.getLastD 0):=by rw [←List.getLast?_eq_getElem?,List.getLastD_eq_getLast?,List.getLast?_eq_some_getLast h];rfl
 unfold aJ;rw [List.getElem?_map,this];rfl
theorem Zo(x:Bytes)(h:x≠[]):a8 (aJ x) (0+Int.toNat ((x.length:Int)-1))=(x.getLastD 0).toNat:=by unfold a8;rw [OD x h]
theorem Zp{D bj K P O:J}{h:j}{ag ad:o}{an aE:Option (TypeId×Nat)}{R m aG:Nat}{kept az:Bytes}{es:List bw}{aZ:cB}{bx bt bk bz:Int}{c:UInt8}(bJ:Nat.ble 5 h.next=true)(b':h.get 0=some (b1 0 (cD .sequence) 1 (.slice (some ⟨2,R,0,0,1⟩) kept.length kept.length) ag false ad an))(bu:h.get 1=some (ch [] bx bt bk bz aE))
 (bC:h.get 2=some (ct (aJ kept) 1 R m aG cF)) (b2:h.get 3=some P) (cp:h.get 4=some O) (gw:kept≠[]) (ac:jc (j.of [D,bj,K,P,O]) 0 aZ.I ag az) (ai:jd (j.of [D,bj,K,P,O]) 0 aZ.U ad es) (cQ:aZ.u=1∧(aZ.k=0∨aZ.k=2)∧(aZ.I=0∨aZ.I=3)∧(aZ.U=0∨aZ.U=4)) (cw:aZ.k=2)
 (cs:es.length<2^30-8) {cX:j→Prop} (d':∀aa aO,cm aa 0 aO (Keys.bad ⟨.sequence,kept,[],az⟩ c).1 (es++(Keys.bad ⟨.sequence,kept,[],az⟩ c).2)→Fr (j.of [D,bj,K,P,O]) aa 0 aZ aO→cX aa) :
 dy (2^30-8) ey h ⟨0,0,0,0,6⟩ c.toNat∧∀aa,dz Keys.bad h ⟨0,0,0,0,6⟩ c.toNat aa→_root_.cond (Nat.ble 5 aa.next) (cX aa) False:=by
 have bJ:=Nat.le_of_ble_eq_true bJ;exact w' (s:=⟨.sequence,kept,[],az⟩) rfl bJ (AF (bl:= .grown []) (iu rfl bJ b' bu (.inr cw) b2 cp (nJ (by decide) rfl rfl bC) (by omega) ac ai cQ (.inr (.inr ⟨rfl,cw⟩))) gw) cs (by simp) ⟨rfl,.inr rfl⟩ d'
theorem OE{D bj K P O:J}{h:j}{ag ad:o}{an aE:Option (TypeId×Nat)}{R m aG len:Nat}{l:List o}{kept az:Bytes}{es:List bw}{aZ:cB}{bx bt bk bz:Int}(bJ:Nat.ble 5 h.next=true)(b':h.get 0=some (b1 0 (cD .sequence) 1 (.slice (some ⟨2,R,0,0,1⟩) len len) ag false ad an))(bu:h.get 1=some (ch [] bx bt bk bz aE))
 (bC:h.get 2=some (ct l 1 R m aG cF)) (b2:h.get 3=some P) (cp:h.get 4=some O) (hlen:len=kept.length) (hle:l=aJ kept) (gw:kept≠[]) (ac:jc (j.of [D,bj,K,P,O]) 0 aZ.I ag az) (ai:jd (j.of [D,bj,K,P,O]) 0 aZ.U ad es) (cQ:aZ.u=1∧(aZ.k=0∨aZ.k=2)∧(aZ.I=0∨aZ.I=3)∧(aZ.U=0∨aZ.U=4)) (cw:aZ.k=2) :
 ∃aO,cm h 0 aO ⟨.sequence,kept,[],az⟩ es∧Fr (j.of [D,bj,K,P,O]) h 0 aZ aO:=by
 have bJ:=Nat.le_of_ble_eq_true bJ;exact oO (s:=⟨.sequence,kept,[],az⟩) (bl:= .grown []) (iu rfl bJ b' bu (.inr cw) b2 cp (nJ (by decide) hlen hle bC) (by omega) ac ai cQ (.inr (.inr ⟨rfl,cw⟩))) gw
theorem Zq{kept az:Bytes}{c:UInt8}(h:64≤c.toNat∧c.toNat≤126):Keys.sequence ⟨.sequence,kept,[],az⟩ c=Keys.done ⟨.sequence,kept++[c],[],az⟩ (kept.drop 2) c:=by simp only [Keys.sequence,if_pos h]
theorem Zr{kept az:Bytes}{c:UInt8}(h:¬(64≤c.toNat∧c.toNat≤126))(ae:c.toNat<32∨63<c.toNat∨48≤c.toNat∧(kept.getLastD 0).toNat<48):Keys.sequence ⟨.sequence,kept,[],az⟩ c=Keys.bad ⟨.sequence,kept,[],az⟩ c:=by simp only [Keys.sequence,if_neg h,if_pos ae]
theorem Zs{kept az:Bytes}{c:UInt8}(h:¬(64≤c.toNat∧c.toNat≤126))(ae:¬(c.toNat<32∨63<c.toNat∨48≤c.toNat∧(kept.getLastD 0).toNat<48))(bg:kept.length+1=64):Keys.sequence ⟨.sequence,kept,[],az⟩ c=(⟨.ground,[],[],az⟩,[gM (kept++[c])]):=by simp only [Keys.sequence,if_neg h,if_neg ae,if_pos bg,tell]
theorem Zt{kept az:Bytes}{c:UInt8}(h:¬(64≤c.toNat∧c.toNat≤126))(ae:¬(c.toNat<32∨63<c.toNat∨48≤c.toNat∧(kept.getLastD 0).toNat<48))(bg:kept.length+1≠64):Keys.sequence ⟨.sequence,kept,[],az⟩ c=(⟨.sequence,kept++[c],[],az⟩,[]):=by simp only [Keys.sequence,if_neg h,if_neg ae,if_neg bg]
set_option hygiene false in
def xR(s:bI)(c:UInt8):Prop:=s.b8=.sequence∧s.hold=[]∧2≤s.kept.length∧s.kept.length<64
theorem Zu{H:j}{d:Nat}{aF:cB}{s:bI}{es:List bw}{c:UInt8}(g:cm H d aF s es)(cs:es.length<2^30-8)(d':xR s c):∃aR,aI Tryz.prog aw 87 [.ptr (some ⟨d,0,0,0,6⟩),.int .u8 c.toNat] H (.tuple []) aR ∧
 ∃aO,cm aR d aO (Keys.sequence s c).1 (es++(Keys.sequence s c).2)∧Fr H aR d aF aO:=by
 refine sO ?_ g;intro bl aV ag ad an aE bx bt bk bz K P O aZ aq gs cQ;obtain⟨ao,ac,ai⟩:=mQ gs;obtain⟨b8,kept,hold,az⟩:=s;obtain⟨ae,p,pr,Zv⟩:=d';simp only at p ae pr Zv aq gs ao ac ai⊢;subst p ae
 have my:bl=.grown []:=by
  cases bl with
  |grown C=>cases C with
   |nil=>rfl
   |cons a b=>exact aq.elim
  |_=>exact aq.elim
 subst my;have gw:kept≠[]:=aq;obtain⟨kz,R,m,aG,rfl,df⟩:=ao;have cw:aZ.k=2:=by omega
 rw [cw,j.eX]at df;simp only [List.getElem?_cons_zero,List.getElem?_cons_succ,Option.some.injEq,List.nil_append]at df;subst df;rw [cw]at ac ai⊢;simp only [List.length_nil]at ac ai⊢;simp only [show decide (pC.sequence=pC.cC)=false from rfl]at ac ai⊢;have tE:=c.toNat_lt;have hE:=nN kept;have jJ:=AM kept c;have afe:=OD kept gw;generalize dG:j.of [b1 0 (cD .sequence) 1 (.slice (some ⟨2,R,0,0,1⟩) kept.length kept.length) ag false ad an,ch [] bx bt bk bz aE,ct (aJ kept) 1 R m aG cF,P,O]=L at ac ai⊢
 suffices bQ:∃v aa,aI Tryz.prog aw 87 [.ptr (some ⟨0,0,0,0,6⟩),.int .u8 c.toNat] L v aa ∧
  (v=.tuple []∧∃aO,cm aa 0 aO (Keys.sequence ⟨.sequence,kept,[],az⟩ c).1 (es++(Keys.sequence ⟨.sequence,kept,[],az⟩ c).2)∧Fr L aa 0 aZ aO)by
  obtain⟨v,aa,aD,rfl,q⟩:=bQ;exact⟨aa,aD,q⟩
 have oT:∀{h:j},¬(64≤c.toNat∧c.toNat≤126)→ ¬(c.toNat<32∨63<c.toNat∨48≤c.toNat∧(kept.getLastD 0).toNat<48)→kept.length+1≠64→Nat.ble 5 h.next=true→h.get 0=some (b1 0 (cD .sequence) 1 (.slice (some ⟨2,R+1,0,0,1⟩) (kept.length+1) (kept.length+1)) ag false ad an)→h.get 1=some (ch [] bx bt bk bz aE)→h.get 2=some (ct (aJ kept++[.int .u8 c.toNat]) 1 (R+1) m (if m=R then(aJ kept).length else min aG (aJ kept).length) cF)→h.get 3=some P→h.get 4=some O →
  True∧∃aO,cm h 0 aO (Keys.sequence ⟨.sequence,kept,[],az⟩ c).1 (es++(Keys.sequence ⟨.sequence,kept,[],az⟩ c).2)∧Fr L h 0 aZ aO:=by
  intro h ap a2 a3 bJ b' bu bC b2 cp;rw [Zt ap a2 a3,List.append_nil];subst dG;exact⟨trivial,OE (kept:=kept++[c]) bJ b' bu bC b2 cp (by simp) (mR _ _) (by simp) ac ai cQ cw⟩
 have b5:∀{h:j},(64≤c.toNat∧c.toNat≤126)→Nat.ble 5 h.next=true→h.get 0=some (b1 0 (cD .sequence) 1 (.slice (some ⟨2,R+1,0,0,1⟩) (kept.length+1) (kept.length+1)) ag false ad an)→h.get 1=some (ch [] bx bt bk bz aE)→h.get 2=some (ct (aJ kept++[.int .u8 c.toNat]) 1 (R+1) m (if m=R then(aJ kept).length else min aG (aJ kept).length) cF)→h.get 3=some P→h.get 4=some O →
  Hi (2^30) h ⟨0,0,0,0,6⟩ (kept.drop 2) c.toNat∧∀aa,Hj h ⟨0,0,0,0,6⟩ (kept.drop 2) c.toNat aa→_root_.cond (Nat.ble 5 aa.next) (True∧∃aO,cm aa 0 aO (Keys.sequence ⟨.sequence,kept,[],az⟩ c).1 (es++(Keys.sequence ⟨.sequence,kept,[],az⟩ c).2)∧Fr L aa 0 aZ aO) False:=by
  intro h ap bJ b' bu bC b2 cp;rw [Zq ap];subst dG;obtain⟨mP,g1,lD⟩:=OE (kept:=kept++[c]) bJ b' bu bC b2 cp (by simp) (mR _ _) (by simp) ac ai cQ cw;have bJ:=Nat.le_of_ble_eq_true bJ;refine⟨⟨rfl,⟨mP,_,es,g1,by omega,rfl,rfl⟩,by omega,by rw [List.length_drop];omega⟩,fun aa t=> ?_⟩;have aM:=t.next
  obtain⟨aO,dA,fZ⟩:=t.all mP _ es g1 (by simp);rw [uD]at dA;exact rj (by omega) ⟨trivial,aO,dA,lD.trans fZ⟩
 have c1:∀{h:j},¬(64≤c.toNat∧c.toNat≤126)→(c.toNat<32∨63<c.toNat∨48≤c.toNat∧(kept.getLastD 0).toNat<48)→Nat.ble 5 h.next=true→h.get 0=some (b1 0 (cD .sequence) 1 (.slice (some ⟨2,R,0,0,1⟩) kept.length kept.length) ag false ad an)→h.get 1=some (ch [] bx bt bk bz aE)→h.get 2=some (ct (aJ kept) 1 R m aG cF)→h.get 3=some P→h.get 4=some O →
  dy (2^30-8) ey h ⟨0,0,0,0,6⟩ c.toNat∧∀aa,dz Keys.bad h ⟨0,0,0,0,6⟩ c.toNat aa→_root_.cond (Nat.ble 5 aa.next) (True∧∃aO,cm aa 0 aO (Keys.sequence ⟨.sequence,kept,[],az⟩ c).1 (es++(Keys.sequence ⟨.sequence,kept,[],az⟩ c).2)∧Fr L aa 0 aZ aO) False:=by
  intro h ap a2 bJ b' bu bC b2 cp;rw [Zr ap a2];subst dG;exact Zp bJ b' bu bC b2 cp gw ac ai cQ cw cs fun aa aO g cL=>⟨trivial,aO,g,cL⟩
 have ll:∀{h:j}{cJ:o},¬(64≤c.toNat∧c.toNat≤126)→ ¬(c.toNat<32∨63<c.toNat∨48≤c.toNat∧(kept.getLastD 0).toNat<48)→kept.length+1=64→Nat.ble 5 h.next=true→h.get 0=some (b1 0 (cD .sequence) 1 (.slice (some ⟨2,R+1,0,0,1⟩) (kept.length+1) (kept.length+1)) ag false ad an)→h.get 1=some (ch [] bx bt bk bz aE)→h.get 2=some (ct (aJ kept++[.int .u8 c.toNat]) 1 (R+1) m (if m=R then(aJ kept).length else min aG (aJ kept).length) cF)→h.get 3=some P→h.get 4=some O→cJ=di (gM (kept++[c])) →
  cx h ⟨0,0,0,0,6⟩ cJ∧∀aa,cy h ⟨0,0,0,0,6⟩ cJ aa→_root_.cond (Nat.ble 5 aa.next) (True∧∃aO,cm aa 0 aO (Keys.sequence ⟨.sequence,kept,[],az⟩ c).1 (es++(Keys.sequence ⟨.sequence,kept,[],az⟩ c).2)∧Fr L aa 0 aZ aO) False:=by
  intro h cJ ap a2 a3 bJ b' bu bC b2 cp he;rw [Zs ap a2 a3];subst dG;exact sQ (kept:=kept++[c]) bJ b' bu bC b2 cp (by simp) (mR _ _) ac ai cQ cw he (by omega) (by simp) fun aa aO g cL=>⟨trivial,aO,g,cL⟩
 rw [←dG];rw [←dG]at oT b5 c1 ll;refine Zl (cD .sequence) ag ad an (ch [] bx bt bk bz aE) P O (aJ kept) R m aG kept.length c.toNat _ ?_
 delta xQ dp hy xj xi eG ee p7 ed hx uK uJ p6
 simp only [AO,Zn kept c pr,Zo kept gw]
 repeat' (first
  |exact True.intro
  |assumption
  |exact oT (by omega) (by omega) (by omega) (by kernel_rfl) (by kernel_rfl) (by kernel_rfl) (by kernel_rfl) (by kernel_rfl) (by kernel_rfl)
  |exact b5 (by omega) (by kernel_rfl) (by kernel_rfl) (by kernel_rfl) (by kernel_rfl) (by kernel_rfl) (by kernel_rfl)
  |exact c1 (by omega) (by omega) (by kernel_rfl) (by kernel_rfl) (by kernel_rfl) (by kernel_rfl) (by kernel_rfl) (by kernel_rfl)
  |exact ll (by omega) (by omega) (by omega) (by kernel_rfl) (by kernel_rfl) (by kernel_rfl) (by kernel_rfl) (by kernel_rfl) (by kernel_rfl) rfl
  |(exfalso;omega)
  |intro _
  |refine And.intro ?_ ?_
  |rfl
  |omega
  |exact oS _ _ _
  |exact AL _ _ _ _)
theorem Zw:∀args h a,jV (2^30-8) xR Keys.sequence args h=some a→a.dr Tryz.prog aw 87 args h:=ri fun H d aF s es c g cs aB d'=>Zu g cs d'
def OF:List o→j→Option ev:=kw fun a=>match a with | [.str s,.str I]=>some (.bool (I.isPrefixOf s),[])|_=>none
theorem Zx:∀args h a,OF args h=some a→a.dr Tryz.prog aw 146 args h:=by
 refine ls ?_;intro args v eL e ac H;split at e<;>first|(cases e;done)|skip
 simp only [Option.some.injEq,Prod.mk.injEq]at e;obtain⟨rfl,rfl⟩:=e;exact Xw _ _ H
noncomputable def Zy:e9:=AD.add 146 OF
theorem ru:eP Tryz.prog aw Zy:=wT.add Zx
abbrev je(aV:Nat)(cS:Nat)(cY:Nat)(dM:List o):J:=⟨dM,1,false,false,aV,cS,cY,some (5,0)⟩
abbrev Br(f:Nat)(off:Nat)(aV:Nat)(n:Nat)(ad:o)(ax:Option (TypeId×Nat)):J:=⟨[.agg [(eG f),.slice (some ⟨2,aV,off,0,1⟩) n n,.slice none 0 0,.bool true,.ptr (some ⟨1,0,0,0,5⟩),ad]],6,true,false,0,0,0,ax⟩
theorem OG(f off aV cS cY n:Nat)(dM:List o)(ad:o)(bj P O:J)(ax:Option (TypeId×Nat))(ab:dj→bT→j→Prop)(aY:(0<(n:Int)→aV=aV∧off+n≤List.length dM∧(∃l,List.take n (List.drop (bH.idx ⟨2,aV,off,0,1⟩) (J.bi (je aV cS cY dM)))=aJ l)∧(List.isPrefixOf (strOf (List.take n (List.drop off dM))) (Array.toList #[27,91,50,48,49,126])=true→ab (.exit 0) [(0,.ptr (some ⟨0,0,0,0,6⟩))] (j.au 20 [(0,(Br f off aV n ad ax)),(1,bj),(2,(je aV cS cY dM)),(3,P),(4,O)]))∧(List.isPrefixOf (strOf (List.take n (List.drop off dM))) (Array.toList #[27,91,50,48,49,126])=false→((0:Int)≤0∧0<(n:Int))∧aV=aV∧dM[off+0]? =some (.int .u8 (a8 dM (off+0)))∧((0:Int)≤1∧1≤(n:Int)∧n≤n)∧ab .normal [(0,.ptr (some ⟨0,0,0,0,6⟩))] (j.au 51 [(0,⟨[.agg [(eG f),.slice (some ⟨2,aV,off+1,0,1⟩) (n-1) (n-1),.slice (some ⟨38,0,0,0,1⟩) 1 1,.bool true,.ptr (some ⟨1,0,0,0,5⟩),ad]],6,true,false,0,0,0,ax⟩),(1,bj),(2,(je aV cS cY dM)),(3,P),(4,O),(37,J.made [.int .u8 (a8 dM (off+0))] 1 true),(38,J.made [.int .u8 (a8 dM (off+0))] 1 false (some (5,0)))])))∧(¬0<(n:Int)→ab (.exit 0) [(0,.ptr (some ⟨0,0,0,0,6⟩))] (j.au 20 [(0,(Br f off aV n ad ax)),(1,bj),(2,(je aV cS cY dM)),(3,P),(4,O)]))) :
 ∃e bb p,cP Tryz.prog aw 5 80 (c4 Tryz.prog 129 0) [(0,.ptr (some ⟨0,0,0,0,6⟩))] (j.rows 5 [(0,b1 0 f 1 (.slice (some ⟨2,aV,off,0,1⟩) n n) (.slice none 0 0) true ad ax),(1,bj),(2,ct dM 1 aV cS cY cF),(3,P),(4,O)]) e bb p∧ab e bb p :=
 hI bU mixed ru (aq:= .aN 1005 (ah 1011 (.aN 1012 .nil (ah 3009 (ah 3010 (ah 4005 .nil))))) .nil) (cN:=[0]) (by kernel_rfl) aY
abbrev ma(ag:Nat)(pm:Nat)(c9:Nat)(pl:List o):J:=⟨pl,1,false,false,ag,pm,c9,some (5,0)⟩
abbrev Bs(f:Nat)(off:Nat)(aV:Nat)(n:Nat)(ag:Nat)(c5:Nat)(ad:o)(ax:Option (TypeId×Nat)):J:=⟨[.agg [(eG f),.slice (some ⟨2,aV,off,0,1⟩) n n,.slice (some ⟨3,ag,0,0,1⟩) c5 c5,.bool true,.ptr (some ⟨1,0,0,0,5⟩),ad]],6,true,false,0,0,0,ax⟩
theorem OH(f off aV cS cY n ag pm c9 c5:Nat)(dM pl:List o)(ad:o)(bj O:J)(ax:Option (TypeId×Nat))(ab:dj→bT→j→Prop)(aY:(0<(n:Int)→aV=aV∧off+n≤List.length dM∧(∃l,List.take n (List.drop (bH.idx ⟨2,aV,off,0,1⟩) (J.bi (je aV cS cY dM)))=aJ l)∧(List.isPrefixOf (strOf (List.take n (List.drop off dM))) (Array.toList #[27,91,50,48,49,126])=true→ab (.exit 0) [(0,.ptr (some ⟨0,0,0,0,6⟩))] (j.au 20 [(0,(Bs f off aV n ag c5 ad ax)),(1,bj),(2,(je aV cS cY dM)),(3,(ma ag pm c9 pl)),(4,O)]))∧(List.isPrefixOf (strOf (List.take n (List.drop off dM))) (Array.toList #[27,91,50,48,49,126])=false→((c5:Int)<65536→((0:Int)≤0∧0<(n:Int))∧aV=aV∧dM[off+0]? =some (.int .u8 (a8 dM (off+0)))∧(ag=ag∧0+c5=List.length pl∧c5<c5+1∧(c5+1+(c5+1)/4+512)*1≤281474976710656∧c5+1<4611686018427387904)∧((0:Int)≤1∧1≤(n:Int)∧n≤n)∧ab .normal [(0,.ptr (some ⟨0,0,0,0,6⟩))] (j.au 51 [(0,{bi:=[.agg [(eG f),.slice (some ⟨2,aV,off+1,0,1⟩) (n-1) (n-1),.slice (some {id:=3,R:=ag+1,idx:=0,bP:=0,es:=1}) (c5+1) (c5+1),.bool true,.ptr (some ⟨1,0,0,0,5⟩),ad]],es:=6,exact:=true,ro:=false,R:=0,fQ:=0,gF:=0,an:=ax}),(1,bj),(2,(je aV cS cY dM)),(3,⟨pl++[.int .u8 (a8 dM (off+0))],1,false,false,ag+1,pm,if pm=ag then List.length pl else min c9 (List.length pl),some (5,0)⟩),(4,O),(37,J.made [.int .u8 (a8 dM (off+0))] 1 true)]))∧(¬(c5:Int)<65536→((0:Int)≤1∧1≤(n:Int)∧n≤n)∧ab .normal [(0,.ptr (some ⟨0,0,0,0,6⟩))] (j.au 35 [(0,⟨[.agg [(eG f),.slice (some ⟨2,aV,off+1,0,1⟩) (n-1) (n-1),.slice (some ⟨3,ag,0,0,1⟩) c5 c5,.bool true,.ptr (some ⟨1,0,0,0,5⟩),ad]],6,true,false,0,0,0,ax⟩),(1,bj),(2,(je aV cS cY dM)),(3,(ma ag pm c9 pl)),(4,O)]))))∧(¬0<(n:Int)→ab (.exit 0) [(0,.ptr (some ⟨0,0,0,0,6⟩))] (j.au 20 [(0,(Bs f off aV n ag c5 ad ax)),(1,bj),(2,(je aV cS cY dM)),(3,(ma ag pm c9 pl)),(4,O)]))) :
 ∃e bb p,cP Tryz.prog aw 5 80 (c4 Tryz.prog 129 0) [(0,.ptr (some ⟨0,0,0,0,6⟩))] (j.rows 5 [(0,b1 0 f 1 (.slice (some ⟨2,aV,off,0,1⟩) n n) (.slice (some ⟨3,ag,0,0,1⟩) c5 c5) true ad ax),(1,bj),(2,ct dM 1 aV cS cY cF),(3,ct pl 1 ag pm c9 cF),(4,O)]) e bb p∧ab e bb p :=
 hI bU mixed ru (aq:= .aN 1005 (ah 1011 (.aN 1012 .nil (.aN 2005 (ah 3009 (ah 3010 (ah 3012 (ah 4005 .nil)))) (ah 4005 .nil)))) .nil) (cN:=[0]) (by kernel_rfl) aY
abbrev Bt(f:Nat)(off:Nat)(aV:Nat)(n:Nat)(ag:Nat)(c5:Nat)(ad:o)(ax:Option (TypeId×Nat)):J:=⟨[.agg [(eG f),.slice (some ⟨2,aV,off,0,1⟩) n n,.slice (some ⟨30,ag,0,0,1⟩) c5 c5,.bool true,.ptr (some ⟨1,0,0,0,5⟩),ad]],6,true,false,0,0,0,ax⟩
theorem OI(f off aV cS cY n ag pm c9 c5:Nat)(dM pl:List o)(ad:o)(bj P O:J)(ax:Option (TypeId×Nat))(ab:dj→bT→j→Prop)(aY:(0<(n:Int)→aV=aV∧off+n≤List.length dM∧(∃l,List.take n (List.drop (bH.idx ⟨2,aV,off,0,1⟩) (J.bi (je aV cS cY dM)))=aJ l)∧(List.isPrefixOf (strOf (List.take n (List.drop off dM))) (Array.toList #[27,91,50,48,49,126])=true→ab (.exit 0) [(0,.ptr (some ⟨0,0,0,0,6⟩))] (j.au 55 [(0,(Bt f off aV n ag c5 ad ax)),(1,bj),(2,(je aV cS cY dM)),(3,P),(4,O),(30,(ma ag pm c9 pl))]))∧(List.isPrefixOf (strOf (List.take n (List.drop off dM))) (Array.toList #[27,91,50,48,49,126])=false→((c5:Int)<65536→((0:Int)≤0∧0<(n:Int))∧aV=aV∧dM[off+0]? =some (.int .u8 (a8 dM (off+0)))∧(ag=ag∧0+c5=List.length pl∧c5<c5+1∧(c5+1+(c5+1)/4+512)*1≤281474976710656∧c5+1<4611686018427387904)∧((0:Int)≤1∧1≤(n:Int)∧n≤n)∧ab .normal [(0,.ptr (some ⟨0,0,0,0,6⟩))] (j.au 86 [(0,{bi:=[.agg [(eG f),.slice (some ⟨2,aV,off+1,0,1⟩) (n-1) (n-1),.slice (some {id:=30,R:=ag+1,idx:=0,bP:=0,es:=1}) (c5+1) (c5+1),.bool true,.ptr (some ⟨1,0,0,0,5⟩),ad]],es:=6,exact:=true,ro:=false,R:=0,fQ:=0,gF:=0,an:=ax}),(1,bj),(2,(je aV cS cY dM)),(3,P),(4,O),(30,⟨pl++[.int .u8 (a8 dM (off+0))],1,false,false,ag+1,pm,if pm=ag then List.length pl else min c9 (List.length pl),some (5,0)⟩),(72,J.made [.int .u8 (a8 dM (off+0))] 1 true)]))∧(¬(c5:Int)<65536→((0:Int)≤1∧1≤(n:Int)∧n≤n)∧ab .normal [(0,.ptr (some ⟨0,0,0,0,6⟩))] (j.au 70 [(0,⟨[.agg [(eG f),.slice (some ⟨2,aV,off+1,0,1⟩) (n-1) (n-1),.slice (some ⟨30,ag,0,0,1⟩) c5 c5,.bool true,.ptr (some ⟨1,0,0,0,5⟩),ad]],6,true,false,0,0,0,ax⟩),(1,bj),(2,(je aV cS cY dM)),(3,P),(4,O),(30,(ma ag pm c9 pl))]))))∧(¬0<(n:Int)→ab (.exit 0) [(0,.ptr (some ⟨0,0,0,0,6⟩))] (j.au 55 [(0,(Bt f off aV n ag c5 ad ax)),(1,bj),(2,(je aV cS cY dM)),(3,P),(4,O),(30,(ma ag pm c9 pl))]))) :
 ∃e bb p,cP Tryz.prog aw 5 80 (c4 Tryz.prog 129 0) [(0,.ptr (some ⟨0,0,0,0,6⟩))] (j.rows 40 [(0,b1 0 f 1 (.slice (some ⟨2,aV,off,0,1⟩) n n) (.slice (some ⟨30,ag,0,0,1⟩) c5 c5) true ad ax),(1,bj),(2,ct dM 1 aV cS cY cF),(3,P),(4,O),(30,ct pl 1 ag pm c9 cF)]) e bb p∧ab e bb p :=
 hI bU mixed ru (aq:= .aN 1005 (ah 1011 (.aN 1012 .nil (.aN 2005 (ah 3009 (ah 3010 (ah 3012 (ah 4005 .nil)))) (ah 4005 .nil)))) .nil) (cN:=[0]) (by kernel_rfl) aY
abbrev mX(R:Nat)(aV:Nat)(cS:Nat)(cY:Nat)(dM:List o):J:=⟨dM,1,false,false,aV,cS,cY,some (5,0)⟩
abbrev Hn:o:=o.agg [.int .i8 4,.int .i32 0,.int .u8 0,.int .i64 0,.int .i64 0,.str []]
abbrev p8(f:Nat)(R:Nat)(aV:Nat)(jy:Nat)(aP:Nat)(ad:o)(ax:Option (TypeId×Nat)):J:=⟨[.agg [(eG f),.slice (some ⟨2,aV,jy,0,1⟩) aP aP,.slice none 0 0,.bool false,.ptr (some ⟨1,0,0,0,5⟩),ad]],6,true,false,0,0,0,ax⟩
theorem Zz(f off R m aG n aV cS cY jy aP:Nat)(l dM:List o)(c:Int)(lA ad:o)(bj rv P O:J)(ax:Option (TypeId×Nat))(ab:o→j→Prop)(aY:(R=R∧off+n=List.length l∧n<n+1∧(n+1+(n+1)/4+512)*1≤281474976710656∧n+1<4611686018427387904)∧cP Tryz.prog aw 5 80 (Code.loop (c4 Tryz.prog 129 0)) [(0,.ptr (some ⟨0,0,0,0,6⟩))] (j.au 16 [(0,{bi:=[.agg [(eG f),.slice (some {id:=2,R:=R+1,idx:=off,bP:=0,es:=1}) (n+1) (n+1),lA,.bool true,.ptr (some ⟨1,0,0,0,5⟩),ad]],es:=6,exact:=true,ro:=false,R:=0,fQ:=0,gF:=0,an:=ax}),(1,bj),(2,⟨l++[.int .u8 c],1,false,false,R+1,m,if m=R then List.length l else min aG (List.length l),some (5,0)⟩),(3,rv),(4,O),(11,J.made [.int .u8 c] 1 true)]) (.exit 0) [(0,.ptr (some ⟨0,0,0,0,6⟩))] (j.au 40 [(0,b1 0 f 1 (.slice (some ⟨2,aV,jy,0,1⟩) aP aP) (.slice none 0 0) true ad ax),(1,bj),(2,ct dM 1 aV cS cY cF),(3,P),(4,O)])∧((aP:Int)=6→cx (j.au 64 [(0,(p8 f R aV jy aP ad ax)),(1,bj),(2,(mX R aV cS cY dM)),(3,P),(4,O)]) ⟨0,0,0,0,6⟩ (Hn)∧∀(nQ:j),cy (j.au 64 [(0,(p8 f R aV jy aP ad ax)),(1,bj),(2,(mX R aV cS cY dM)),(3,P),(4,O)]) ⟨0,0,0,0,6⟩ (Hn) nQ→bN 5 (nQ.next) (ab (.tuple []) nQ))∧(¬(aP:Int)=6→ab (.tuple []) (j.au 46 [(0,⟨[.agg [(eG f),.slice (some ⟨2,aV,jy,0,1⟩) aP aP,.slice none 0 0,.bool true,.ptr (some ⟨1,0,0,0,5⟩),ad]],6,true,false,0,0,0,ax⟩),(1,bj),(2,(mX R aV cS cY dM)),(3,P),(4,O)]))) :
 ∃v p,aI Tryz.prog aw 129 [.ptr (some ⟨0,0,0,0,6⟩),.int .u8 c] (j.of [b1 0 f 1 (.slice (some ⟨2,R,off,0,1⟩) n n) lA true ad ax,bj,ct l 1 R m aG cF,rv,O]) v p∧ab v p :=
 cf bU mixed ru (aq:=ah 7 (.aA (.cN [0]) (.aA (.loop [(0,.ptr (some ⟨0,0,0,0,6⟩))] (j.au 40 [(0,b1 0 f 1 (.slice (some ⟨2,aV,jy,0,1⟩) aP aP) (.slice none 0 0) true ad ax),(1,bj),(2,ct dM 1 aV cS cY cF),(3,P),(4,O)]) (.exit 0)) (.aN 5005 .nil .nil)))) (by kernel_rfl) aY
abbrev oU(R:Nat)(ag:Nat)(pm:Nat)(c9:Nat)(pl:List o):J:=⟨pl,1,false,false,ag,pm,c9,some (5,0)⟩
abbrev uR(c5:Nat)(pl:List o):o:=o.agg [.int .i8 4,.int .i32 0,.int .u8 0,.int .i64 0,.int .i64 0,.str (strOf (List.take c5 pl))]
theorem ZA(f off R m aG n aV cS cY jy aP ag pm c9 c5:Nat)(l dM pl:List o)(c:Int)(lA ad:o)(bj rv O:J)(ax:Option (TypeId×Nat))(ab:o→j→Prop)(aY:(R=R∧off+n=List.length l∧n<n+1∧(n+1+(n+1)/4+512)*1≤281474976710656∧n+1<4611686018427387904)∧cP Tryz.prog aw 5 80 (Code.loop (c4 Tryz.prog 129 0)) [(0,.ptr (some ⟨0,0,0,0,6⟩))] (j.au 16 [(0,{bi:=[.agg [(eG f),.slice (some {id:=2,R:=R+1,idx:=off,bP:=0,es:=1}) (n+1) (n+1),lA,.bool true,.ptr (some ⟨1,0,0,0,5⟩),ad]],es:=6,exact:=true,ro:=false,R:=0,fQ:=0,gF:=0,an:=ax}),(1,bj),(2,⟨l++[.int .u8 c],1,false,false,R+1,m,if m=R then List.length l else min aG (List.length l),some (5,0)⟩),(3,rv),(4,O),(11,J.made [.int .u8 c] 1 true)]) (.exit 0) [(0,.ptr (some ⟨0,0,0,0,6⟩))] (j.au 40 [(0,b1 0 f 1 (.slice (some ⟨2,aV,jy,0,1⟩) aP aP) (.slice (some ⟨3,ag,0,0,1⟩) c5 c5) true ad ax),(1,bj),(2,ct dM 1 aV cS cY cF),(3,ct pl 1 ag pm c9 cF),(4,O)])∧((aP:Int)=6→ag=ag∧0+c5≤List.length pl∧(∃l,List.take c5 (List.drop (bH.idx ⟨3,ag,0,0,1⟩) (J.bi (oU R ag pm c9 pl)))=aJ l)∧cx (j.au 64 [(0,(p8 f R aV jy aP ad ax)),(1,bj),(2,(mX R aV cS cY dM)),(3,(oU R ag pm c9 pl)),(4,O)]) ⟨0,0,0,0,6⟩ ((uR c5 pl))∧∀(nQ:j),cy (j.au 64 [(0,(p8 f R aV jy aP ad ax)),(1,bj),(2,(mX R aV cS cY dM)),(3,(oU R ag pm c9 pl)),(4,O)]) ⟨0,0,0,0,6⟩ ((uR c5 pl)) nQ→bN 5 (nQ.next) (ab (.tuple []) nQ))∧(¬(aP:Int)=6→ab (.tuple []) (j.au 46 [(0,⟨[.agg [(eG f),.slice (some ⟨2,aV,jy,0,1⟩) aP aP,.slice (some ⟨3,ag,0,0,1⟩) c5 c5,.bool true,.ptr (some ⟨1,0,0,0,5⟩),ad]],6,true,false,0,0,0,ax⟩),(1,bj),(2,(mX R aV cS cY dM)),(3,(oU R ag pm c9 pl)),(4,O)]))) :
 ∃v p,aI Tryz.prog aw 129 [.ptr (some ⟨0,0,0,0,6⟩),.int .u8 c] (j.of [b1 0 f 1 (.slice (some ⟨2,R,off,0,1⟩) n n) lA true ad ax,bj,ct l 1 R m aG cF,rv,O]) v p∧ab v p :=
 cf bU mixed ru (aq:=ah 7 (.aA (.cN [0]) (.aA (.loop [(0,.ptr (some ⟨0,0,0,0,6⟩))] (j.au 40 [(0,b1 0 f 1 (.slice (some ⟨2,aV,jy,0,1⟩) aP aP) (.slice (some ⟨3,ag,0,0,1⟩) c5 c5) true ad ax),(1,bj),(2,ct dM 1 aV cS cY cF),(3,ct pl 1 ag pm c9 cF),(4,O)]) (.exit 0)) (.aN 5005 (ah 6004 .nil) .nil)))) (by kernel_rfl) aY
theorem ZB(f off R m aG n aV cS cY jy aP ag pm c9 c5:Nat)(l dM pl:List o)(c:Int)(lA ad:o)(bj rv P O:J)(ax:Option (TypeId×Nat))(ab:o→j→Prop)(aY:(R=R∧off+n=List.length l∧n<n+1∧(n+1+(n+1)/4+512)*1≤281474976710656∧n+1<4611686018427387904)∧cP Tryz.prog aw 5 80 (Code.loop (c4 Tryz.prog 129 0)) [(0,.ptr (some ⟨0,0,0,0,6⟩))] (j.au 16 [(0,{bi:=[.agg [(eG f),.slice (some {id:=2,R:=R+1,idx:=off,bP:=0,es:=1}) (n+1) (n+1),lA,.bool true,.ptr (some ⟨1,0,0,0,5⟩),ad]],es:=6,exact:=true,ro:=false,R:=0,fQ:=0,gF:=0,an:=ax}),(1,bj),(2,⟨l++[.int .u8 c],1,false,false,R+1,m,if m=R then List.length l else min aG (List.length l),some (5,0)⟩),(3,rv),(4,O),(11,J.made [.int .u8 c] 1 true)]) (.exit 0) [(0,.ptr (some ⟨0,0,0,0,6⟩))] (j.au 40 [(0,b1 0 f 1 (.slice (some ⟨2,aV,jy,0,1⟩) aP aP) (.slice (some ⟨30,ag,0,0,1⟩) c5 c5) true ad ax),(1,bj),(2,ct dM 1 aV cS cY cF),(3,P),(4,O),(30,ct pl 1 ag pm c9 cF)])∧((aP:Int)=6→ag=ag∧0+c5≤List.length pl∧(∃l,List.take c5 (List.drop (bH.idx ⟨30,ag,0,0,1⟩) (J.bi (oU R ag pm c9 pl)))=aJ l)∧cx (j.au 64 [(0,(p8 f R aV jy aP ad ax)),(1,bj),(2,(mX R aV cS cY dM)),(3,P),(4,O),(30,(oU R ag pm c9 pl))]) ⟨0,0,0,0,6⟩ ((uR c5 pl))∧∀(nQ:j),cy (j.au 64 [(0,(p8 f R aV jy aP ad ax)),(1,bj),(2,(mX R aV cS cY dM)),(3,P),(4,O),(30,(oU R ag pm c9 pl))]) ⟨0,0,0,0,6⟩ ((uR c5 pl)) nQ→bN 5 (nQ.next) (ab (.tuple []) nQ))∧(¬(aP:Int)=6→ab (.tuple []) (j.au 46 [(0,⟨[.agg [(eG f),.slice (some ⟨2,aV,jy,0,1⟩) aP aP,.slice (some ⟨30,ag,0,0,1⟩) c5 c5,.bool true,.ptr (some ⟨1,0,0,0,5⟩),ad]],6,true,false,0,0,0,ax⟩),(1,bj),(2,(mX R aV cS cY dM)),(3,P),(4,O),(30,(oU R ag pm c9 pl))]))) :
 ∃v p,aI Tryz.prog aw 129 [.ptr (some ⟨0,0,0,0,6⟩),.int .u8 c] (j.of [b1 0 f 1 (.slice (some ⟨2,R,off,0,1⟩) n n) lA true ad ax,bj,ct l 1 R m aG cF,rv,O]) v p∧ab v p :=
 cf bU mixed ru (aq:=ah 7 (.aA (.cN [0]) (.aA (.loop [(0,.ptr (some ⟨0,0,0,0,6⟩))] (j.au 40 [(0,b1 0 f 1 (.slice (some ⟨2,aV,jy,0,1⟩) aP aP) (.slice (some ⟨30,ag,0,0,1⟩) c5 c5) true ad ax),(1,bj),(2,ct dM 1 aV cS cY cF),(3,P),(4,O),(30,ct pl 1 ag pm c9 cF)]) (.exit 0)) (.aN 5005 (ah 6004 .nil) .nil)))) (by kernel_rfl) aY
theorem ZC(f:Nat)(c:Int)(ad:o)(bj K P O:J)(ax:Option (TypeId×Nat))(ab:o→j→Prop)(aY:(List.isPrefixOf [UInt8.ofNat (Int.toNat c)] (Array.toList #[27,91,50,48,49,126])=true→ab (.tuple []) (j.au 37 [(0,⟨[.agg [(eG f),.slice (some ⟨12,0,0,0,1⟩) 1 1,.slice none 0 0,.bool true,.ptr (some ⟨1,0,0,0,5⟩),ad]],6,true,false,0,0,0,ax⟩),(1,bj),(2,K),(3,P),(4,O),(11,J.made [.int .u8 c] 1 true),(12,J.made [.int .u8 c] 1 false (some (5,0)))]))∧(List.isPrefixOf [UInt8.ofNat (Int.toNat c)] (Array.toList #[27,91,50,48,49,126])=false→ab (.tuple []) (j.au 83 [(0,⟨[.agg [(eG f),.slice (some ⟨12,0,1,0,1⟩) 0 0,.slice (some ⟨49,0,0,0,1⟩) 1 1,.bool true,.ptr (some ⟨1,0,0,0,5⟩),ad]],6,true,false,0,0,0,ax⟩),(1,bj),(2,K),(3,P),(4,O),(11,J.made [.int .u8 c] 1 true),(12,J.made [.int .u8 c] 1 false (some (5,0))),(48,J.made [.int .u8 c] 1 true),(49,J.made [.int .u8 c] 1 false (some (5,0)))]))) :
 ∃v p,aI Tryz.prog aw 129 [.ptr (some ⟨0,0,0,0,6⟩),.int .u8 c] (j.of [b1 0 f 1 (.slice none 0 0) (.slice none 0 0) true ad ax,bj,K,P,O]) v p∧ab v p :=
 cf bU mixed ru (aq:= .aA (.rounds 300) (.aN 1012 .nil .nil)) (by kernel_rfl) aY
theorem ZD(f ag pm c9 c5:Nat)(pl:List o)(c:Int)(ad:o)(bj K O:J)(ax:Option (TypeId×Nat))(ab:o→j→Prop)(aY:(List.isPrefixOf [UInt8.ofNat (Int.toNat c)] (Array.toList #[27,91,50,48,49,126])=true→ab (.tuple []) (j.au 37 [(0,⟨[.agg [(eG f),.slice (some ⟨12,0,0,0,1⟩) 1 1,.slice (some ⟨3,ag,0,0,1⟩) c5 c5,.bool true,.ptr (some ⟨1,0,0,0,5⟩),ad]],6,true,false,0,0,0,ax⟩),(1,bj),(2,K),(3,(ma ag pm c9 pl)),(4,O),(11,J.made [.int .u8 c] 1 true),(12,J.made [.int .u8 c] 1 false (some (5,0)))]))∧(List.isPrefixOf [UInt8.ofNat (Int.toNat c)] (Array.toList #[27,91,50,48,49,126])=false→((c5:Int)<65536→(ag=ag∧0+c5=List.length pl∧c5<c5+1∧(c5+1+(c5+1)/4+512)*1≤281474976710656∧c5+1<4611686018427387904)∧ab (.tuple []) (j.au 83 [(0,{bi:=[.agg [(eG f),.slice (some ⟨12,0,1,0,1⟩) 0 0,.slice (some {id:=3,R:=ag+1,idx:=0,bP:=0,es:=1}) (c5+1) (c5+1),.bool true,.ptr (some ⟨1,0,0,0,5⟩),ad]],es:=6,exact:=true,ro:=false,R:=0,fQ:=0,gF:=0,an:=ax}),(1,bj),(2,K),(3,⟨pl++[.int .u8 c],1,false,false,ag+1,pm,if pm=ag then List.length pl else min c9 (List.length pl),some (5,0)⟩),(4,O),(11,J.made [.int .u8 c] 1 true),(12,J.made [.int .u8 c] 1 false (some (5,0))),(48,J.made [.int .u8 c] 1 true)]))∧(¬(c5:Int)<65536→ab (.tuple []) (j.au 67 [(0,⟨[.agg [(eG f),.slice (some ⟨12,0,1,0,1⟩) 0 0,.slice (some ⟨3,ag,0,0,1⟩) c5 c5,.bool true,.ptr (some ⟨1,0,0,0,5⟩),ad]],6,true,false,0,0,0,ax⟩),(1,bj),(2,K),(3,(ma ag pm c9 pl)),(4,O),(11,J.made [.int .u8 c] 1 true),(12,J.made [.int .u8 c] 1 false (some (5,0)))])))) :
 ∃v p,aI Tryz.prog aw 129 [.ptr (some ⟨0,0,0,0,6⟩),.int .u8 c] (j.of [b1 0 f 1 (.slice none 0 0) (.slice (some ⟨3,ag,0,0,1⟩) c5 c5) true ad ax,bj,K,ct pl 1 ag pm c9 cF,O]) v p∧ab v p :=
 cf bU mixed ru (aq:= .aA (.rounds 300) (.aN 1012 .nil (.aN 2005 (ah 3012 .nil) .nil))) (by kernel_rfl) aY
abbrev kA(f aV off n:Nat)(ag ad:o)(ax:Option (TypeId×Nat)):J:=b1 0 f 1 (.slice (some ⟨2,aV,off,0,1⟩) n n) ag true ad ax
abbrev gR:bT:=[(0,.ptr (some ⟨0,0,0,0,6⟩))]
theorem Ho{D:Nat→Prop}{f aV off n:Nat}{ag ad:o}{ax:Option (TypeId×Nat)}(bm:D 0)(p:D 1)(ae:D 2)(ac:cv D ag)(ai:cv D ad):∀e∈(kA f aV off n ag ad ax).bi,cv D e:=by intro e he;rw [List.mem_singleton.1 he];simp only [cv,fo];exact⟨⟨⟨bm,trivial⟩,trivial⟩,ae,ac,trivial,p,ai,trivial⟩
theorem OJ{r:Nat→Nat}{f aV off n:Nat}{ag ad:o}{ax:Option (TypeId×Nat)}(bm:r 0=0)(p:r 1=1)(ae:r 2=2)(ai:ad.bc r=ad):(kA f aV off n ag ad ax).bc r=kA f aV off n (ag.bc r) ad ax:=by simp [J.bc,J.made,o.bc,o.gz,bH.bc,bm,p,ae,ai]
def mb:Nat→Prop:=fun i=>i=0∨i=1∨i=2∨i=3∨i=4
theorem uS{X kept:Bytes}{off:Nat}(h:X.drop off=kept):List.take kept.length (List.drop off (aJ X))=aJ kept:=by
 have:List.drop off (aJ X)=aJ (X.drop off):=by simp [aJ,List.map_drop]
 rw [this,h,←iK,List.take_length]
theorem Bu{X r:Bytes}{b:UInt8}{off:Nat}(h:X.drop off=b::r):(aJ X)[off]? =some (.int .u8 (b.toNat:Int)):=by
 have p:X[off]? =some b:=by have:=congrArg (fun l=>l[0]?) h;simpa [List.getElem?_drop]using this
 simp [aJ,p]
theorem Hp{X r:Bytes}{b:UInt8}{off:Nat}(h:X.drop off=b::r):a8 (aJ X) off=(b.toNat:Int):=by unfold a8;rw [Bu h]
theorem Hq{X r:Bytes}{b:UInt8}{off:Nat}(h:X.drop off=b::r):X.drop (off+1)=r:=by rw [←List.drop_drop,h];rfl
theorem xS{X k:Bytes}{off:Nat}(h:X.drop off=k)(ai:off≤X.length):off+k.length=X.length:=by rw [←h,List.length_drop];omega
theorem Bv(I:Bytes)(b:UInt8):aJ I++[o.int .u8 (b.toNat:Int)]=aJ (I++[b]):=by simp [aJ]
theorem xT(n:Nat)(I:Bytes):shift n [] I=([],I):=by cases n<;>rfl
theorem Hr{K:List Nat}{ad:o}(h:cv mb ad)(df:∀i,mb i→i∈K):cv (Go.cH.cB K) ad:=cv.mono df h
section
variable(f aV cS cY:Nat)(X:Bytes)(bj P O:J)(ad:o)(ax:Option (TypeId×Nat))
abbrev uT(off n ag pm c9:Nat)(az:Bytes):List (Nat×J):=[(0,kA f aV off n (.slice (some ⟨3,ag,0,0,1⟩) az.length az.length) ad ax),(1,bj),(2,ct (aJ X) 1 aV cS cY cF),(3,ct (aJ az) 1 ag pm c9 cF),(4,O)]
theorem Hs{K:Nat}(df:5≤K){h:j}{C off n ag pm c9:Nat}{az:Bytes}(aX:C=3)(iv:dt bj)(iO:dt P)(iw:dt O)(co:cv mb ad)
 (b':h.get 0=some (kA f aV off n (.slice (some ⟨C,ag,0,0,1⟩) az.length az.length) ad ax)) (bu:h.get 1=some bj) (bC:h.get 2=some (ct (aJ X) 1 aV cS cY cF)) (b2:h.get 3=h.get 3) (cp:h.get 4=some O) (j7:h.get C=some (ct (aJ az) 1 ag pm c9 cF)) :
 e0 5 80 gR h gR (j.rows K (uT f aV cS cY X bj O ad ax off n ag pm c9 az)):=by
 have ZE:Nat.ble 5 C=true∨C=3:=by first|exact .inr aX|exact .inl (Nat.ble_eq.mpr aX)
 have be:∀i,mb i→(fun k=>if k=3 then C else k) i=i:=by intro i al;have:i=0∨i=1∨i=2∨i=3∨i=4:=al;simp only;split<;>omega
 refine e0.move (K:=K) (l:=uT f aV cS cY X bj O ad ax off n ag pm c9 az) (fun k=>if k=3 then C else k) ?_ ?_ ?_ ?_ ?_ ?_ rfl ?_ ?_
 ·have aD:=OJ (r:=fun k=>if k=3 then C else k) (f:=f) (aV:=aV) (off:=off) (n:=n) (ag:= .slice (some ⟨3,ag,0,0,1⟩) az.length az.length) (ax:=ax) (by simp) (by simp) (by simp) (o.zZ be co);simp only [List.map_cons,List.map_nil,aD,iv.bc,iO.bc,iw.bc,(pO (ly X) 1 aV cS cY cF).bc,(pO (ly az) 1 ag pm c9 cF).bc];simp [b',bu,bC,b2,cp,j7,o.bc,bH.bc]
 ·simp [List.all_cons];omega
 ·simp;omega
 ·subst aX;rfl
 ·subst aX;rfl
 ·simp [o.bc,bH.bc]
 ·exact b0.cons (by show(0:Nat)∈_;simp) b0.nil
 ·exact b0.cons (Ho (by show(0:Nat)∈_;simp) (by show(1:Nat)∈_;simp) (by show(2:Nat)∈_;simp) (by show(3:Nat)∈_;simp) (Hr co (by intro i al;have:i=0∨i=1∨i=2∨i=3∨i=4:=al;simp;omega))) (b0.cons (fun e he=>(iv e he).e2 _) (b0.cons (fun e he=>(ly X e he).e2 _) (b0.cons (fun e he=>(ly az e he).e2 _) (b0.cons (fun e he=>(iw e he).e2 _) b0.nil))))
theorem ZF(iv:dt bj)(iO:dt P)(iw:dt O)(co:cv mb ad):∀(de:Nat)(kept az:Bytes)(off ag pm c9:Nat),kept.length≤de→X.drop off=kept→off≤X.length→az.length≤65536→ ∃ib jz jA,
 db Tryz.prog aw 5 80 (c4 Tryz.prog 129 0) gR (j.rows 5 (uT f aV cS cY X bj O ad ax off kept.length ag pm c9 az)) (.exit 0) gR
  (j.rows 40 (uT f aV cS cY X bj O ad ax (X.length- (shift de kept az).1.length) (shift de kept az).1.length ib jz jA (shift de kept az).2)):=by
 intro de
 have fin:∀(de:Nat)(kept az:Bytes)(off ag pm c9:Nat),X.drop off=kept→off≤X.length→shift de kept az=(kept,az)→(kept≠[]→kept.isPrefixOf dE=true)→ ∃ib jz jA,
  db Tryz.prog aw 5 80 (c4 Tryz.prog 129 0) gR (j.rows 5 (uT f aV cS cY X bj O ad ax off kept.length ag pm c9 az)) (.exit 0) gR
   (j.rows 40 (uT f aV cS cY X bj O ad ax (X.length- (shift de kept az).1.length) (shift de kept az).1.length ib jz jA (shift de kept az).2)):=by
  intro de kept az off ag pm c9 fF ai aq ac;have aB:=xS fF ai
  obtain⟨e,bb,p,be,rfl,rfl,b',bu,bC,b2,cp,j7⟩:=OH f off aV cS cY kept.length ag pm c9 az.length (aJ X) (aJ az) ad bj O ax (fun e bb p=>e=.exit 0∧bb=gR∧p.get 0=some (kA f aV off kept.length (.slice (some ⟨3,ag,0,0,1⟩) az.length az.length) ad ax)∧p.get 1=some bj∧p.get 2=some (ct (aJ X) 1 aV cS cY cF)∧p.get 3=p.get 3∧p.get 4=some O∧p.get 3=some (ct (aJ az) 1 ag pm c9 cF)) (by
   delta ma je Bs eG
   rw [uS fF,iZ];refine⟨fun h=>⟨rfl,by rw [iK];omega,⟨kept,rfl⟩,fun _=>⟨rfl,rfl,rfl,rfl,rfl,rfl,rfl,rfl⟩,fun ae=> ?_⟩,fun _=>⟨rfl,rfl,rfl,rfl,rfl,rfl,rfl,rfl⟩⟩;have bZ:kept≠[]:=by rintro rfl;simp at h
   have:=ac bZ;rw [show Array.toList #[(27:UInt8),91,50,48,49,126]=dE from rfl,this]at ae
   cases ae)
  refine⟨ag,pm,c9,?_⟩;rw [aq];simp only;rw [show X.length-kept.length=off by omega];exact(db.last (by simp) be).post (Hs f aV cS cY X bj P O ad ax (by decide) (by decide) iv iO iw co b' bu bC b2 cp j7)
 induction de with
 |zero =>
  intro kept az off ag pm c9 a6 fF ai ac;have ao:kept=[]:=List.eq_nil_of_length_eq_zero (by omega);subst ao;exact fin 0 [] az off ag pm c9 fF ai (xT _ _) (fun h=>absurd rfl h)
 |succ de ih =>
  intro kept az off ag pm c9 a6 fF ai ac;cases kept with
  |nil=>exact fin (de+1) [] az off ag pm c9 fF ai (xT _ _) (fun h=>absurd rfl h)
  |cons b r =>
   cases aC:(b::r).isPrefixOf dE with
   |true=>exact fin (de+1) (b::r) az off ag pm c9 fF ai (by simp only [shift,aC,if_true]) (fun _=>aC)
   |false =>
    have aB:=xS fF ai;simp only [List.length_cons]at aB a6;have hT:shift (de+1) (b::r) az=shift de r (if az.length<65536 then az++[b]else az):=by simp only [shift,aC];rfl
    rw [hT]
    obtain⟨e,bb,p,be,rfl,rfl,jX,sY,sZ,b',bu,bC,b2,cp,j7⟩:=OH f off aV cS cY (b::r).length ag pm c9 az.length (aJ X) (aJ az) ad bj O ax (fun e bb p=>e=.normal∧bb=gR∧∃jX sY sZ,p.get 0=some (kA f aV (off+1) r.length (.slice (some ⟨3,jX,0,0,1⟩) (if az.length<65536 then az++[b]else az).length (if az.length<65536 then az++[b]else az).length) ad ax)∧p.get 1=some bj∧p.get 2=some (ct (aJ X) 1 aV cS cY cF)∧p.get 3=p.get 3∧p.get 4=some O∧p.get 3=some (ct (aJ (if az.length<65536 then az++[b]else az)) 1 jX sY sZ cF)) (by
     delta ma je Bs eG
     rw [uS fF,iZ,show off+0=off from rfl,Hp fF,Bu fF];have ox:=iK az;refine⟨fun h=>⟨rfl,by rw [iK];simp only [List.length_cons];omega,⟨b::r,rfl⟩,fun ae=> ?_,fun _=>⟨fun cM=>⟨⟨by omega,h⟩,rfl,rfl,⟨rfl,by omega,by omega,by omega,by omega⟩,⟨by omega,by omega,Nat.le_refl _⟩,rfl,rfl,?_⟩,fun gh=>⟨⟨by omega,by omega,Nat.le_refl _⟩,rfl,rfl,?_⟩⟩⟩,fun h=>by simp only [List.length_cons]at h;omega⟩
     ·rw [show Array.toList #[(27:UInt8),91,50,48,49,126]=dE from rfl,aC]at ae;cases ae
     ·rw [if_pos (show az.length<65536 by omega),←Bv,List.length_append];exact⟨_,_,_,rfl,rfl,rfl,rfl,rfl,rfl⟩
     ·rw [if_neg (show ¬az.length<65536 by omega)]
      exact⟨_,_,_,rfl,rfl,rfl,rfl,rfl,rfl⟩)
    have uB:(if az.length<65536 then az++[b]else az).length≤65536:=by
     split
     ·rw [List.length_append];simp only [List.length_cons,List.length_nil];omega
     ·exact ac
    obtain⟨ib,jz,jA,dG⟩:=ih r _ (off+1) jX sY sZ (by omega) (Hq fF) (by omega) uB;exact⟨ib,jz,jA,db.step (be.post (Hs f aV cS cY X bj P O ad ax (by decide) (by decide) iv iO iw co b' bu bC b2 cp j7)) dG⟩
abbrev s0(off n ag pm c9:Nat)(az:Bytes):List (Nat×J):=[(0,kA f aV off n (.slice (some ⟨30,ag,0,0,1⟩) az.length az.length) ad ax),(1,bj),(2,ct (aJ X) 1 aV cS cY cF),(3,P),(4,O),(30,ct (aJ az) 1 ag pm c9 cF)]
theorem Ht{K:Nat}(df:40≤K){h:j}{C off n ag pm c9:Nat}{az:Bytes}(aX:5≤C)(iv:dt bj)(iO:dt P)(iw:dt O)(co:cv mb ad)
 (b':h.get 0=some (kA f aV off n (.slice (some ⟨C,ag,0,0,1⟩) az.length az.length) ad ax)) (bu:h.get 1=some bj) (bC:h.get 2=some (ct (aJ X) 1 aV cS cY cF)) (b2:h.get 3=some P) (cp:h.get 4=some O) (j7:h.get C=some (ct (aJ az) 1 ag pm c9 cF)) :
 e0 5 80 gR h gR (j.rows K (s0 f aV cS cY X bj P O ad ax off n ag pm c9 az)):=by
 have ZE:Nat.ble 5 C=true∨C=3:=by first|exact .inr aX|exact .inl (Nat.ble_eq.mpr aX)
 have be:∀i,mb i→(fun k=>if k=30 then C else k) i=i:=by intro i al;have:i=0∨i=1∨i=2∨i=3∨i=4:=al;simp only;split<;>omega
 refine e0.move (K:=K) (l:=s0 f aV cS cY X bj P O ad ax off n ag pm c9 az) (fun k=>if k=30 then C else k) ?_ ?_ ?_ ?_ ?_ ?_ rfl ?_ ?_
 ·have aD:=OJ (r:=fun k=>if k=30 then C else k) (f:=f) (aV:=aV) (off:=off) (n:=n) (ag:= .slice (some ⟨30,ag,0,0,1⟩) az.length az.length) (ax:=ax) (by simp) (by simp) (by simp) (o.zZ be co);simp only [List.map_cons,List.map_nil,aD,iv.bc,iO.bc,iw.bc,(pO (ly X) 1 aV cS cY cF).bc,(pO (ly az) 1 ag pm c9 cF).bc];simp [b',bu,bC,b2,cp,j7,o.bc,bH.bc]
 ·simp [List.all_cons];omega
 ·simp;omega
 ·rfl
 ·simp [Nat.blt,aX]
 ·simp [o.bc,bH.bc]
 ·exact b0.cons (by show(0:Nat)∈_;simp) b0.nil
 ·exact b0.cons (Ho (by show(0:Nat)∈_;simp) (by show(1:Nat)∈_;simp) (by show(2:Nat)∈_;simp) (by show(30:Nat)∈_;simp) (Hr co (by intro i al;have:i=0∨i=1∨i=2∨i=3∨i=4:=al;simp;omega))) (b0.cons (fun e he=>(iv e he).e2 _) (b0.cons (fun e he=>(ly X e he).e2 _) (b0.cons (fun e he=>(iO e he).e2 _) (b0.cons (fun e he=>(iw e he).e2 _) (b0.cons (fun e he=>(ly az e he).e2 _) b0.nil)))))
theorem ZG(iv:dt bj)(iO:dt P)(iw:dt O)(co:cv mb ad):∀(de:Nat)(kept az:Bytes)(off ag pm c9:Nat),kept.length≤de→X.drop off=kept→off≤X.length→az.length≤65536→ ∃ib jz jA,
 db Tryz.prog aw 5 80 (c4 Tryz.prog 129 0) gR (j.rows 40 (s0 f aV cS cY X bj P O ad ax off kept.length ag pm c9 az)) (.exit 0) gR
  (j.rows 40 (s0 f aV cS cY X bj P O ad ax (X.length- (shift de kept az).1.length) (shift de kept az).1.length ib jz jA (shift de kept az).2)):=by
 intro de
 have fin:∀(de:Nat)(kept az:Bytes)(off ag pm c9:Nat),X.drop off=kept→off≤X.length→shift de kept az=(kept,az)→(kept≠[]→kept.isPrefixOf dE=true)→ ∃ib jz jA,
  db Tryz.prog aw 5 80 (c4 Tryz.prog 129 0) gR (j.rows 40 (s0 f aV cS cY X bj P O ad ax off kept.length ag pm c9 az)) (.exit 0) gR
   (j.rows 40 (s0 f aV cS cY X bj P O ad ax (X.length- (shift de kept az).1.length) (shift de kept az).1.length ib jz jA (shift de kept az).2)):=by
  intro de kept az off ag pm c9 fF ai aq ac;have aB:=xS fF ai
  obtain⟨e,bb,p,be,rfl,rfl,b',bu,bC,b2,cp,j7⟩:=OI f off aV cS cY kept.length ag pm c9 az.length (aJ X) (aJ az) ad bj P O ax (fun e bb p=>e=.exit 0∧bb=gR∧p.get 0=some (kA f aV off kept.length (.slice (some ⟨30,ag,0,0,1⟩) az.length az.length) ad ax)∧p.get 1=some bj∧p.get 2=some (ct (aJ X) 1 aV cS cY cF)∧p.get 3=some P∧p.get 4=some O∧p.get 30=some (ct (aJ az) 1 ag pm c9 cF)) (by
   delta ma je Bt eG
   rw [uS fF,iZ];refine⟨fun h=>⟨rfl,by rw [iK];omega,⟨kept,rfl⟩,fun _=>⟨rfl,rfl,rfl,rfl,rfl,rfl,rfl,rfl⟩,fun ae=> ?_⟩,fun _=>⟨rfl,rfl,rfl,rfl,rfl,rfl,rfl,rfl⟩⟩;have bZ:kept≠[]:=by rintro rfl;simp at h
   have:=ac bZ;rw [show Array.toList #[(27:UInt8),91,50,48,49,126]=dE from rfl,this]at ae
   cases ae)
  refine⟨ag,pm,c9,?_⟩;rw [aq];simp only;rw [show X.length-kept.length=off by omega];exact(db.last (by simp) be).post (Ht f aV cS cY X bj P O ad ax (by decide) (by decide) iv iO iw co b' bu bC b2 cp j7)
 induction de with
 |zero =>
  intro kept az off ag pm c9 a6 fF ai ac;have ao:kept=[]:=List.eq_nil_of_length_eq_zero (by omega);subst ao;exact fin 0 [] az off ag pm c9 fF ai (xT _ _) (fun h=>absurd rfl h)
 |succ de ih =>
  intro kept az off ag pm c9 a6 fF ai ac;cases kept with
  |nil=>exact fin (de+1) [] az off ag pm c9 fF ai (xT _ _) (fun h=>absurd rfl h)
  |cons b r =>
   cases aC:(b::r).isPrefixOf dE with
   |true=>exact fin (de+1) (b::r) az off ag pm c9 fF ai (by simp only [shift,aC,if_true]) (fun _=>aC)
   |false =>
    have aB:=xS fF ai;simp only [List.length_cons]at aB a6;have hT:shift (de+1) (b::r) az=shift de r (if az.length<65536 then az++[b]else az):=by simp only [shift,aC];rfl
    rw [hT]
    obtain⟨e,bb,p,be,rfl,rfl,jX,sY,sZ,b',bu,bC,b2,cp,j7⟩:=OI f off aV cS cY (b::r).length ag pm c9 az.length (aJ X) (aJ az) ad bj P O ax (fun e bb p=>e=.normal∧bb=gR∧∃jX sY sZ,p.get 0=some (kA f aV (off+1) r.length (.slice (some ⟨30,jX,0,0,1⟩) (if az.length<65536 then az++[b]else az).length (if az.length<65536 then az++[b]else az).length) ad ax)∧p.get 1=some bj∧p.get 2=some (ct (aJ X) 1 aV cS cY cF)∧p.get 3=some P∧p.get 4=some O∧p.get 30=some (ct (aJ (if az.length<65536 then az++[b]else az)) 1 jX sY sZ cF)) (by
     delta ma je Bt eG
     rw [uS fF,iZ,show off+0=off from rfl,Hp fF,Bu fF];have ox:=iK az;refine⟨fun h=>⟨rfl,by rw [iK];simp only [List.length_cons];omega,⟨b::r,rfl⟩,fun ae=> ?_,fun _=>⟨fun cM=>⟨⟨by omega,h⟩,rfl,rfl,⟨rfl,by omega,by omega,by omega,by omega⟩,⟨by omega,by omega,Nat.le_refl _⟩,rfl,rfl,?_⟩,fun gh=>⟨⟨by omega,by omega,Nat.le_refl _⟩,rfl,rfl,?_⟩⟩⟩,fun h=>by simp only [List.length_cons]at h;omega⟩
     ·rw [show Array.toList #[(27:UInt8),91,50,48,49,126]=dE from rfl,aC]at ae;cases ae
     ·rw [if_pos (show az.length<65536 by omega),←Bv,List.length_append];exact⟨_,_,_,rfl,rfl,rfl,rfl,rfl,rfl⟩
     ·rw [if_neg (show ¬az.length<65536 by omega)]
      exact⟨_,_,_,rfl,rfl,rfl,rfl,rfl,rfl⟩)
    have uB:(if az.length<65536 then az++[b]else az).length≤65536:=by
     split
     ·rw [List.length_append];simp only [List.length_cons,List.length_nil];omega
     ·exact ac
    obtain⟨ib,jz,jA,dG⟩:=ih r _ (off+1) jX sY sZ (by omega) (Hq fF) (by omega) uB;exact⟨ib,jz,jA,db.step (be.post (Ht f aV cS cY X bj P O ad ax (by decide) (by decide) iv iO iw co b' bu bC b2 cp j7)) dG⟩
end
end Go.Proofs.YtddnafghiejcoaaGreatDoor
namespace Go.Keys
theorem OK:∀(n:Nat)(k I:Bytes),∃t,k=t++(shift n k I).1
 |0,k,I=>⟨[],rfl⟩
 |n+1,[],I=>⟨[],rfl⟩
 |n +1,b::r,I=>by
  simp only [shift];split
  ·exact⟨[],rfl⟩
  ·obtain⟨t,b7⟩:=OK n r (if I.length<65536 then I++[b]else I);exact⟨b::t,by rw [List.cons_append,←b7]⟩
theorem Hu:∀(n:Nat)(k I:Bytes),I≠[]→(shift n k I).2≠[]
 |0,k,I,h=>h
 |n+1,[],I,h=>h
 |n +1,b::r,I,h=>by
  simp only [shift];split
  ·exact h
  ·refine Hu n r _ ?_;split
   ·simp
   ·exact h
end Go.Keys
namespace Go.Proofs.YtddnafghiejcoaaGreatDoor
open Go.cH Go.Keys
set_option maxRecDepth 1000000
section
variable(f aV cS cY:Nat)(X:Bytes)(bj P O:J)(ad:o)(ax:Option (TypeId×Nat))
abbrev ry(off n:Nat):List (Nat×J):=[(0,kA f aV off n (.slice none 0 0) ad ax),(1,bj),(2,ct (aJ X) 1 aV cS cY cF),(3,P),(4,O)]
theorem OL{K:Nat}(df:5≤K){h:j}{off n:Nat}(iv:dt bj)(iO:dt P)(iw:dt O)(co:cv mb ad)
 (b':h.get 0=some (kA f aV off n (.slice none 0 0) ad ax)) (bu:h.get 1=some bj) (bC:h.get 2=some (ct (aJ X) 1 aV cS cY cF)) (b2:h.get 3=some P) (cp:h.get 4=some O) :
 e0 5 80 gR h gR (j.rows K (ry f aV cS cY X bj P O ad ax off n)):=by
 refine e0.drop (K:=K) (l:=ry f aV cS cY X bj P O ad ax off n) (by simp [b',bu,bC,b2,cp]) (by simp [List.all_cons];omega) rfl rfl (b0.cons (by show(0:Nat)∈_;simp) b0.nil) ?_;exact b0.cons (Ho (by show(0:Nat)∈_;simp) (by show(1:Nat)∈_;simp) (by show(2:Nat)∈_;simp) trivial (Hr co (by intro i al;have:i=0∨i=1∨i=2∨i=3∨i=4:=al;simp;omega))) (b0.cons (fun e he=>(iv e he).e2 _) (b0.cons (fun e he=>(ly X e he).e2 _) (b0.cons (fun e he=>(iO e he).e2 _) (b0.cons (fun e he=>(iw e he).e2 _) b0.nil))))
theorem ZH(iv:dt bj)(iO:dt P)(iw:dt O)(co:cv mb ad)(de:Nat)(kept:Bytes)(off:Nat)(a6:kept.length≤de)(fF:X.drop off=kept)(ai:off≤X.length) :
 ((shift de kept []).2=[]→db Tryz.prog aw 5 80 (c4 Tryz.prog 129 0) gR (j.rows 5 (ry f aV cS cY X bj P O ad ax off kept.length)) (.exit 0) gR (j.rows 40 (ry f aV cS cY X bj P O ad ax (X.length- (shift de kept []).1.length) (shift de kept []).1.length))) ∧
 ((shift de kept []).2≠[]→ ∃ib jz jA,db Tryz.prog aw 5 80 (c4 Tryz.prog 129 0) gR (j.rows 5 (ry f aV cS cY X bj P O ad ax off kept.length)) (.exit 0) gR (j.rows 40 (s0 f aV cS cY X bj P O ad ax (X.length- (shift de kept []).1.length) (shift de kept []).1.length ib jz jA (shift de kept []).2))):=by
 have aB:=xS fF ai
 have fin:shift de kept []=(kept,[])→(kept≠[]→kept.isPrefixOf dE=true)→db Tryz.prog aw 5 80 (c4 Tryz.prog 129 0) gR (j.rows 5 (ry f aV cS cY X bj P O ad ax off kept.length)) (.exit 0) gR (j.rows 40 (ry f aV cS cY X bj P O ad ax (X.length- (shift de kept []).1.length) (shift de kept []).1.length)):=by
  intro aq ac
  obtain⟨e,bb,p,be,rfl,rfl,b',bu,bC,b2,cp⟩:=OG f off aV cS cY kept.length (aJ X) ad bj P O ax (fun e bb p=>e=.exit 0∧bb=gR∧p.get 0=some (kA f aV off kept.length (.slice none 0 0) ad ax)∧p.get 1=some bj∧p.get 2=some (ct (aJ X) 1 aV cS cY cF)∧p.get 3=some P∧p.get 4=some O) (by
   delta je Br eG
   rw [uS fF,iZ];refine⟨fun h=>⟨rfl,by rw [iK];omega,⟨kept,rfl⟩,fun _=>⟨rfl,rfl,rfl,rfl,rfl,rfl,rfl⟩,fun ae=> ?_⟩,fun _=>⟨rfl,rfl,rfl,rfl,rfl,rfl,rfl⟩⟩;have bZ:kept≠[]:=by rintro rfl;simp at h
   have:=ac bZ;rw [show Array.toList #[(27:UInt8),91,50,48,49,126]=dE from rfl,this]at ae
   cases ae)
  rw [aq];simp only;rw [show X.length-kept.length=off by omega];exact(db.last (by simp) be).post (OL f aV cS cY X bj P O ad ax (by decide) iv iO iw co b' bu bC b2 cp)
 cases kept with
 |nil =>
  have aq:shift de [] []=([],[]):=xT _ _;exact⟨fun _=>fin aq (fun h=>absurd rfl h),fun h=>absurd (by rw [aq]) h⟩
 |cons b r =>
  cases de with
  |zero=>simp at a6
  |succ de =>
   cases aC:(b::r).isPrefixOf dE with
   |true =>
    have aq:shift (de+1) (b::r) []=(b::r,[]):=by simp only [shift,aC,if_true]
    exact⟨fun _=>fin aq (fun _=>aC),fun h=>absurd (by rw [aq]) h⟩
   |false =>
    have hT:shift (de+1) (b::r) []=shift de r [b]:=by simp only [shift,aC];rfl
    rw [hT];simp only [List.length_cons]at aB a6;refine⟨fun h=>absurd h (Hu _ _ _ (by simp)),fun _=> ?_⟩
    obtain⟨e,bb,p,be,rfl,rfl,C,aX,b',bu,bC,b2,cp,j7⟩:=OG f off aV cS cY (b::r).length (aJ X) ad bj P O ax (fun e bb p=>e=.normal∧bb=gR∧∃C,5≤C∧p.get 0=some (kA f aV (off+1) r.length (.slice (some ⟨C,0,0,0,1⟩) ([b]:Bytes).length ([b]:Bytes).length) ad ax)∧p.get 1=some bj∧p.get 2=some (ct (aJ X) 1 aV cS cY cF)∧p.get 3=some P∧p.get 4=some O∧p.get C=some (ct (aJ [b]) 1 0 0 0 cF)) (by
     delta je Br eG
     rw [uS fF,iZ,show off+0=off from rfl,Hp fF,Bu fF];refine⟨fun h=>⟨rfl,by rw [iK];simp only [List.length_cons];omega,⟨b::r,rfl⟩,fun ae=> ?_,fun _=>⟨⟨by omega,h⟩,rfl,rfl,⟨by omega,by omega,Nat.le_refl _⟩,rfl,rfl,_,(by decide),rfl,rfl,rfl,rfl,rfl,rfl⟩⟩,fun h=>by simp only [List.length_cons]at h;omega⟩;rw [show Array.toList #[(27:UInt8),91,50,48,49,126]=dE from rfl,aC]at ae
     cases ae)
    obtain⟨ib,jz,jA,dG⟩:=ZG f aV cS cY X bj P O ad ax iv iO iw co de r [b] (off+1) 0 0 0 (by omega) (Hq fF) (by omega) (by simp);exact⟨ib,jz,jA,db.step (be.post (Ht f aV cS cY X bj P O ad ax (by decide) aX iv iO iw co b' bu bC b2 cp j7)) dG⟩
end
theorem nR{h:j}{f:Nat}{aV ag ad:o}{cl:Bool}{an aE:Option (TypeId×Nat)}{hold kept az:Bytes}{bx bt bk bz:Int}{D bj K P O:J}{bl:fY}{es:List bw}{aZ:cB}{k I:Nat}(bJ:Nat.ble 5 h.next=true)
 (b':h.get 0=some (b1 0 f 1 aV ag cl ad an)) (bu:h.get 1=some (ch hold bx bt bk bz aE)) (bC:h.get 2=some K∨aZ.k=2) (b2:h.get 3=some P∨aZ.I=3) (cp:h.get 4=some O) (ao:jb h 0 k aV bl kept) (ac:jc h 0 I ag az)
 (ai:jd (j.of [D,bj,K,P,O]) 0 aZ.U ad es) (cQ:aZ.u=1∧(aZ.k=0∨aZ.k=2)∧(aZ.I=0∨aZ.I=3)∧(aZ.U=0∨aZ.U=4)) (OM:k=0∨(k=2∧aZ.k=2)∨5≤k) (aff:I=0∨(I=3∧aZ.I=3)∨5≤I) (bZ:k=0∨I=0∨k≠I) (kO:Nat.blt k h.next=true) (ON:Nat.blt I h.next=true) :
 dP h 0 ⟨1,k,I,aZ.U⟩ f cl bl kept hold az es∧Fr (j.of [D,bj,K,P,O]) h 0 aZ ⟨1,k,I,aZ.U⟩ where
 left:= {
  ex:=by
   refine⟨aV,ag,ad,an,b',ao,ac,ai.cN fun aM=> ?_⟩;rcases cQ.2.2.2 with h|h
   ·exact absurd h aM
   ·rw [h,cp,j.eX];rfl
  ig:=⟨bx,bt,bk,bz,aE,bu⟩
  lt:=by
   have:=cQ.2.2.2;have bJ:=Nat.le_of_ble_eq_true bJ;have kO:=Nat.blt_eq.mp kO;have ON:=Nat.blt_eq.mp ON;show 0<h.next∧1<h.next∧k<h.next∧I<h.next∧aZ.U<h.next
   omega
  ne:=bZ}
 right := {
  next:=Nat.le_of_ble_eq_true bJ
  get :=fun C aX a1 aP fi iD hn=>by
   have aX:C<5:=aX;have:(C=2∧aZ.k≠2)∨(C=3∧aZ.I≠3)∨C=4:=by omega
   rw [j.eX];rcases this with ⟨rfl,ao⟩|⟨rfl,ao⟩|rfl
   ·rcases bC with e|e
    ·exact e
    ·exact absurd e ao
   ·rcases b2 with e|e
    ·exact e
    ·exact absurd e ao
   ·exact cp
  ids:=fun x af=>by
   show x=0∨x=aZ.u∨x=aZ.k∨x=aZ.I∨x=aZ.U∨5≤x;have af:x=1∨x=k∨x=I∨x=aZ.U:=af
   omega}
theorem xU(h:j):jc h 0 0 (.slice none 0 0) []:= .inl ⟨rfl,rfl,rfl⟩
theorem uU{h:j}{I R m f:Nat}{l:Bytes}{v:o}(ac:I≠0)(aB:l≠[])(a':v=.slice (some ⟨I,R,0,0,1⟩) l.length l.length)(e:h.get I=some (ct (aJ l) 1 R m f cF)):jc h 0 I v l :=
 .inr ⟨ac,aB,R,m,f,a',by simpa using e⟩
theorem nS{h:j}{k R m f off n:Nat}{X dN l:Bytes}(ao:k≠0)(fF:X=dN++l)(ai:off=dN.length)(aM:n=l.length)(e:h.get k=some (ct (aJ X) 1 R m f cF)):jb h 0 k (.slice (some ⟨k,R,off,0,1⟩) n n) (.grown dN) l:=by subst aM;subst ai;subst fF;exact⟨ao,R,m,f,rfl,e⟩
theorem ZI{kept az:Bytes}{c:UInt8}{S:Bytes×Bytes}(cq:shift (kept.length+1) (kept++[c]) az=S):Keys.cC ⟨.cC,kept,[],az⟩ c=if S.1.length=6 then(⟨.ground,[],[],[]⟩,[{kind:=4,text:=S.2}])else(⟨.cC,S.1,[],S.2⟩,[]):=by unfold Keys.cC;simp only [cq];rfl
def xV(s:bI)(c:UInt8):Prop:=s.b8=.cC∧s.hold=[]∧s.kept.length<6∧s.az.length≤65536
theorem ZJ{h:j}{U:Nat}{ad:o}{es:List bw}(p:jd h 0 U ad es)(ai:U=0∨U=4):cv mb ad:=by
 rcases p with ⟨rfl,_⟩|⟨_,_,R,m,f,rfl,_⟩
 ·trivial
 ·show mb U;unfold mb;omega
abbrev Hv(L:j)(aZ:cB)(es:List bw)(cX:bI×List bw)(v:o)(aa:j):Prop:=v=.tuple []∧∃aO,cm aa 0 aO cX.1 (es++cX.2)∧Fr L aa 0 aZ aO
theorem OO(a b c d e:J):j.rows 40 [(0,a),(1,b),(2,c),(3,d),(4,e)]=j.au 40 [(0,a),(1,b),(2,c),(3,d),(4,e)]:=by kernel_rfl
theorem ZK(a b c d e f:J):j.rows 40 [(0,a),(1,b),(2,c),(3,d),(4,e),(30,f)]=j.au 40 [(0,a),(1,b),(2,c),(3,d),(4,e),(30,f)]:=by kernel_rfl
theorem rz{h L:j}{aZ aF:cB}{bl:fY}{k I:Bytes}{es:List bw}{cX:bI×List bw}(f':dP h 0 aF (cD .cC) true bl k [] I es∧Fr L h 0 aZ aF)(hT:pN .cC bl k)(d':cX=(⟨.cC,k,[],I⟩,[])):Hv L aZ es cX (.tuple []) h:=by subst d';exact⟨rfl,aF,by rw [List.append_nil];exact⟨bl,f'.1,hT⟩,f'.2⟩
theorem Hw{h L:j}{aZ aF:cB}{bl:fY}{k t:Bytes}{es:List bw}{cX:bI×List bw}{cJ:o}(bJ:Nat.ble 5 h.next=true)(f':dP h 0 aF (cD .cC) false bl k [] [] es∧Fr L h 0 aZ aF)(he:cJ=di {kind:=4,text:=t})(cs:es.length<2^30)(d':cX=(⟨.ground,[],[],[]⟩,[{kind:=4,text:=t}])) :
 cx h ⟨0,0,0,0,6⟩ cJ∧∀aa,cy h ⟨0,0,0,0,6⟩ cJ aa→_root_.cond (Nat.ble 5 aa.next) (Hv L aZ es cX (.tuple []) aa) False:=by
 subst d';exact sM rfl (Nat.le_of_ble_eq_true bJ) f' he cs (by simp) fun aa aO g cL=>⟨rfl,aO,w6 g,cL⟩
theorem ZL{H:j}{d:Nat}{aF:cB}{s:bI}{es:List bw}{c:UInt8}(g:cm H d aF s es)(cs:es.length<2^30-8)(d':xV s c):∃aR,aI Tryz.prog aw 129 [.ptr (some ⟨d,0,0,0,6⟩),.int .u8 c.toNat] H (.tuple []) aR ∧
 ∃aO,cm aR d aO (Keys.cC s c).1 (es++(Keys.cC s c).2)∧Fr H aR d aF aO:=by
 obtain⟨bl,g,aq⟩:=g;refine g.Mr (Q:=fun h d aF=>cm h d aF (Keys.cC s c).1 (es++(Keys.cC s c).2)) (fun a aS=>by rw [List.mem_singleton.1 aS];exact cT.int _ _) (cT.of rfl) (fun aa aR r d aF be io cM q=>q.oL be io cM) ?_;intro aV ag ad an aE bx bt bk bz K P O aZ gs cQ afg iO iw;obtain⟨ao,ac,ai⟩:=mQ gs;obtain⟨b8,kept,hold,az⟩:=s;obtain⟨p,ae,jC,qx⟩:=d';simp only at p ae jC qx aq gs ao ac ai⊢;subst p ae;simp only [show decide (pC.cC=pC.cC)=true from rfl]at ac ai ao gs⊢;have co:=ZJ ai cQ.2.2.2;have iv:dt (ch [] bx bt bk bz aE):=rc _ _ _ _ _ _;have tE:=c.toNat_lt;cases cq:shift (kept.length+1) (kept++[c]) az with
 |mk aL eU =>
 have nq:=ZI cq
 suffices bQ:∃v aa,aI Tryz.prog aw 129 [.ptr (some ⟨0,0,0,0,6⟩),.int .u8 c.toNat] (j.of [b1 0 (cD .cC) 1 aV ag true ad an,ch [] bx bt bk bz aE,K,P,O]) v aa ∧
  Hv (j.of [b1 0 (cD .cC) 1 aV ag true ad an,ch [] bx bt bk bz aE,K,P,O]) aZ es (Keys.cC ⟨.cC,kept,[],az⟩ c) v aa by
  obtain⟨v,aa,aD,rfl,q⟩:=bQ;exact⟨aa,aD,q⟩
 cases bl with
 |one=>exact aq.elim
 |nil =>
  obtain⟨rfl,rfl,kz⟩:=ao;have bu:UInt8.ofNat (Int.toNat (c.toNat:Int))=c:=by simp
  have hT:shift 1 [c] az=if [c].isPrefixOf dE then([c],az)else([],if az.length<65536 then az++[c]else az):=by simp only [shift]
  have cq:shift 1 [c] az=(aL,eU):=cq;rw [hT]at cq;have pre: [c].isPrefixOf dE=true→aL=[c]∧eU=az:=fun aC=>by rw [aC]at cq;simpa [eq_comm]using cq
  have Hx: [c].isPrefixOf dE=false→aL=[]∧eU=if az.length<65536 then az++[c]else az:=fun aC=>by rw [aC]at cq;simpa [eq_comm]using cq
  rcases ac with ⟨rfl,rfl,xW⟩|⟨xW,Bw,xX⟩
  ·refine ZC (cD .cC) c.toNat ad (ch [] bx bt bk bz aE) K P O an _ ?_
   delta eG
   rw [bu,show Array.toList #[(27:UInt8),91,50,48,49,126]=dE from rfl];refine⟨fun aC=> ?_,fun aC=> ?_⟩
   ·obtain⟨rfl,rfl⟩:=pre aC;exact rz (nR (k:=12) (I:=0) rfl rfl rfl (.inl rfl) (.inl rfl) rfl (nS (dN:=[]) (X:=[c]) (by decide) rfl rfl rfl rfl) (xU _) ai cQ (.inr (.inr (by decide))) (.inl rfl) (.inr (.inl rfl)) rfl rfl) trivial nq
   ·obtain⟨rfl,rfl⟩:=Hx aC;exact rz (nR (k:=12) (I:=49) rfl rfl rfl (.inl rfl) (.inl rfl) rfl (nS (dN:=[c]) (X:=[c]) (by decide) rfl rfl rfl rfl) (uU (l:=[c]) (by decide) (by simp) rfl rfl) ai cQ (.inr (.inr (by decide))) (.inr (.inr (by decide))) (.inr (.inr (by decide))) rfl rfl) trivial nq
  ·have mY:aZ.I=3:=by omega
   rw [mY]at xW xX;obtain⟨jX,pm,c9,rfl,kb⟩:=xX;rw [j.eX]at kb;simp only [List.getElem?_cons_zero,List.getElem?_cons_succ,Option.some.injEq,List.nil_append,List.length_nil]at kb;subst kb;refine ZD (cD .cC) jX pm c9 az.length (aJ az) c.toNat ad (ch [] bx bt bk bz aE) K O an _ ?_
   delta ma eG
   rw [bu,show Array.toList #[(27:UInt8),91,50,48,49,126]=dE from rfl];have ox:=iK az;refine⟨fun aC=> ?_,fun aC=>⟨fun cM=>⟨⟨rfl,by omega,by omega,by omega,by omega⟩,?_⟩,fun gh=> ?_⟩⟩
   ·obtain⟨rfl,rfl⟩:=pre aC;exact rz (nR (k:=12) (I:=3) rfl rfl rfl (.inl rfl) (.inr mY) rfl (nS (dN:=[]) (X:=[c]) (by decide) rfl rfl rfl rfl) (uU (by decide) Bw rfl rfl) ai cQ (.inr (.inr (by decide))) (.inr (.inl ⟨rfl,mY⟩)) (.inr (.inr (by decide))) rfl rfl) trivial nq
   ·obtain⟨rfl,rfl⟩:=Hx aC;rw [if_pos (show az.length<65536 by omega)]at nq;exact rz (nR (k:=12) (I:=3) rfl rfl rfl (.inl rfl) (.inr mY) rfl (nS (dN:=[c]) (X:=[c]) (by decide) rfl rfl rfl rfl) (uU (l:=az++[c]) (by decide) (by simp) (by rw [List.length_append];rfl) (by rw [←Bv];rfl)) ai cQ (.inr (.inr (by decide))) (.inr (.inl ⟨rfl,mY⟩)) (.inr (.inr (by decide))) rfl rfl) trivial nq
   ·obtain⟨rfl,rfl⟩:=Hx aC;rw [if_neg (show ¬az.length<65536 by omega)]at nq;exact rz (nR (k:=12) (I:=3) rfl rfl rfl (.inl rfl) (.inr mY) rfl (nS (dN:=[c]) (X:=[c]) (by decide) rfl rfl rfl rfl) (uU (by decide) Bw rfl rfl) ai cQ (.inr (.inr (by decide))) (.inr (.inl ⟨rfl,mY⟩)) (.inr (.inr (by decide))) rfl rfl) trivial nq
 |grown dN =>
  obtain⟨kz,R,m,aG,rfl,df⟩:=ao;have cw:aZ.k=2:=by omega
  rw [cw,j.eX]at df;simp only [List.getElem?_cons_zero,List.getElem?_cons_succ,Option.some.injEq]at df;subst df;rw [cw]at ac ai⊢;have Bx:aJ (dN++kept)++[o.int .u8 (c.toNat:Int)]=aJ (dN++(kept++[c])):=by rw [Bv,List.append_assoc]
  generalize Hy:dN++(kept++[c])=X at Bx;have fF:X.drop dN.length=kept++[c]:=by rw [←Hy];simp
  have afh:X.length=dN.length+kept.length+1:=by rw [←Hy];simp;omega
  have ve:(kept++[c]).length=kept.length+1:=by simp
  have vW:(aJ (dN++kept)).length=dN.length+kept.length:=by rw [iK,List.length_append]
  obtain⟨t,b7⟩:=OK (kept.length+1) (kept++[c]) az;rw [cq]at b7;simp only at b7;have s3:X=(dN++t)++aL:=by rw [←Hy,b7,List.append_assoc]
  have iE:X.length-aL.length=(dN++t).length:=by rw [s3];simp only [List.length_append];omega
  have Hz:R=R∧dN.length+kept.length=(aJ (dN++kept)).length∧kept.length<kept.length+1∧(kept.length+1+(kept.length+1)/4+512)*1≤281474976710656∧kept.length+1<4611686018427387904:=⟨rfl,by omega,by omega,by omega,by omega⟩
  have m6:(aL.length:Int)=6→Keys.cC ⟨.cC,kept,[],az⟩ c=(⟨.ground,[],[],[]⟩,[{kind:=4,text:=eU}]):=fun h=>by rw [nq,if_pos (show aL.length=6 by omega)]
  have m7:¬(aL.length:Int)=6→Keys.cC ⟨.cC,kept,[],az⟩ c=(⟨.cC,aL,[],eU⟩,[]):=fun h=>by rw [nq,if_neg (show ¬aL.length=6 by omega)]
  rcases ac with ⟨rfl,rfl,xW⟩|⟨xW,Bw,xX⟩
  ·
    obtain⟨eC,ci⟩:=ZH (cD .cC) (R+1) m (if m=R then(aJ (dN++kept)).length else min aG (aJ (dN++kept)).length) X (ch [] bx bt bk bz aE) P O ad an iv iO iw co (kept.length+1) (kept++[c]) dN.length (by omega) fF (by omega);rw [cq]at eC ci;simp only at eC ci
    have xB:∀h:j,h.get 0=some (kA (cD .cC) (R+1) dN.length (kept++[c]).length (.slice none 0 0) ad an)→h.get 1=some (ch [] bx bt bk bz aE)→h.get 2=some (ct (aJ X) 1 (R+1) m (if m=R then(aJ (dN++kept)).length else min aG (aJ (dN++kept)).length) cF)→h.get 3=some P→h.get 4=some O→e0 5 80 gR h gR (j.rows 5 (ry (cD .cC) (R+1) m (if m=R then(aJ (dN++kept)).length else min aG (aJ (dN++kept)).length) X (ch [] bx bt bk bz aE) P O ad an dN.length (kept++[c]).length)) :=
     fun h a0 ap a2 a3 a4=>OL _ _ _ _ _ _ _ _ _ _ (Nat.le_refl _) iv iO iw co a0 ap a2 a3 a4
    by_cases oV:eU=[]
    ·have dG:=eC oV;rw [OO]at dG;subst oV;refine Zz (cD .cC) dN.length R m aG kept.length (R+1) m (if m=R then(aJ (dN++kept)).length else min aG (aJ (dN++kept)).length) (X.length-aL.length) aL.length (aJ (dN++kept)) (aJ X) c.toNat (.slice none 0 0) ad (ch [] bx bt bk bz aE) P P O an _ ?_
     delta mX eG Hn p8
     refine⟨Hz,?_,fun h=> ?_,fun h=> ?_⟩
     ·rw [Bx,←ve];exact cP.h' (dG.pre (xB _ rfl rfl rfl rfl rfl))
     ·rw [m6 h];exact Hw rfl (nR (k:=2) (I:=0) rfl rfl rfl (.inr cw) (.inl rfl) rfl (nS (by decide) s3 iE rfl rfl) (xU _) ai cQ (.inr (.inl ⟨rfl,cw⟩)) (.inl rfl) (.inr (.inl rfl)) rfl rfl) rfl (by omega) rfl
     ·rw [m7 h];exact rz (nR (k:=2) (I:=0) rfl rfl rfl (.inr cw) (.inl rfl) rfl (nS (by decide) s3 iE rfl rfl) (xU _) ai cQ (.inr (.inl ⟨rfl,cw⟩)) (.inl rfl) (.inr (.inl rfl)) rfl rfl) trivial rfl
    ·obtain⟨ib,jz,jA,dG⟩:=ci oV;rw [ZK]at dG;have ox:=iK eU;have el:List.take eU.length (List.drop 0 (aJ eU))=aJ eU:=by rw [List.drop_zero,←ox,List.take_length]
     have HA:List.take eU.length (aJ eU)=aJ eU:=by rw [←ox,List.take_length]
     refine ZB (cD .cC) dN.length R m aG kept.length (R+1) m (if m=R then(aJ (dN++kept)).length else min aG (aJ (dN++kept)).length) (X.length-aL.length) aL.length ib jz jA eU.length (aJ (dN++kept)) (aJ X) (aJ eU) c.toNat (.slice none 0 0) ad (ch [] bx bt bk bz aE) P P O an _ ?_
     delta oU mX eG uR p8
     refine⟨Hz,?_,fun h=>⟨rfl,by omega,⟨eU,el⟩,?_⟩,fun h=> ?_⟩
     ·rw [Bx,←ve];exact cP.h' (dG.pre (xB _ rfl rfl rfl rfl rfl))
     ·rw [m6 h,HA,iZ];exact Hw rfl (nR (k:=2) (I:=0) rfl rfl rfl (.inr cw) (.inl rfl) rfl (nS (by decide) s3 iE rfl rfl) (xU _) ai cQ (.inr (.inl ⟨rfl,cw⟩)) (.inl rfl) (.inr (.inl rfl)) rfl rfl) rfl (by omega) rfl
     ·rw [m7 h];exact rz (nR (k:=2) (I:=30) rfl rfl rfl (.inr cw) (.inl rfl) rfl (nS (by decide) s3 iE rfl rfl) (uU (by decide) oV rfl rfl) ai cQ (.inr (.inl ⟨rfl,cw⟩)) (.inr (.inr (by decide))) (.inr (.inr (by decide))) rfl rfl) trivial rfl
  ·have mY:aZ.I=3:=by omega
   rw [mY]at xW xX;obtain⟨jX,pm,c9,rfl,kb⟩:=xX;rw [j.eX]at kb;simp only [List.getElem?_cons_zero,List.getElem?_cons_succ,Option.some.injEq,List.nil_append,List.length_nil]at kb;subst kb;simp only [List.length_nil]at ai⊢
   have oV:eU≠[]:=by have:=Hu (kept.length+1) (kept++[c]) az Bw;rw [cq]at this;exact this
   obtain⟨ib,jz,jA,dG⟩:=ZF (cD .cC) (R+1) m (if m=R then(aJ (dN++kept)).length else min aG (aJ (dN++kept)).length) X (ch [] bx bt bk bz aE) (ct (aJ az) 1 jX pm c9 cF) O ad an iv iO iw co (kept.length+1) (kept++[c]) az dN.length jX pm c9 (by omega) fF (by omega) qx;rw [cq]at dG;simp only at dG;rw [OO]at dG;have ox:=iK eU;have el:List.take eU.length (List.drop 0 (aJ eU))=aJ eU:=by rw [List.drop_zero,←ox,List.take_length]
   have HA:List.take eU.length (aJ eU)=aJ eU:=by rw [←ox,List.take_length]
   refine ZA (cD .cC) dN.length R m aG kept.length (R+1) m (if m=R then(aJ (dN++kept)).length else min aG (aJ (dN++kept)).length) (X.length-aL.length) aL.length ib jz jA eU.length (aJ (dN++kept)) (aJ X) (aJ eU) c.toNat (.slice (some ⟨3,jX,0,0,1⟩) az.length az.length) ad (ch [] bx bt bk bz aE) (ct (aJ az) 1 jX pm c9 cF) O an _ ?_
   delta oU mX eG uR p8
   refine⟨Hz,?_,fun h=>⟨rfl,by omega,⟨eU,el⟩,?_⟩,fun h=> ?_⟩
   ·rw [Bx,←ve];exact cP.h' (dG.pre (Hs _ _ _ _ _ _ (ct (aJ az) 1 jX pm c9 cF) _ _ _ (Nat.le_refl _) rfl iv iO iw co rfl rfl rfl rfl rfl rfl))
   ·rw [m6 h,HA,iZ];exact Hw rfl (nR (k:=2) (I:=0) rfl rfl rfl (.inr cw) (.inr mY) rfl (nS (by decide) s3 iE rfl rfl) (xU _) ai cQ (.inr (.inl ⟨rfl,cw⟩)) (.inl rfl) (.inr (.inl rfl)) rfl rfl) rfl (by omega) rfl
   ·rw [m7 h];exact rz (nR (k:=2) (I:=3) rfl rfl rfl (.inr cw) (.inr mY) rfl (nS (by decide) s3 iE rfl rfl) (uU (by decide) oV rfl rfl) ai cQ (.inr (.inl ⟨rfl,cw⟩)) (.inr (.inl ⟨rfl,mY⟩)) (.inr (.inr (by decide))) rfl rfl) trivial rfl
theorem ZM:∀args h a,jV (2^30-8) xV Keys.cC args h=some a→a.dr Tryz.prog aw 129 args h:=ri fun H d aF s es c g cs aB d'=>ZL g cs d'
noncomputable def ZN:e9:=((OA.add 87 (jV (2^30-8) xR Keys.sequence)).add 129 (jV (2^30-8) xV Keys.cC))
theorem rA:eP Tryz.prog aw ZN:=(OB.add Zw).add ZM
abbrev mZ(H:j):j:=(j.mk (H.next+4+6) (j.aT (j.mk (H.next+1+3) (j.aT (j.mk (H.next+1) (j.aT H))))))
theorem OP(H:j)(B d q bv cO n m C c:Nat)(ab:dj→bT→j→Prop)(aY:bF B (H.next) (((C:Int)<(n:Int)→bF B (H.next+1) ((0≤(C:Int)∧(C:Int)<(n:Int))∧cj env.D 5 ⟨q,bv,cO+Int.toNat (C:Int),0,1⟩ (j.mk (H.next+4) (H.2))=some (.int .u8 (c:Int))∧bF B (H.next+4) (cj env.D 66 ⟨d,0,0,0,6⟩ (j.mk (H.next+10) (H.2))=some (.func (.func 30) [.ptr (some ⟨d,0,0,0,6⟩)] [])∧dy (2^30-4) l3 (mZ H) ⟨d,0,0,0,6⟩ (c:Int)∧∀(gC:j),dz ground (mZ H) ⟨d,0,0,0,6⟩ (c:Int) gC→bF B (gC.next) ((-9223372036854775808≤(C:Int)+1∧(C:Int)+1≤9223372036854775807)∧ab .normal [(0,.ptr (some ⟨d,0,0,0,6⟩)),(13,.slice (some ⟨q,bv,cO,0,1⟩) n m),(14,.int .i64 (n:Int)),(15,.int .i64 ((C:Int)+1))] (j.mk (gC.next+2) (j.aT gC))))))∧(¬(C:Int)<(n:Int)→ab (.exit 0) [(0,.ptr (some ⟨d,0,0,0,6⟩)),(13,.slice (some ⟨q,bv,cO,0,1⟩) n m),(14,.int .i64 (n:Int)),(15,.int .i64 (C:Int))] (j.mk (H.next+1) (j.aT H))))) :
 ∃e bb p,cP Tryz.prog aw B 34 (c4 Tryz.prog 26 0) [(0,.ptr (some ⟨d,0,0,0,6⟩)),(13,.slice (some ⟨q,bv,cO,0,1⟩) n m),(14,.int .i64 n),(15,.int .i64 C)] H e bb p∧ab e bb p :=
 hI bU mixed rA (aq:= .aN 5000 (ah 6000 (.aA (.val 6001 (.int .u8 (c:Int))) (.aA (.val 7003 (.func (.func 30) [.ptr (some ⟨d,0,0,0,6⟩)] [])) (ah 8000 .nil)))) .nil) (cN:=[0,13,14,15]) (by kernel_rfl) aY
theorem ZO(H:j)(B d q bv cO n m C c:Nat)(ab:dj→bT→j→Prop)(aY:bF B (H.next) (((C:Int)<(n:Int)→bF B (H.next+1) ((0≤(C:Int)∧(C:Int)<(n:Int))∧cj env.D 5 ⟨q,bv,cO+Int.toNat (C:Int),0,1⟩ (j.mk (H.next+4) (H.2))=some (.int .u8 (c:Int))∧bF B (H.next+4) (cj env.D 66 ⟨d,0,0,0,6⟩ (j.mk (H.next+10) (H.2))=some (.func (.func 59) [.ptr (some ⟨d,0,0,0,6⟩)] [])∧dy (2^30-8) xe (mZ H) ⟨d,0,0,0,6⟩ (c:Int)∧∀(gC:j),dz dw (mZ H) ⟨d,0,0,0,6⟩ (c:Int) gC→bF B (gC.next) ((-9223372036854775808≤(C:Int)+1∧(C:Int)+1≤9223372036854775807)∧ab .normal [(0,.ptr (some ⟨d,0,0,0,6⟩)),(13,.slice (some ⟨q,bv,cO,0,1⟩) n m),(14,.int .i64 (n:Int)),(15,.int .i64 ((C:Int)+1))] (j.mk (gC.next+2) (j.aT gC))))))∧(¬(C:Int)<(n:Int)→ab (.exit 0) [(0,.ptr (some ⟨d,0,0,0,6⟩)),(13,.slice (some ⟨q,bv,cO,0,1⟩) n m),(14,.int .i64 (n:Int)),(15,.int .i64 (C:Int))] (j.mk (H.next+1) (j.aT H))))) :
 ∃e bb p,cP Tryz.prog aw B 34 (c4 Tryz.prog 26 0) [(0,.ptr (some ⟨d,0,0,0,6⟩)),(13,.slice (some ⟨q,bv,cO,0,1⟩) n m),(14,.int .i64 n),(15,.int .i64 C)] H e bb p∧ab e bb p :=
 hI bU mixed rA (aq:= .aN 5000 (ah 6000 (.aA (.val 6001 (.int .u8 (c:Int))) (.aA (.val 7003 (.func (.func 59) [.ptr (some ⟨d,0,0,0,6⟩)] [])) (ah 8000 .nil)))) .nil) (cN:=[0,13,14,15]) (by kernel_rfl) aY
theorem ZP(H:j)(B d q bv cO n m C c:Nat)(ab:dj→bT→j→Prop)(aY:bF B (H.next) (((C:Int)<(n:Int)→bF B (H.next+1) ((0≤(C:Int)∧(C:Int)<(n:Int))∧cj env.D 5 ⟨q,bv,cO+Int.toNat (C:Int),0,1⟩ (j.mk (H.next+4) (H.2))=some (.int .u8 (c:Int))∧bF B (H.next+4) (cj env.D 66 ⟨d,0,0,0,6⟩ (j.mk (H.next+10) (H.2))=some (.func (.func 90) [.ptr (some ⟨d,0,0,0,6⟩)] [])∧dy (2^30-8) xy (mZ H) ⟨d,0,0,0,6⟩ (c:Int)∧∀(gC:j),dz dc (mZ H) ⟨d,0,0,0,6⟩ (c:Int) gC→bF B (gC.next) ((-9223372036854775808≤(C:Int)+1∧(C:Int)+1≤9223372036854775807)∧ab .normal [(0,.ptr (some ⟨d,0,0,0,6⟩)),(13,.slice (some ⟨q,bv,cO,0,1⟩) n m),(14,.int .i64 (n:Int)),(15,.int .i64 ((C:Int)+1))] (j.mk (gC.next+2) (j.aT gC))))))∧(¬(C:Int)<(n:Int)→ab (.exit 0) [(0,.ptr (some ⟨d,0,0,0,6⟩)),(13,.slice (some ⟨q,bv,cO,0,1⟩) n m),(14,.int .i64 (n:Int)),(15,.int .i64 (C:Int))] (j.mk (H.next+1) (j.aT H))))) :
 ∃e bb p,cP Tryz.prog aw B 34 (c4 Tryz.prog 26 0) [(0,.ptr (some ⟨d,0,0,0,6⟩)),(13,.slice (some ⟨q,bv,cO,0,1⟩) n m),(14,.int .i64 n),(15,.int .i64 C)] H e bb p∧ab e bb p :=
 hI bU mixed rA (aq:= .aN 5000 (ah 6000 (.aA (.val 6001 (.int .u8 (c:Int))) (.aA (.val 7003 (.func (.func 90) [.ptr (some ⟨d,0,0,0,6⟩)] [])) (ah 8000 .nil)))) .nil) (cN:=[0,13,14,15]) (by kernel_rfl) aY
theorem ZQ(H:j)(B d q bv cO n m C c:Nat)(ab:dj→bT→j→Prop)(aY:bF B (H.next) (((C:Int)<(n:Int)→bF B (H.next+1) ((0≤(C:Int)∧(C:Int)<(n:Int))∧cj env.D 5 ⟨q,bv,cO+Int.toNat (C:Int),0,1⟩ (j.mk (H.next+4) (H.2))=some (.int .u8 (c:Int))∧bF B (H.next+4) (cj env.D 66 ⟨d,0,0,0,6⟩ (j.mk (H.next+10) (H.2))=some (.func (.func 87) [.ptr (some ⟨d,0,0,0,6⟩)] [])∧dy (2^30-8) xR (mZ H) ⟨d,0,0,0,6⟩ (c:Int)∧∀(gC:j),dz sequence (mZ H) ⟨d,0,0,0,6⟩ (c:Int) gC→bF B (gC.next) ((-9223372036854775808≤(C:Int)+1∧(C:Int)+1≤9223372036854775807)∧ab .normal [(0,.ptr (some ⟨d,0,0,0,6⟩)),(13,.slice (some ⟨q,bv,cO,0,1⟩) n m),(14,.int .i64 (n:Int)),(15,.int .i64 ((C:Int)+1))] (j.mk (gC.next+2) (j.aT gC))))))∧(¬(C:Int)<(n:Int)→ab (.exit 0) [(0,.ptr (some ⟨d,0,0,0,6⟩)),(13,.slice (some ⟨q,bv,cO,0,1⟩) n m),(14,.int .i64 (n:Int)),(15,.int .i64 (C:Int))] (j.mk (H.next+1) (j.aT H))))) :
 ∃e bb p,cP Tryz.prog aw B 34 (c4 Tryz.prog 26 0) [(0,.ptr (some ⟨d,0,0,0,6⟩)),(13,.slice (some ⟨q,bv,cO,0,1⟩) n m),(14,.int .i64 n),(15,.int .i64 C)] H e bb p∧ab e bb p :=
 hI bU mixed rA (aq:= .aN 5000 (ah 6000 (.aA (.val 6001 (.int .u8 (c:Int))) (.aA (.val 7003 (.func (.func 87) [.ptr (some ⟨d,0,0,0,6⟩)] [])) (ah 8000 .nil)))) .nil) (cN:=[0,13,14,15]) (by kernel_rfl) aY
theorem ZR(H:j)(B d q bv cO n m C c:Nat)(ab:dj→bT→j→Prop)(aY:bF B (H.next) (((C:Int)<(n:Int)→bF B (H.next+1) ((0≤(C:Int)∧(C:Int)<(n:Int))∧cj env.D 5 ⟨q,bv,cO+Int.toNat (C:Int),0,1⟩ (j.mk (H.next+4) (H.2))=some (.int .u8 (c:Int))∧bF B (H.next+4) (cj env.D 66 ⟨d,0,0,0,6⟩ (j.mk (H.next+10) (H.2))=some (.func (.func 88) [.ptr (some ⟨d,0,0,0,6⟩)] [])∧dy (2^30-8) singleR (mZ H) ⟨d,0,0,0,6⟩ (c:Int)∧∀(gC:j),dz single (mZ H) ⟨d,0,0,0,6⟩ (c:Int) gC→bF B (gC.next) ((-9223372036854775808≤(C:Int)+1∧(C:Int)+1≤9223372036854775807)∧ab .normal [(0,.ptr (some ⟨d,0,0,0,6⟩)),(13,.slice (some ⟨q,bv,cO,0,1⟩) n m),(14,.int .i64 (n:Int)),(15,.int .i64 ((C:Int)+1))] (j.mk (gC.next+2) (j.aT gC))))))∧(¬(C:Int)<(n:Int)→ab (.exit 0) [(0,.ptr (some ⟨d,0,0,0,6⟩)),(13,.slice (some ⟨q,bv,cO,0,1⟩) n m),(14,.int .i64 (n:Int)),(15,.int .i64 (C:Int))] (j.mk (H.next+1) (j.aT H))))) :
 ∃e bb p,cP Tryz.prog aw B 34 (c4 Tryz.prog 26 0) [(0,.ptr (some ⟨d,0,0,0,6⟩)),(13,.slice (some ⟨q,bv,cO,0,1⟩) n m),(14,.int .i64 n),(15,.int .i64 C)] H e bb p∧ab e bb p :=
 hI bU mixed rA (aq:= .aN 5000 (ah 6000 (.aA (.val 6001 (.int .u8 (c:Int))) (.aA (.val 7003 (.func (.func 88) [.ptr (some ⟨d,0,0,0,6⟩)] [])) (ah 8000 .nil)))) .nil) (cN:=[0,13,14,15]) (by kernel_rfl) aY
theorem ZS(H:j)(B d q bv cO n m C c:Nat)(ab:dj→bT→j→Prop)(aY:bF B (H.next) (((C:Int)<(n:Int)→bF B (H.next+1) ((0≤(C:Int)∧(C:Int)<(n:Int))∧cj env.D 5 ⟨q,bv,cO+Int.toNat (C:Int),0,1⟩ (j.mk (H.next+4) (H.2))=some (.int .u8 (c:Int))∧bF B (H.next+4) (cj env.D 66 ⟨d,0,0,0,6⟩ (j.mk (H.next+10) (H.2))=some (.func (.func 129) [.ptr (some ⟨d,0,0,0,6⟩)] [])∧dy (2^30-8) xV (mZ H) ⟨d,0,0,0,6⟩ (c:Int)∧∀(gC:j),dz cC (mZ H) ⟨d,0,0,0,6⟩ (c:Int) gC→bF B (gC.next) ((-9223372036854775808≤(C:Int)+1∧(C:Int)+1≤9223372036854775807)∧ab .normal [(0,.ptr (some ⟨d,0,0,0,6⟩)),(13,.slice (some ⟨q,bv,cO,0,1⟩) n m),(14,.int .i64 (n:Int)),(15,.int .i64 ((C:Int)+1))] (j.mk (gC.next+2) (j.aT gC))))))∧(¬(C:Int)<(n:Int)→ab (.exit 0) [(0,.ptr (some ⟨d,0,0,0,6⟩)),(13,.slice (some ⟨q,bv,cO,0,1⟩) n m),(14,.int .i64 (n:Int)),(15,.int .i64 (C:Int))] (j.mk (H.next+1) (j.aT H))))) :
 ∃e bb p,cP Tryz.prog aw B 34 (c4 Tryz.prog 26 0) [(0,.ptr (some ⟨d,0,0,0,6⟩)),(13,.slice (some ⟨q,bv,cO,0,1⟩) n m),(14,.int .i64 n),(15,.int .i64 C)] H e bb p∧ab e bb p :=
 hI bU mixed rA (aq:= .aN 5000 (ah 6000 (.aA (.val 6001 (.int .u8 (c:Int))) (.aA (.val 7003 (.func (.func 129) [.ptr (some ⟨d,0,0,0,6⟩)] [])) (ah 8000 .nil)))) .nil) (cN:=[0,13,14,15]) (by kernel_rfl) aY
theorem ZT(H:j)(B d:Nat)(bs:o)(ab:dj→bT→j→Prop)(aY:bF B (H.next) (ab (.exit 0) [(0,.ptr (some ⟨d,0,0,0,6⟩)),(13,bs),(14,.int .i64 0),(15,.int .i64 0)] (j.mk (H.next+1) (j.aT H)))) :
 ∃e bb p,cP Tryz.prog aw B 34 (c4 Tryz.prog 26 0) [(0,.ptr (some ⟨d,0,0,0,6⟩)),(13,bs),(14,.int .i64 0),(15,.int .i64 0)] H e bb p∧ab e bb p :=
 hI bU mixed rA (aq:= .nil) (cN:=[0,13,14,15]) (by kernel_rfl) aY
theorem ZU(H H1 aH aW:j)(d n m:Nat)(U:Option bH)(ad e':o)(ab:o→j→Prop)(aY:bF (H.next) (H.next) (bF (H.next) (H.next+1) (bF (H.next) (H.next+3) (bX env eM (H.next+6) (bR [(12,.ptr (some ⟨d,0,0,5,6⟩)),(11,.ptr (some ⟨d,0,0,0,6⟩)),(10,.ptr (some ⟨d,0,0,0,6⟩)),(9,.bool false),(8,.ptr (some ⟨d,0,0,0,6⟩)),(4,.slice none 0 0),(0,.ptr (some ⟨d,0,0,0,6⟩)),(1,.slice U n m)]) (j.mk (H.next+7) (H.2)) (Op.store 56 (Operand.tmp 12) (Operand.const (Value.slice none 0 0)))=some (o.tuple [],H1)∧bF (H.next) (H1.next) (cP Tryz.prog aw (H.next) 34 (Code.loop (c4 Tryz.prog 26 0)) [(0,.ptr (some ⟨d,0,0,0,6⟩)),(13,.slice U n m),(14,.int .i64 (n:Int)),(15,.int .i64 0)] (j.mk (H1.next+3) (j.aT H1)) (.exit 0) [(0,.ptr (some ⟨d,0,0,0,6⟩)),(13,.slice U n m),(14,.int .i64 (n:Int)),(15,e')] aH∧bF (H.next) (aH.next) (cj env.D 56 ⟨d,0,0,5,6⟩ (j.mk (aH.next+5) (aH.2))=some ad∧bF (H.next) (aH.next+5) (bX env eM (aH.next+8) (bR [(32,.ptr (some ⟨d,0,0,5,6⟩)),(31,.ptr (some ⟨d,0,0,0,6⟩)),(30,.ptr (some ⟨d,0,0,0,6⟩)),(7,ad),(29,ad),(28,.ptr (some ⟨d,0,0,5,6⟩)),(27,.ptr (some ⟨d,0,0,0,6⟩)),(26,.ptr (some ⟨d,0,0,0,6⟩)),(0,.ptr (some ⟨d,0,0,0,6⟩)),(13,.slice U n m),(14,.int .i64 (n:Int)),(15,e')]) (j.mk (aH.next+9) (aH.2)) (Op.store 56 (Operand.tmp 32) (Operand.const (Value.slice none 0 0)))=some (o.tuple [],aW)∧bF (H.next) (aW.next) (bN (H.next) (aW.next+2) (ab ad (j.mk (aW.next+2) (j.aT aW))))))))))) :
 ∃v p,aI Tryz.prog aw 26 [.ptr (some ⟨d,0,0,0,6⟩),.slice U n m] H v p∧ab v p :=
 cf bU mixed rA (aq:= .aA (.act 3003 (.tuple []) fun x=>H1) (.aA (.cN [0,13,14,15]) (.aA (.loop [(0,.ptr (some ⟨d,0,0,0,6⟩)),(13,.slice U n m),(14,.int .i64 (n:Int)),(15,e')] aH (.exit 0)) (.aA (.val 9003 ad) (.aA (.act 10003 (.tuple []) fun x=>aW) .nil))))) (by kernel_rfl) aY
theorem ZV{h:j}{d f u:Nat}{aV ag ad:o}{cl:Bool}{an:Option (TypeId×Nat)}(e:h.get d=some (b1 d f u aV ag cl ad an)):cj (b4.D env) 66 ⟨d,0,0,0,6⟩ h=some (.func (.func f) [.ptr (some ⟨d,0,0,0,6⟩)] []):=by
 have b5:(b4.D env 66).map (fun d=>d.kind.isAgg)=some false:=by kernel_rfl
 obtain⟨x,p,ae⟩:=Option.map_eq_some_iff.1 b5;unfold cj;rw [p,e];simp [J.elem?,J.cE,iR,ae,J.made]
theorem OQ{h:j}{d f u:Nat}{aV ag ad:o}{cl:Bool}{an:Option (TypeId×Nat)}(e:h.get d=some (b1 d f u aV ag cl ad an)):cj (b4.D env) 56 ⟨d,0,0,5,6⟩ h=some ad:=by
 have b5:(b4.D env 56).map (fun d=>d.kind.isAgg)=some false:=by kernel_rfl
 obtain⟨x,p,ae⟩:=Option.map_eq_some_iff.1 b5;unfold cj;rw [p,e];simp [J.elem?,J.cE,iR,ae,J.made]
theorem By{h:j}{d f u:Nat}{aV ag ad:o}{cl:Bool}{an:Option (TypeId×Nat)}(e:h.get d=some (b1 d f u aV ag cl ad an)):iA (b4.D env) 56 ⟨d,0,0,5,6⟩ (.slice none 0 0) h=some (h.set d (b1 d f u aV ag cl (.slice none 0 0) an)):=by
 have b5:(b4.D env 56).map (fun d=>(d.kind.isAgg,d.size))=some (false,1):=by kernel_rfl
 obtain⟨x,p,ae⟩:=Option.map_eq_some_iff.1 b5;simp only [Prod.mk.injEq]at ae;unfold iA;rw [p,e];simp [o.fits,ae.1,ae.2,J.made,rL,o.cells,iQ]
theorem ZW{h:j}{q v i:Nat}{b:J}{c:Int}(e:h.get q=some b)(he:b.elem? v i=some (.int .u8 c)):cj (b4.D env) 5 ⟨q,v,i,0,1⟩ h=some (.int .u8 c):=by
 have b5:(b4.D env 5).map (fun d=>d.kind.isAgg)=some false:=by kernel_rfl
 obtain⟨x,p,ae⟩:=Option.map_eq_some_iff.1 b5;unfold cj;rw [p,e];simp only [he,iR,ae,Bool.false_eq_true,if_false,if_true]
structure rB(H:j)(q bv cO:Nat)(bs:Bytes):Prop where
 ex:∃b,H.get q=some b∧∀(C:Nat)(h:C<bs.length),b.elem? bv (cO+C)=some (.int .u8 bs[C].toNat)
theorem rB.cN{H aR:j}{q bv cO:Nat}{bs:Bytes}(h:rB H q bv cO bs)(e:aR.get q=H.get q):rB aR q bv cO bs:=by obtain⟨b,p,ae⟩:=h.ex;exact⟨b,by rw [e];exact p,ae⟩
structure lE(q d:Nat)(aF:cB):Prop where
 d:q≠d
 u:q≠aF.u
 k:q≠aF.k
 I:q≠aF.I
 U:q≠aF.U
theorem lE.cL{h aa:j}{q d:Nat}{aF aO:cB}(U:lE q d aF)(cL:Fr h aa d aF aO)(aC:q<h.next):lE q d aO where
 d:=U.d
 u e:=by have:=cL.ids q (.inl e);have:=U.d;have:=U.u;have:=U.k;have:=U.I;have:=U.U;omega
 k e:=by have:=cL.ids q (.inr (.inl e));have:=U.d;have:=U.u;have:=U.k;have:=U.I;have:=U.U;omega
 I e:=by have:=cL.ids q (.inr (.inr (.inl e)));have:=U.d;have:=U.u;have:=U.k;have:=U.I;have:=U.U;omega
 U e:=by have:=cL.ids q (.inr (.inr (.inr e)));have:=U.d;have:=U.u;have:=U.k;have:=U.I;have:=U.U;omega
theorem lE.get{h aa:j}{q d:Nat}{aF aO:cB}(U:lE q d aF)(cL:Fr h aa d aF aO)(aC:q<h.next):aa.get q=h.get q:=cL.get q aC U.d U.u U.k U.I U.U
theorem nT{h:j}{d:Nat}{aF:cB}{s:bI}{es:List bw}{k:Nat}(g:cm h d aF s es):cm ⟨h.next+k,h.aT⟩ d aF s es:=by
 obtain⟨bl,g,aq⟩:=g;refine⟨bl,⟨g.ex,g.ig,?_,g.ne⟩,aq⟩;have:=g.lt;show d<h.next+k∧aF.u<h.next+k∧aF.k<h.next+k∧aF.I<h.next+k∧aF.U<h.next+k
 omega
theorem HB{h aa:j}{d:Nat}{aF aO:cB}{k:Nat}(cL:Fr h aa d aF aO):Fr h ⟨aa.next+k,aa.aT⟩ d aF aO where
 next:=by have:=cL.next;show h.next≤aa.next+k;omega
 get:=cL.get
 ids:=cL.ids
theorem Bz{h aa:j}{d:Nat}{aF aO:cB}{k:Nat}(cL:Fr ⟨h.next+k,h.aT⟩ aa d aF aO):Fr h aa d aF aO where
 next:=by have:h.next+k≤aa.next:=cL.next;omega
 get C aX:=cL.get C (by show C<h.next+k;omega)
 ids x af:=by have:x=d∨x=aF.u∨x=aF.k∨x=aF.I∨x=aF.U∨h.next+k≤x:=cL.ids x af;omega
abbrev k0(d q bv cO n m C:Nat):bT:=[(0,.ptr (some ⟨d,0,0,0,6⟩)),(13,.slice (some ⟨q,bv,cO,0,1⟩) n m),(14,.int .i64 (n:Nat)),(15,.int .i64 (C:Nat))]
theorem ZX{a b:Nat}(h:a≤b):(Nat.ble a b&&true)=true:=by rw [Nat.ble_eq.mpr h];rfl
theorem bB{a b:Nat}{I:Prop}(h:a≤b)(k:I):_root_.cond (Nat.ble a b&&true) I False:=by rw [ZX h];exact k
theorem uV{H:j}{B d q bv cO n m C c:Nat}{N:Nat}{cX:bI→UInt8→Prop}{F:bI→UInt8→bI×List bw}{g:o}{ab:dj→bT→j→Prop}(c1:B≤H.next)(aX:C<n)(aM:n<2^62)(p:j)(bu:p=⟨H.next+10,H.aT⟩)
 (lX:cj (b4.D env) 5 ⟨q,bv,cO+Int.toNat (C:Int),0,1⟩ ⟨H.next+4,H.aT⟩=some (.int .u8 (c:Int))) (k1:cj (b4.D env) 66 ⟨d,0,0,0,6⟩ ⟨H.next+10,H.aT⟩=some g)
 (pre:dy N cX ⟨H.next+10,H.aT⟩ ⟨d,0,0,0,6⟩ (c:Int)) (post:∀h,dz F ⟨H.next+10,H.aT⟩ ⟨d,0,0,0,6⟩ (c:Int) h→ab .normal (k0 d q bv cO n m (C+1)) ⟨h.next+2,h.aT⟩) (X:Prop) :
 _root_.cond (Nat.ble B H.next&&true) (((C:Int)<(n:Int)→_root_.cond (Nat.ble B (H.next+1)&&true) ((0≤(C:Int)∧(C:Int)<(n:Int))∧cj (b4.D env) 5 ⟨q,bv,cO+Int.toNat (C:Int),0,1⟩ ⟨H.next+4,H.aT⟩=some (.int .u8 (c:Int))∧_root_.cond (Nat.ble B (H.next+4)&&true) (cj (b4.D env) 66 ⟨d,0,0,0,6⟩ ⟨H.next+10,H.aT⟩=some g∧dy N cX p ⟨d,0,0,0,6⟩ (c:Int) ∧
  ∀h,dz F p ⟨d,0,0,0,6⟩ (c:Int) h→_root_.cond (Nat.ble B h.next&&true) ((-9223372036854775808≤(C:Int)+1∧(C:Int)+1≤9223372036854775807)∧ab .normal [(0,.ptr (some ⟨d,0,0,0,6⟩)),(13,.slice (some ⟨q,bv,cO,0,1⟩) n m),(14,.int .i64 (n:Nat)),(15,.int .i64 ((C:Int)+1))] ⟨h.next+2,h.aT⟩) False) False) False)∧(¬(C:Int)<(n:Int)→X)) False:=by
 subst bu;refine bB c1 ⟨fun _=>bB (by omega) ⟨⟨by omega,by omega⟩,lX,bB (by omega) ⟨k1,pre,fun h t=> ?_⟩⟩,fun h=>absurd (by omega) h⟩;have iN:H.next+10≤h.next:=t.next
 exact bB (by omega) ⟨⟨by omega,by omega⟩,by rw [show((C:Int)+1)=((C+1:Nat):Int)by omega];exact post h t⟩
theorem ZY{H:j}{B d q bv cO m C:Nat}{aF:cB}{s:bI}{es:List bw}{bs:Bytes}(c1:B≤H.next)(g:cm H d aF s es)(dY:Keys.Good s)(cs:es.length<2^30-8)(av:rB H q bv cO bs)(aX:C<bs.length)(aM:bs.length<2^62) :
 ∃aR aO,cP Tryz.prog aw B 34 (c4 Tryz.prog 26 0) (k0 d q bv cO bs.length m C) H .normal (k0 d q bv cO bs.length m (C+1)) aR∧cm aR d aO (Keys.step s bs[C]).1 (es++(Keys.step s bs[C]).2)∧Fr H aR d aF aO:=by
 have ar:=bs[C].toNat_lt;obtain⟨b,hE,jJ⟩:=av.ex;have lX:cj (b4.D env) 5 ⟨q,bv,cO+Int.toNat (C:Int),0,1⟩ ⟨H.next+4,H.aT⟩=some (.int .u8 (bs[C].toNat:Int)):=ZW hE (by rw [show cO+Int.toNat (C:Int)=cO+C by simp];exact jJ C aX)
 have o':∃aV ag ad an,H.get d=some (b1 d (cD s.b8) aF.u aV ag (decide (s.b8=.cC)) ad an):=by obtain⟨bl,k2,_⟩:=g;obtain⟨aV,ag,ad,an,e,_⟩:=k2.ex;exact⟨aV,ag,ad,an,e⟩
 obtain⟨aV,ag,ad,an,gW⟩:=o';have k1:=ZV (h:=⟨H.next+10,H.aT⟩) gW
 have OR:s.hold.length≤4:=by
  obtain⟨b8,kept,hold,az⟩:=s;cases b8 with
  |dc=>have:=dY.2.2.2.1;simp only at this⊢; omega
  |ground=>have:=dY.2.1;simp only at this;simp [this]
  |dw=>have:=dY.2.1;simp only at this;simp [this]
  |sequence=>have:=dY.1;simp only at this;simp [this]
  |single=>have:=dY.1;simp only at this;simp [this]
  |cC=>have:=dY.1;simp only at this;simp [this]
 have key:∀{N:Nat}{cX:bI→UInt8→Prop}{F:bI→UInt8→bI×List bw},es.length<N→cX s bs[C]→F s bs[C]=Keys.step s bs[C] →
  dy N cX ⟨H.next+10,H.aT⟩ ⟨d,0,0,0,6⟩ (bs[C].toNat:Int)∧∀h,dz F ⟨H.next+10,H.aT⟩ ⟨d,0,0,0,6⟩ (bs[C].toNat:Int) h→dj.normal=.normal∧k0 d q bv cO bs.length m (C+1)=k0 d q bv cO bs.length m (C+1)∧∃aO,cm ⟨h.next+2,h.aT⟩ d aO (Keys.step s bs[C]).1 (es++(Keys.step s bs[C]).2)∧Fr H ⟨h.next+2,h.aT⟩ d aF aO:=by
  intro N cX F dl d' fE;refine⟨⟨rfl,⟨aF,s,es,nT g,dl,OR,by rw [uD];exact d'⟩,by omega⟩,fun h t=>⟨rfl,rfl,?_⟩⟩;obtain⟨aO,dA,fZ⟩:=t.all aF s es (nT g) OR;rw [uD,fE]at dA;exact⟨aO,nT dA,HB (Bz fZ)⟩
 have fin:∀{e:dj}{bb:bT}{p:j},cP Tryz.prog aw B 34 (c4 Tryz.prog 26 0) (k0 d q bv cO bs.length m C) H e bb p→(e=.normal∧bb=k0 d q bv cO bs.length m (C+1)∧∃aO,cm p d aO (Keys.step s bs[C]).1 (es++(Keys.step s bs[C]).2)∧Fr H p d aF aO) →
  ∃aR aO,cP Tryz.prog aw B 34 (c4 Tryz.prog 26 0) (k0 d q bv cO bs.length m C) H .normal (k0 d q bv cO bs.length m (C+1)) aR∧cm aR d aO (Keys.step s bs[C]).1 (es++(Keys.step s bs[C]).2)∧Fr H aR d aF aO:=by
  rintro e bb p be ⟨rfl,rfl,aO,q⟩;exact⟨p,aO,be,q⟩
 let ab:dj→bT→j→Prop:=fun e bb p=>e=.normal∧bb=k0 d q bv cO bs.length m (C+1)∧∃aO,cm p d aO (Keys.step s bs[C]).1 (es++(Keys.step s bs[C]).2)∧Fr H p d aF aO
 cases af:s.b8 with
 |ground =>
  rw [af]at k1;obtain⟨b8,kept,hold,az⟩:=s;simp only at af;subst af;obtain⟨aL,aQ⟩:=key (N:=2^30-4) (cX:=l3) (F:=Keys.ground) (by omega) ⟨dY.2.1,rfl⟩ rfl;obtain⟨e,bb,p,be,ao⟩:=OP H B d q bv cO bs.length m C bs[C].toNat ab (uV c1 aX aM _ rfl lX k1 aL aQ _);exact fin be ao
 |dw =>
  rw [af]at k1;obtain⟨b8,kept,hold,az⟩:=s;simp only at af;subst af;obtain⟨aL,aQ⟩:=key (N:=2^30-8) (cX:=xe) (F:=Keys.dw) (by omega) ⟨dY.2.1,rfl⟩ rfl;obtain⟨e,bb,p,be,ao⟩:=ZO H B d q bv cO bs.length m C bs[C].toNat ab (uV c1 aX aM _ rfl lX k1 aL aQ _);exact fin be ao
 |dc =>
  rw [af]at k1;obtain⟨b8,kept,hold,az⟩:=s;simp only at af;subst af;obtain⟨aL,aQ⟩:=key (N:=2^30-8) (cX:=xy) (F:=Keys.dc) (by omega) ⟨rfl,dY.2.1,dY.2.2.1,dY.2.2.2.1,dY.2.2.2.2⟩ rfl;obtain⟨e,bb,p,be,ao⟩:=ZP H B d q bv cO bs.length m C bs[C].toNat ab (uV c1 aX aM _ rfl lX k1 aL aQ _);exact fin be ao
 |sequence =>
  rw [af]at k1;obtain⟨b8,kept,hold,az⟩:=s;simp only at af;subst af;obtain⟨aL,aQ⟩:=key (N:=2^30-8) (cX:=xR) (F:=Keys.sequence) (by omega) ⟨rfl,dY.1,dY.2.2.1,dY.2.2.2⟩ rfl;obtain⟨e,bb,p,be,ao⟩:=ZQ H B d q bv cO bs.length m C bs[C].toNat ab (uV c1 aX aM _ rfl lX k1 aL aQ _);exact fin be ao
 |single =>
  rw [af]at k1;obtain⟨b8,kept,hold,az⟩:=s;simp only at af;subst af;obtain⟨aL,aQ⟩:=key (N:=2^30-8) (cX:=singleR) (F:=Keys.single) (by omega) ⟨dY.1,rfl⟩ rfl;obtain⟨e,bb,p,be,ao⟩:=ZR H B d q bv cO bs.length m C bs[C].toNat ab (uV c1 aX aM _ rfl lX k1 aL aQ _);exact fin be ao
 |cC =>
  rw [af]at k1;obtain⟨b8,kept,hold,az⟩:=s;simp only at af;subst af;obtain⟨aL,aQ⟩:=key (N:=2^30-8) (cX:=xV) (F:=Keys.cC) (by omega) ⟨rfl,dY.1,dY.2.1,dY.2.2.2⟩ rfl;obtain⟨e,bb,p,be,ao⟩:=ZS H B d q bv cO bs.length m C bs[C].toNat ab (uV c1 aX aM _ rfl lX k1 aL aQ _);exact fin be ao
theorem ZZ{B d q bv cO m:Nat}{bs:Bytes}(aM:bs.length<2^28):∀(k C:Nat)(H:j)(aF:cB)(s:bI)(es:List bw),bs.length-C≤k→C≤bs.length→B≤H.next→cm H d aF s es→Keys.Good s→es.length+2* (bs.length-C)<2^30-8→rB H q bv cO bs→q<H.next→lE q d aF →
 ∃aR aO,db Tryz.prog aw B 34 (c4 Tryz.prog 26 0) (k0 d q bv cO bs.length m C) H (.exit 0) (k0 d q bv cO bs.length m bs.length) aR∧cm aR d aO (ej s (bs.drop C)).1 (es++(ej s (bs.drop C)).2)∧Fr H aR d aF aO:=by
 intro k
 have fin:∀(H:j)(aF:cB)(s:bI)(es:List bw),B≤H.next→cm H d aF s es→ ∃aR aO,db Tryz.prog aw B 34 (c4 Tryz.prog 26 0) (k0 d q bv cO bs.length m bs.length) H (.exit 0) (k0 d q bv cO bs.length m bs.length) aR∧cm aR d aO (ej s (bs.drop bs.length)).1 (es++(ej s (bs.drop bs.length)).2)∧Fr H aR d aF aO:=by
  intro H aF s es c1 g;obtain⟨e,bb,p,be,rfl,rfl,rfl⟩:=OP H B d q bv cO bs.length m bs.length 0 (fun e bb p=>e=.exit 0∧bb=k0 d q bv cO bs.length m bs.length∧p=⟨H.next+1,H.aT⟩) (bB c1 ⟨fun h=>by omega,fun _=>⟨rfl,rfl,rfl⟩⟩);refine⟨_,aF,db.last (by simp) be,?_,?_⟩
  ·rw [List.drop_length];simp only [ej,List.append_nil];exact nT g
  ·exact⟨by show H.next≤H.next+1;omega,fun C _ _ _ _ _ _=>rfl,fun x af=>by omega⟩
 induction k with
 |zero =>
  intro C H aF s es ao aX c1 g dY cs av aC ai;obtain rfl:C=bs.length:=by omega
  exact fin H aF s es c1 g
 |succ k ih =>
  intro C H aF s es ao aX c1 g dY cs av aC ai;by_cases ar:C<bs.length
  ·obtain⟨H1,mP,be,g1,lD⟩:=ZY (m:=m) c1 g dY (by omega) av ar (by omega);have ae:=Lo s bs[C];have ky:=lD.next
   obtain⟨aH,c',aB,g2,p9⟩:=ih (C+1) H1 mP _ _ (by omega) (by omega) (by omega) g1 (q1 _ dY) (by rw [List.length_append];omega) (av.cN (ai.get lD aC)) (by omega) (ai.cL lD aC);refine⟨aH,c',db.step be aB,?_,lD.trans p9⟩;rw [List.drop_eq_getElem_cons ar];simp only [ej];rw [←List.append_assoc];exact g2
  ·obtain rfl:C=bs.length:=by omega
   exact fin H aF s es c1 g
def m'(H:j)(v:o)(es:List bw)(U:Nat):Prop :=
 (v=.slice none 0 0∧es=[])∨(es≠[]∧U<H.next∧∃R m f,v=.slice (some ⟨U,R,0,0,6⟩) es.length es.length∧H.get U=some (ct (es.map di) 6 R m f ju))
theorem cm.clear{H:j}{d:Nat}{aF:cB}{s:bI}{es:List bw}(g:cm H d aF s es):∃f aV ag cl ad an,H.get d=some (b1 d f aF.u aV ag cl ad an)∧jd H d aF.U ad es∧aF.u≠d ∧
 ∀k,cm ((⟨H.next+k,H.aT⟩:j).set d (b1 d f aF.u aV ag cl (.slice none 0 0) an)) d ⟨aF.u,aF.k,aF.I,d⟩ s []∧Fr H ((⟨H.next+k,H.aT⟩:j).set d (b1 d f aF.u aV ag cl (.slice none 0 0) an)) d aF ⟨aF.u,aF.k,aF.I,d⟩:=by
 obtain⟨bl,g,aq⟩:=g;obtain⟨aV,ag,ad,an,e,ao,ac,ai⟩:=g.ex;obtain⟨bx,bt,bk,bz,aE,hu⟩:=g.ig
 have ms:aF.u≠d:=by intro h;rw [h,e]at hu;simp [J.made]at hu
 refine⟨_,aV,ag,_,ad,an,e,ai,ms,fun k=>⟨⟨bl,⟨⟨aV,ag,.slice none 0 0,an,?_,?_,?_,.inl ⟨rfl,rfl,rfl⟩⟩,⟨bx,bt,bk,bz,aE,?_⟩,?_,g.ne⟩,aq⟩,?_,?_,?_⟩⟩
 ·exact j.gG _ _ _
 ·exact ao.cN fun aM=>j.e1 _ _ (Ne.symm aM)
 ·exact ac.cN fun aM=>j.e1 _ _ (Ne.symm aM)
 ·show((⟨H.next+k,H.aT⟩:j).set d _).get aF.u=_;rw [j.e1 _ _ (Ne.symm ms)];exact hu
 ·have:=g.lt;show d<H.next+k∧aF.u<H.next+k∧aF.k<H.next+k∧aF.I<H.next+k∧d<H.next+k
  omega
 ·show H.next≤H.next+k;omega
 ·intro C aX a1 aP fi iD hn;exact j.e1 _ _ (Ne.symm a1)
 ·intro x af;have af:x=aF.u∨x=aF.k∨x=aF.I∨x=d:=af;omega
def OS(H:j)(d:Nat)(aF:cB)(U:Option bH)(bs:Bytes):Prop:=(U=none∧bs=[])∨ ∃q bv cO,U=some ⟨q,bv,cO,0,1⟩∧rB H q bv cO bs∧q<H.next∧lE q d aF
theorem oW{t:TypeId}{F:bT}{H H1:j}{a:bH}{bh k:Nat}(a6:bR F (.tmp k)=.ptr (some a))(aq:iA (b4.D env) t a (.slice none 0 0) H=some H1):bX env eM bh (bR F) H (Op.store t (Operand.tmp k) (Operand.const (Value.slice none 0 0)))=some (.tuple [],H1):=by have ar:bR F (Operand.const (Value.slice none 0 0))=.slice none 0 0:=rfl;simp only [bX,a6,ar,aq,Option.map_some]
theorem OT{H:j}{d m:Nat}{aF:cB}{s:bI}{es:List bw}{bs:Bytes}{U:Option bH}(g:cm H d aF s es)(dY:Keys.Good s)(aM:bs.length<2^28)(aS:OS H d aF U bs) :
 ∃aR v aO eD,aI Tryz.prog aw 26 [.ptr (some ⟨d,0,0,0,6⟩),.slice U bs.length m] H v aR∧cm aR d aO (ej s bs).1 []∧Fr H aR d aF aO∧m' aR v (ej s bs).2 eD∧((ej s bs).2≠[]→lE eD d aO∧(eD=aF.u∨eD=aF.k∨eD=aF.I∨H.next≤eD)):=by
 obtain⟨f,aV,ag,cl,ad,an,gW,ai,ms,hl⟩:=g.clear;obtain⟨g1,lD⟩:=hl 7;generalize xY:((⟨H.next+7,H.aT⟩:j).set d (b1 d f aF.u aV ag cl (.slice none 0 0) an))=H1 at g1 lD;have iX:iA (b4.D env) 56 ⟨d,0,0,5,6⟩ (.slice none 0 0) ⟨H.next+7,H.aT⟩=some H1:=by rw [←xY];exact By gW
 have kc:H1.next=H.next+7:=by rw [←xY];rfl
 have nP:cm ⟨H1.next+3,H1.aT⟩ d ⟨aF.u,aF.k,aF.I,d⟩ s []:=nT g1
 have zr:∃aH c' e',cP Tryz.prog aw H.next 34 (Code.loop (c4 Tryz.prog 26 0)) [(0,.ptr (some ⟨d,0,0,0,6⟩)),(13,.slice U bs.length m),(14,.int .i64 bs.length),(15,.int .i64 0)] ⟨H1.next+3,H1.aT⟩ (.exit 0) [(0,.ptr (some ⟨d,0,0,0,6⟩)),(13,.slice U bs.length m),(14,.int .i64 bs.length),(15,e')] aH ∧
  cm aH d c' (ej s bs).1 (ej s bs).2∧Fr H1 aH d ⟨aF.u,aF.k,aF.I,d⟩ c':=by
  rcases aS with ⟨rfl,rfl⟩|⟨q,bv,cO,rfl,av,aC,iE⟩
  ·obtain⟨e,bb,p,be,rfl,rfl,rfl⟩:=ZT ⟨H1.next+3,H1.aT⟩ H.next d (.slice none 0 m) (fun e bb p=>e=.exit 0∧bb=[(0,.ptr (some ⟨d,0,0,0,6⟩)),(13,.slice none 0 m),(14,.int .i64 0),(15,.int .i64 0)]∧p=⟨H1.next+3+1,H1.aT⟩) (bB (by show H.next≤H1.next+3;omega) ⟨rfl,rfl,rfl⟩)
   refine⟨_,⟨aF.u,aF.k,aF.I,d⟩,.int .i64 0,cP.h' (db.last (by simp) be),nT nP,?_⟩
   exact⟨by show H1.next≤H1.next+3+1;omega,fun C _ _ _ _ _ _=>rfl,fun x af=>by
    have af:x=aF.u∨x=aF.k∨x=aF.I∨x=d:=af;show x=d∨x=aF.u∨x=aF.k∨x=aF.I∨x=d∨_
    omega⟩
  ·have Z0:rB ⟨H1.next+3,H1.aT⟩ q bv cO bs:=av.cN (by show H1.get q=H.get q;exact iE.get lD aC);have Z1:lE q d ⟨aF.u,aF.k,aF.I,d⟩:=iE.cL lD aC;obtain⟨aH,c',aB,g2,p9⟩:=ZZ (B:=H.next) (m:=m) aM bs.length 0 ⟨H1.next+3,H1.aT⟩ ⟨aF.u,aF.k,aF.I,d⟩ s [] (by omega) (by omega) (by show H.next≤H1.next+3;omega) nP dY (by simp only [List.length_nil];omega) Z0 (by show q<H1.next+3;omega) Z1;rw [List.drop_zero,List.nil_append]at g2;exact⟨aH,c',.int .i64 bs.length,cP.h' aB,g2,Bz p9⟩
 obtain⟨aH,c',e',dG,g2,p9⟩:=zr;obtain⟨f2,uz,uA,q',rb,mN,HC,gP,afi,Z2⟩:=g2.clear;obtain⟨g3,s4⟩:=Z2 9;generalize nU:((⟨aH.next+9,aH.aT⟩:j).set d (b1 d f2 c'.u uz uA q' (.slice none 0 0) mN))=aW at g3 s4;have Z3:iA (b4.D env) 56 ⟨d,0,0,5,6⟩ (.slice none 0 0) ⟨aH.next+9,aH.aT⟩=some aW:=by rw [←nU];exact By HC
 have iN:=p9.next
 have jf:aW.next=aH.next+9:=by rw [←nU];rfl
 have ze:Fr H ⟨aW.next+2,aW.aT⟩ d aF ⟨c'.u,c'.k,c'.I,d⟩:=HB (lD.trans (p9.trans s4))
 obtain⟨v,aa,aD,a',bQ⟩:=ZU H H1 aH aW d bs.length m U rb e' (fun v aa=>v=rb∧aa=⟨aW.next+2,aW.aT⟩) (by
  refine bB (Nat.le_refl _) (bB (by omega) (bB (by omega) ⟨oW rfl iX,bB (by omega) ⟨dG,bB (by omega) ⟨OQ HC,bB (by omega) ⟨oW rfl Z3,bB (by omega) ?_⟩⟩⟩⟩));refine rj (by omega) ?_
  exact⟨rfl,rfl⟩)
 subst a' bQ;have f':cm ⟨aW.next+2,aW.aT⟩ d ⟨c'.u,c'.k,c'.I,d⟩ (ej s bs).1 []:=nT g3;rcases gP with ⟨p,ae,bg⟩|⟨p,ae,R,mc,mm,bg,bO⟩
 ·exact⟨_,_,_,0,aD,f',ze,.inl ⟨p,ae⟩,fun h=>absurd ae h⟩
 ·have Z4:=(by obtain⟨bl,k2,_⟩:=g2;exact k2.lt:d<aH.next∧c'.u<aH.next∧c'.k<aH.next∧c'.I<aH.next∧c'.U<aH.next)
  have eT:(⟨aW.next+2,aW.aT⟩:j).get c'.U=some (ct ((ej s bs).2.map di) 6 R mc mm ju):=by rw [←bO];show aW.get c'.U=aH.get c'.U;rw [←nU,j.e1 _ _ (Ne.symm p)];rfl
  have iE:lE c'.U d ⟨c'.u,c'.k,c'.I,d⟩:=by
   obtain⟨bl,k2,_⟩:=g2;obtain⟨FB,ib,FC,FD,dT,eg,ei,gY⟩:=k2.ex;obtain⟨bx,bt,bk,bz,aE,hu⟩:=k2.ig;refine⟨p,fun h=> ?_,fun h=> ?_,fun h=> ?_,p⟩
   ·have h:c'.U=c'.u:=h;rw [h,hu]at bO;simp [J.made]at bO
   ·have h:c'.U=c'.k:=h;cases bl with
    |nil=>exact p (by rw [h];exact eg.2.2)
    |one=>have:=eg.2.2.1;rw [←h,bO]at this;simp [J.made]at this
    |grown dN=>obtain⟨_,_,_,_,_,this⟩:=eg;rw [←h,bO]at this;simp at this
   ·have h:c'.U=c'.I:=h;rcases ei with ⟨_,_,ei⟩|⟨_,_,_,_,_,_,this⟩
    ·exact p (by rw [h];exact ei)
    ·rw [←h,bO]at this;simp at this
  refine⟨_,_,_,c'.U,aD,f',ze,.inr ⟨ae,by show c'.U<aW.next+2;omega,R,mc,mm,bg,eT⟩,fun _=>⟨iE,?_⟩⟩;have hid:c'.U=d∨c'.U=aF.u∨c'.U=aF.k∨c'.U=aF.I∨c'.U=d∨H1.next≤c'.U:=p9.ids c'.U (.inr (.inr (.inr rfl)))
  omega
theorem Z5(ab:o→j→Prop)(aY:ab (.ptr (some ⟨3,0,0,0,6⟩)) (j.au 17 [(3,(J.made ([.agg [.func (.func 30) [.ptr (some ⟨3,0,0,0,6⟩)] [],.slice none 0 0,.slice none 0 0,.bool false,.ptr (some ⟨7,0,0,0,5⟩),.slice none 0 0]]) 6 true (some (68,6)))),(7,J.made [.agg [.int .u8 0,.int .u8 0,.int .u8 0,.int .u8 0,.int .i64 0]] 5 true (some (97,5)))])) :
 ∃v p,aI Tryz.prog aw 14 [] (⟨0,.nil⟩) v p∧ab v p :=
 cf bU mixed gL (aq:=he 1000 .nil) (by kernel_rfl) aY
theorem Z6(f en c5 cS pm:Nat)(fs hd:Option bH)(cl:Bool)(ad:o)(bj K P O:J)(ax:Option (TypeId×Nat))(ab:o→j→Prop)(aY:(-9223372036854775808≤(c5:Int)+(en:Int)∧(c5:Int)+(en:Int)≤9223372036854775807)∧ab (.int .i64 ((c5:Int)+(en:Int))) (j.au 20 [(0,⟨[.agg [(eG f),.slice fs en cS,.slice hd c5 pm,.bool cl,.ptr (some ⟨1,0,0,0,5⟩),ad]],6,true,false,0,0,0,ax⟩),(1,bj),(2,K),(3,P),(4,O)])) :
 ∃v p,aI Tryz.prog aw 16 [.ptr (some ⟨0,0,0,0,6⟩)] (j.of [b1 0 f 1 (.slice fs en cS) (.slice hd c5 pm) cl ad ax,bj,K,P,O]) v p∧ab v p :=
 cf bU mixed gL (aq:=ah 3010 .nil) (by kernel_rfl) aY
theorem Z7(bE aL aQ bq:Int)(n:Nat)(an:Option (TypeId×Nat))(ab:o→j→Prop)(aY:((n:Int)=0→ab (.slice none 0 0) (j.au 12 [(0,⟨[.agg [.int .u8 bE,.int .u8 aL,.int .u8 aQ,.int .u8 bq,.int .i64 (n:Int)]],5,true,false,0,0,0,an⟩)]))∧(¬(n:Int)=0→ab (.slice (some ⟨15,0,0,0,1⟩) 1 1) (j.au 17 [(0,(hM bE aL aQ bq an)),(15,J.made [.int .i32 65533] 1 true)]))) :
 ∃v p,aI Tryz.prog aw 57 [.ptr (some ⟨0,0,0,0,5⟩)] (j.of [hb bE aL aQ bq n an]) v p∧ab v p :=
 cf bU mixed gL (aq:= .aN 1007 .nil .nil) (by kernel_rfl) aY
theorem OU(H:j):∃aR d aF,aI Tryz.prog aw 14 [] H (.ptr (some ⟨d,0,0,0,6⟩)) aR∧cm aR d aF ⟨.ground,[],[],[]⟩ []∧H.next≤d∧H.next≤aF.u∧aF.k=d∧aF.I=d∧aF.U=d∧H.next≤aR.next∧∀C,C<H.next→aR.get C=H.get C:=by
 obtain⟨v,p,aD,rfl,b2,Z8,aM⟩:=Z5 (fun v p=>v=.ptr (some ⟨3,0,0,0,6⟩)∧p.get 3=some (b1 3 (cD .ground) 7 (.slice none 0 0) (.slice none 0 0) false (.slice none 0 0) (some (68,6)))∧p.get 7=some (hb 0 0 0 0 0 (some (97,5)))∧p.next=17) ⟨rfl,rfl,rfl,rfl⟩;have Z9:aI Tryz.prog aw 14 [] (j.of []) (.ptr (some ⟨3,0,0,0,6⟩)) p:=aD;obtain⟨aR,hH,ky,eT,jr⟩:=Z9.place (by simp) (fun b av=>by cases av) trivial (H:=H) [] List.nodup_nil (fun C aX=>by cases aX) rfl (fun i b h=>by simp at h);have r:∀i,dH [] H.next i=H.next+i:=fun i=>by rw [mF (by simp)];simp
 have g3:=eT 3 _ b2;have g7:=eT 7 _ Z8;rw [r,(rc _ _ _ _ _ _).bc]at g7;rw [r]at g3
 have b':(b1 3 (cD .ground) 7 (.slice none 0 0) (.slice none 0 0) false (.slice none 0 0) (some (68,6))).bc (dH [] H.next)=b1 (H.next+3) (cD .ground) (H.next+7) (.slice none 0 0) (.slice none 0 0) false (.slice none 0 0) (some (68,6)):=by simp [J.bc,J.made,o.bc,o.gz,bH.bc,r]
 rw [b']at g3;have afj:aR.next=H.next+17:=by rw [ky,aM];simp
 refine⟨aR,H.next+3,⟨H.next+7,H.next+3,H.next+3,H.next+3⟩,?_,⟨.nil,⟨⟨_,_,_,_,g3,⟨rfl,rfl,rfl⟩,.inl ⟨rfl,rfl,rfl⟩,.inl ⟨rfl,rfl,rfl⟩⟩,⟨0,0,0,0,_,g7⟩,?_,.inl rfl⟩,trivial⟩,by omega,by show H.next≤H.next+7;omega,rfl,rfl,rfl,by omega,fun C aX=>jr C aX (by simp)⟩
 ·simpa [o.bc,bH.bc,r]using hH
 ·show H.next+3<aR.next∧H.next+7<aR.next∧H.next+3<aR.next∧H.next+3<aR.next∧H.next+3<aR.next
  omega
theorem HD{h:j}{d k:Nat}{v:o}{bl:fY}{l:Bytes}(ao:jb h d k v bl l):∃U,v=.slice U l.length l.length:=by
 cases bl with
 |nil=>obtain⟨rfl,rfl,_⟩:=ao;exact⟨none,rfl⟩
 |one=>obtain⟨_,rfl,_,rfl⟩:=ao;exact⟨_,rfl⟩
 |grown C=>obtain⟨_,_,_,_,rfl,_⟩:=ao;exact⟨_,rfl⟩
theorem Z'{h:j}{d k:Nat}{v:o}{l:Bytes}(ac:jc h d k v l):∃U,v=.slice U l.length l.length:=by
 rcases ac with ⟨rfl,rfl,_⟩|⟨_,_,_,_,_,rfl,_⟩
 ·exact⟨none,rfl⟩
 ·exact⟨_,rfl⟩
theorem OV{H:j}{d:Nat}{aF:cB}{s:bI}{es:List bw}(g:cm H d aF s es)(ao:s.kept.length<2^40)(ac:s.az.length<2^40):∃aR,aI Tryz.prog aw 16 [.ptr (some ⟨d,0,0,0,6⟩)] H (.int .i64 (held s:Nat)) aR∧∃aO,cm aR d aO s es∧Fr H aR d aF aO:=by
 obtain⟨bl,g,aq⟩:=g;refine g.lift (Q:=fun h d aF=>cm h d aF s es) (rest:=[]) (fun a aS=>by cases aS) (cT.int _ _) (fun aa aR r d aF be io cM q=>q.oL be io cM) ?_;intro aV ag ad an aE bx bt bk bz K P O aZ gs cQ;obtain⟨aaa,wS,ip,oN⟩:=aZ;obtain rfl:aaa=1:=cQ.1;obtain⟨gg,oV,iL⟩:=mQ gs;obtain⟨fs,rfl⟩:=HD gg;obtain⟨hd,rfl⟩:=Z' oV
 obtain⟨v,aa,aD,rfl,b',bu,bC,b2,cp,aM⟩:=Z6 (cD s.b8) s.kept.length s.az.length s.kept.length s.az.length fs hd (decide (s.b8=.cC)) ad (ch s.hold bx bt bk bz aE) K P O an (fun v aa=>v=.int .i64 (held s:Nat)∧aa.get 0=some (b1 0 (cD s.b8) 1 (.slice fs s.kept.length s.kept.length) (.slice hd s.az.length s.az.length) (decide (s.b8=.cC)) ad an)∧aa.get 1=some (ch s.hold bx bt bk bz aE)∧aa.get 2=some K∧aa.get 3=some P∧aa.get 4=some O∧aa.next=20)
  ⟨⟨by omega,by omega⟩,by unfold held;rw [show((s.az.length+s.kept.length:Nat):Int)=(s.az.length:Int)+(s.kept.length:Int)by omega],rfl,rfl,rfl,rfl,rfl,rfl⟩
 refine⟨aa,aD,⟨1,wS,ip,oN⟩,⟨bl,⟨⟨_,_,_,_,b',?_,?_,?_⟩,⟨bx,bt,bk,bz,aE,bu⟩,?_,gs.ne⟩,aq⟩,⟨by show 5≤aa.next;omega,?_,fun x af=> ?_⟩⟩
 ·exact gg.cN fun aM=>by
   rcases cQ.2.1 with h|h
   ·exact absurd h aM
   ·simp only at h;subst h;rw [bC,j.eX];rfl
 ·exact oV.cN fun aM=>by
   rcases cQ.2.2.1 with h|h
   ·exact absurd h aM
   ·simp only at h;subst h;rw [b2,j.eX];rfl
 ·exact iL.cN fun aM=>by
   rcases cQ.2.2.2 with h|h
   ·exact absurd h aM
   ·simp only at h;subst h;rw [cp,j.eX];rfl
 ·have ae:=cQ.2.1;have bg:=cQ.2.2.1;have bO:=cQ.2.2.2;simp only at ae bg bO;show 0<aa.next∧1<aa.next∧wS<aa.next∧ip<aa.next∧oN<aa.next
  omega
 ·intro C aX a1 aP fi iD hn;have aX:C<5:=aX;have aP:C≠1:=aP;have:C=2∨C=3∨C=4:=by omega
  rw [j.eX];rcases this with rfl|rfl|rfl
  ·rw [bC];rfl
  ·rw [b2];rfl
  ·rw [cp];rfl
 ·have af:x=1∨x=wS∨x=ip∨x=oN:=af;show x=0∨x=1∨x=wS∨x=ip∨x=oN∨5≤x;omega
theorem aab{f:FuncId}{args:List o}{h aa:j}{v:o}(k:aI Tryz.prog aw f args h v aa):aI Tryz.prog aw f args h .undef aa:=by intro bd bo dl fK ak w dD ep c1 eA;obtain⟨a,b⟩:=k bd bo dl fK ak w dD ep c1 eA;exact⟨a,b.mono fun e bA ⟨bp,bM,dK,dL,gd,mB,pM,ux⟩=>⟨bp,bM,dK,dL,by simp only [aK],mB,pM,ux⟩⟩
structure aac(h:j)(a:bH):Prop where
 at':a=⟨a.id,0,0,0,5⟩
 lt:a.id<h.next
 ex:∃hold bx bt bk bz an,h.get a.id=some (ch hold bx bt bk bz an)
structure aad(h:j)(a:bH)(aa:j):Prop where
 all:∀hold bx bt bk bz an,h.get a.id=some (ch hold bx bt bk bz an)→ ∃i0 i1 i2 i3,aa.get a.id=some (ch [] i0 i1 i2 i3 an)
 get:∀C,C<h.next→C≠a.id→aa.get C=h.get C
 next:h.next≤aa.next
def HE:List o→j→Option ev:=fun args h=>match args with
 |[.ptr (some a)]=>some (.some .undef [aac h a] (aad h a))
 |_=>none
theorem OW{H:j}{u:Nat}{hold:Bytes}{bx bt bk bz:Int}{an:Option (TypeId×Nat)}(hu:u<H.next)(ah:H.get u=some (ch hold bx bt bk bz an)):∃aR i0 i1 i2 i3,aI Tryz.prog aw 57 [.ptr (some ⟨u,0,0,0,5⟩)] H .undef aR∧aR.get u=some (ch [] i0 i1 i2 i3 an)∧(∀C,C<H.next→C≠u→aR.get C=H.get C)∧H.next≤aR.next:=by
 obtain⟨v,p,aD,iJ,kc⟩:=Z7 (ca hold 0 bx) (ca hold 1 bt) (ca hold 2 bk) (ca hold 3 bz) hold.length an (fun v p=>p.get 0=some (hb (ca hold 0 bx) (ca hold 1 bt) (ca hold 2 bk) (ca hold 3 bz) 0 an)∧1≤p.next) ⟨fun h=>⟨by rw [h];rfl,by show 1≤12;decide⟩,fun _=>⟨rfl,by show 1≤17;decide⟩⟩
 obtain⟨aR,hH,ky,eT,jr⟩:=aD.place kc (fun b av=>by rw [List.mem_singleton.1 av];exact(rc _ _ _ _ _ _).e2 _) (by exact⟨by show 0<1;decide,trivial⟩) (H:=H) [u] (by simp) (fun C aX=>by rw [List.mem_singleton.1 aX];exact hu) rfl (fun i b h=>by
  have al:i=0:=by have:=(List.getElem?_eq_some_iff.1 h).1;simpa using this
  subst al;simp only [List.getElem?_cons_zero,Option.some.injEq]at h;subst h;rw [(rc _ _ _ _ _ _).bc]
  exact ah)
 refine⟨aR,ca hold 0 bx,ca hold 1 bt,ca hold 2 bk,ca hold 3 bz,?_,?_,fun C aX bZ=>jr C aX (by simpa using bZ),by omega⟩
 ·have:=aab hH;simpa [o.bc,bH.bc,dH]using this
 ·have:=eT 0 _ iJ;rw [(rc _ _ _ _ _ _).bc]at this;exact this
theorem aae{h ae:Bytes}{bx bt bk bz i0 i1 i2 i3:Int}{an mN:Option (TypeId×Nat)}(e:ch h bx bt bk bz an=ch ae i0 i1 i2 i3 mN):an=mN:=by simp only [J.made,J.mk.injEq]at e;exact e.2.2.2.2.2.2.2
theorem aaf:∀args h a,HE args h=some a→a.dr Tryz.prog aw 57 args h:=by
 intro args h a e;unfold HE at e;split at e<;>first|(cases e;done)|skip
 rename_i a;simp only [Option.some.injEq]at e;subst e;intro ac;obtain⟨hold,bx,bt,bk,bz,an,ah⟩:=ac.head.ex;obtain⟨aR,i0,i1,i2,i3,aD,g1,g2,g3⟩:=OW ac.head.lt ah;rw [←ac.head.at']at aD;refine⟨aR,aD,⟨fun AA bE aL aQ bq mN jt=> ?_,g2,g3⟩⟩;rw [ah]at jt;have:=aae (Option.some.inj jt);subst this;exact⟨i0,i1,i2,i3,g1⟩
noncomputable def aag:e9:=AD.add 57 HE
theorem p':eP Tryz.prog aw aag:=wT.add aaf
theorem aah(H:j)(d:Nat)(ab:o→j→Prop)(aY:bF (H.next) (H.next) (bF (H.next) (H.next+1) (cj env.D 4 ⟨d,0,0,3,6⟩ (j.mk (H.next+17) (H.2))=some (o.bool true)∧bF (H.next) (H.next+17) (bN (H.next) (H.next+18) (ab (.slice none 0 0) (j.mk (H.next+17+1) (j.aT (j.mk (H.next+1+16) (j.aT (j.mk (H.next+1) (j.aT H))))))))))) :
 ∃v p,aI Tryz.prog aw 27 [.ptr (some ⟨d,0,0,0,6⟩)] H v p∧ab v p :=
 cf bU mixed p' (aq:= .aA (.val 1006 (.bool true)) .nil) (by kernel_rfl) aY
theorem aai(H:j)(d:Nat)(fs:Option bH)(ab:o→j→Prop)(aY:bF (H.next) (H.next) (bF (H.next) (H.next+1) (cj env.D 4 ⟨d,0,0,3,6⟩ (j.mk (H.next+17) (H.2))=some (o.bool false)∧cj env.D 34 ⟨d,0,0,1,6⟩ (j.mk (H.next+17) (H.2))=some (o.slice fs 0 0)∧bF (H.next) (H.next+17) (bN (H.next) (H.next+18) (ab (.slice none 0 0) (j.mk (H.next+17+1) (j.aT (j.mk (H.next+1+16) (j.aT (j.mk (H.next+1) (j.aT H))))))))))) :
 ∃v p,aI Tryz.prog aw 27 [.ptr (some ⟨d,0,0,0,6⟩)] H v p∧ab v p :=
 cf bU mixed p' (aq:= .aA (.val 1006 (.bool false)) (.aA (.val 1012 (.slice fs 0 0)) .nil)) (by kernel_rfl) aY
abbrev xZ(bV:j):j:=(j.mk (bV.next+2) (j.aT bV))
abbrev BA(bV:j)(x:Nat)(ad:o):dh:=(.aA (.val 13003 ad) (.aA (.act 14003 (.tuple []) fun x=>bV) .nil))
abbrev uW(t:Bytes):o:=o.agg [.int .i8 7,.int .i32 0,.int .u8 0,.int .i64 0,.int .i64 0,.str t]
abbrev BB(x:Nat):o:=o.agg [.int .i8 1,.int .i32 (x:Int),.int .u8 2,.int .i64 0,.int .i64 0,.str []]
theorem BC(H H1 aH aW bV:j)(d u en x:Nat)(fs s5:Option bH)(t:Bytes)(ad:o)(ab:o→j→Prop)(aY:bF (H.next) (H.next) (bF (H.next) (H.next+1) (cj env.D 4 ⟨d,0,0,3,6⟩ (j.mk (H.next+17) (H.2))=some (o.bool false)∧cj env.D 34 ⟨d,0,0,1,6⟩ (j.mk (H.next+17) (H.2))=some (o.slice fs (en+1) (en+1))∧bF (H.next) (H.next+17) (bX env eM (H.next+20) (bR [(23,.ptr (some ⟨d,0,0,5,6⟩)),(22,.ptr (some ⟨d,0,0,0,6⟩)),(21,.ptr (some ⟨d,0,0,0,6⟩)),(20,.bool false),(19,.bool false),(18,.int .i64 (↑(en+1):Int)),(17,.slice fs (en+1) (en+1)),(16,.ptr (some ⟨d,0,0,1,6⟩)),(15,.ptr (some ⟨d,0,0,0,6⟩)),(14,.ptr (some ⟨d,0,0,0,6⟩)),(13,.bool false),(12,.bool false),(11,.bool false),(10,.ptr (some ⟨d,0,0,3,6⟩)),(9,.ptr (some ⟨d,0,0,0,6⟩)),(8,.ptr (some ⟨d,0,0,0,6⟩)),(7,.bool false),(6,.bool false),(5,.ptr (some ⟨d,0,0,0,6⟩)),(2,.slice none 0 0),(0,.ptr (some ⟨d,0,0,0,6⟩))]) (j.mk (H.next+21) (H.2)) (Op.store 56 (Operand.tmp 23) (Operand.const (Value.slice none 0 0)))=some (o.tuple [],H1)∧bF (H.next) (H1.next) (cj env.D 64 ⟨d,0,0,4,6⟩ (j.mk (H1.next+5) (H1.2))=some (o.ptr (some ⟨u,0,0,0,5⟩))∧cW Tryz.prog aw 57 [.ptr (some ⟨u,0,0,0,5⟩)] (j.mk (H1.next+5) (H1.2)) o.undef aH∧bF (H.next) (aH.next) (cj env.D 34 ⟨d,0,0,1,6⟩ (j.mk (aH.next+6) (aH.2))=some (o.slice s5 (en+1) (en+1))∧eB env (aH.next+4) (bR [(32,.slice s5 (en+1) (en+1)),(31,.ptr (some ⟨d,0,0,1,6⟩)),(30,.ptr (some ⟨d,0,0,0,6⟩)),(29,.ptr (some ⟨d,0,0,0,6⟩)),(28,o.undef),(27,.ptr (some ⟨u,0,0,0,5⟩)),(26,.ptr (some ⟨d,0,0,4,6⟩)),(25,.ptr (some ⟨d,0,0,0,6⟩)),(24,.ptr (some ⟨d,0,0,0,6⟩)),(23,.ptr (some ⟨d,0,0,5,6⟩)),(22,.ptr (some ⟨d,0,0,0,6⟩)),(21,.ptr (some ⟨d,0,0,0,6⟩)),(20,.bool false),(19,.bool false),(18,.int .i64 (↑(en+1):Int)),(17,.slice fs (en+1) (en+1)),(16,.ptr (some ⟨d,0,0,1,6⟩)),(15,.ptr (some ⟨d,0,0,0,6⟩)),(14,.ptr (some ⟨d,0,0,0,6⟩)),(13,.bool false),(12,.bool false),(11,.bool false),(10,.ptr (some ⟨d,0,0,3,6⟩)),(9,.ptr (some ⟨d,0,0,0,6⟩)),(8,.ptr (some ⟨d,0,0,0,6⟩)),(7,.bool false),(6,.bool false),(5,.ptr (some ⟨d,0,0,0,6⟩)),(2,.slice none 0 0),(0,.ptr (some ⟨d,0,0,0,6⟩))]) (j.mk (aH.next+6) (aH.2)) (Op.convert 34 9 (Operand.tmp 32))=some (o.str t,(j.mk (aH.next+6) (aH.2)))∧bF (H.next) (aH.next+6) (bF (H.next) (aH.next+7) ((t=[(27:UInt8)]→bF (H.next) (aH.next+9) (cW Tryz.prog aw 58 [.ptr (some ⟨d,0,0,0,6⟩),rn] (j.mk (aH.next+12) (aH.2)) (.tuple []) aW∧bF (H.next) (aW.next) (cj env.D 56 ⟨d,0,0,5,6⟩ (j.mk (aW.next+5) (aW.2))=some ad∧bF (H.next) (aW.next+5) (bX env eM (aW.next+8) (bR [(59,.ptr (some ⟨d,0,0,5,6⟩)),(58,.ptr (some ⟨d,0,0,0,6⟩)),(57,.ptr (some ⟨d,0,0,0,6⟩)),(4,ad),(56,ad),(55,.ptr (some ⟨d,0,0,5,6⟩)),(54,.ptr (some ⟨d,0,0,0,6⟩)),(53,.ptr (some ⟨d,0,0,0,6⟩)),(43,.tuple []),(42,rn),(41,.ptr (some ⟨d,0,0,0,6⟩)),(39,.bool true),(40,.bool true),(34,.str t),(3,.str t),(33,.str t),(32,.slice s5 (en+1) (en+1)),(31,.ptr (some ⟨d,0,0,1,6⟩)),(30,.ptr (some ⟨d,0,0,0,6⟩)),(29,.ptr (some ⟨d,0,0,0,6⟩)),(28,o.undef),(27,.ptr (some ⟨u,0,0,0,5⟩)),(26,.ptr (some ⟨d,0,0,4,6⟩)),(25,.ptr (some ⟨d,0,0,0,6⟩)),(24,.ptr (some ⟨d,0,0,0,6⟩)),(23,.ptr (some ⟨d,0,0,5,6⟩)),(22,.ptr (some ⟨d,0,0,0,6⟩)),(21,.ptr (some ⟨d,0,0,0,6⟩)),(20,.bool false),(19,.bool false),(18,.int .i64 (↑(en+1):Int)),(17,.slice fs (en+1) (en+1)),(16,.ptr (some ⟨d,0,0,1,6⟩)),(15,.ptr (some ⟨d,0,0,0,6⟩)),(14,.ptr (some ⟨d,0,0,0,6⟩)),(13,.bool false),(12,.bool false),(11,.bool false),(10,.ptr (some ⟨d,0,0,3,6⟩)),(9,.ptr (some ⟨d,0,0,0,6⟩)),(8,.ptr (some ⟨d,0,0,0,6⟩)),(7,.bool false),(6,.bool false),(5,.ptr (some ⟨d,0,0,0,6⟩)),(2,.slice none 0 0),(0,.ptr (some ⟨d,0,0,0,6⟩))]) (j.mk (aW.next+9) (aW.2)) (Op.store 56 (Operand.tmp 59) (Operand.const (Value.slice none 0 0)))=some (o.tuple [],bV)∧bF (H.next) (bV.next) (bN (H.next) (bV.next+2) (ab ad (xZ bV)))))))∧(¬t=[(27:UInt8)]→bF (H.next) (aH.next+9) ((t=[(27:UInt8),(91:UInt8)]→bF (H.next) (aH.next+11) (n7 env.D 9 (.str t) (.int .i64 1)=some (.int .u8 (x:Int))∧(-2147483648≤(x:Int)∧(x:Int)≤2147483647)∧cW Tryz.prog aw 58 [.ptr (some ⟨d,0,0,0,6⟩),(BB x)] (j.mk (aH.next+17) (aH.2)) (.tuple []) aW∧bF (H.next) (aW.next) (cj env.D 56 ⟨d,0,0,5,6⟩ (j.mk (aW.next+5) (aW.2))=some ad∧bF (H.next) (aW.next+5) (bX env eM (aW.next+8) (bR [(59,.ptr (some ⟨d,0,0,5,6⟩)),(58,.ptr (some ⟨d,0,0,0,6⟩)),(57,.ptr (some ⟨d,0,0,0,6⟩)),(4,ad),(56,ad),(55,.ptr (some ⟨d,0,0,5,6⟩)),(54,.ptr (some ⟨d,0,0,0,6⟩)),(53,.ptr (some ⟨d,0,0,0,6⟩)),(52,.tuple []),(51,(BB x)),(50,.int .i32 (x:Int)),(49,.int .u8 (x:Int)),(48,.str t),(47,.ptr (some ⟨d,0,0,0,6⟩)),(44,.bool true),(45,.bool true),(39,.bool false),(40,.bool false),(34,.str t),(3,.str t),(33,.str t),(32,.slice s5 (en+1) (en+1)),(31,.ptr (some ⟨d,0,0,1,6⟩)),(30,.ptr (some ⟨d,0,0,0,6⟩)),(29,.ptr (some ⟨d,0,0,0,6⟩)),(28,o.undef),(27,.ptr (some ⟨u,0,0,0,5⟩)),(26,.ptr (some ⟨d,0,0,4,6⟩)),(25,.ptr (some ⟨d,0,0,0,6⟩)),(24,.ptr (some ⟨d,0,0,0,6⟩)),(23,.ptr (some ⟨d,0,0,5,6⟩)),(22,.ptr (some ⟨d,0,0,0,6⟩)),(21,.ptr (some ⟨d,0,0,0,6⟩)),(20,.bool false),(19,.bool false),(18,.int .i64 (↑(en+1):Int)),(17,.slice fs (en+1) (en+1)),(16,.ptr (some ⟨d,0,0,1,6⟩)),(15,.ptr (some ⟨d,0,0,0,6⟩)),(14,.ptr (some ⟨d,0,0,0,6⟩)),(13,.bool false),(12,.bool false),(11,.bool false),(10,.ptr (some ⟨d,0,0,3,6⟩)),(9,.ptr (some ⟨d,0,0,0,6⟩)),(8,.ptr (some ⟨d,0,0,0,6⟩)),(7,.bool false),(6,.bool false),(5,.ptr (some ⟨d,0,0,0,6⟩)),(2,.slice none 0 0),(0,.ptr (some ⟨d,0,0,0,6⟩))]) (j.mk (aW.next+9) (aW.2)) (Op.store 56 (Operand.tmp 59) (Operand.const (Value.slice none 0 0)))=some (o.tuple [],bV)∧bF (H.next) (bV.next) (bN (H.next) (bV.next+2) (ab ad (xZ bV)))))))∧(¬t=[(27:UInt8),(91:UInt8)]→bF (H.next) (aH.next+11) ((t=[(27:UInt8),(79:UInt8)]→bF (H.next) (aH.next+13) (n7 env.D 9 (.str t) (.int .i64 1)=some (.int .u8 (x:Int))∧(-2147483648≤(x:Int)∧(x:Int)≤2147483647)∧cW Tryz.prog aw 58 [.ptr (some ⟨d,0,0,0,6⟩),(BB x)] (j.mk (aH.next+19) (aH.2)) (.tuple []) aW∧bF (H.next) (aW.next) (cj env.D 56 ⟨d,0,0,5,6⟩ (j.mk (aW.next+5) (aW.2))=some ad∧bF (H.next) (aW.next+5) (bX env eM (aW.next+8) (bR [(59,.ptr (some ⟨d,0,0,5,6⟩)),(58,.ptr (some ⟨d,0,0,0,6⟩)),(57,.ptr (some ⟨d,0,0,0,6⟩)),(4,ad),(56,ad),(55,.ptr (some ⟨d,0,0,5,6⟩)),(54,.ptr (some ⟨d,0,0,0,6⟩)),(53,.ptr (some ⟨d,0,0,0,6⟩)),(52,.tuple []),(51,(BB x)),(50,.int .i32 (x:Int)),(49,.int .u8 (x:Int)),(48,.str t),(47,.ptr (some ⟨d,0,0,0,6⟩)),(44,.bool true),(46,.bool true),(45,.bool false),(39,.bool false),(40,.bool false),(34,.str t),(3,.str t),(33,.str t),(32,.slice s5 (en+1) (en+1)),(31,.ptr (some ⟨d,0,0,1,6⟩)),(30,.ptr (some ⟨d,0,0,0,6⟩)),(29,.ptr (some ⟨d,0,0,0,6⟩)),(28,o.undef),(27,.ptr (some ⟨u,0,0,0,5⟩)),(26,.ptr (some ⟨d,0,0,4,6⟩)),(25,.ptr (some ⟨d,0,0,0,6⟩)),(24,.ptr (some ⟨d,0,0,0,6⟩)),(23,.ptr (some ⟨d,0,0,5,6⟩)),(22,.ptr (some ⟨d,0,0,0,6⟩)),(21,.ptr (some ⟨d,0,0,0,6⟩)),(20,.bool false),(19,.bool false),(18,.int .i64 (↑(en+1):Int)),(17,.slice fs (en+1) (en+1)),(16,.ptr (some ⟨d,0,0,1,6⟩)),(15,.ptr (some ⟨d,0,0,0,6⟩)),(14,.ptr (some ⟨d,0,0,0,6⟩)),(13,.bool false),(12,.bool false),(11,.bool false),(10,.ptr (some ⟨d,0,0,3,6⟩)),(9,.ptr (some ⟨d,0,0,0,6⟩)),(8,.ptr (some ⟨d,0,0,0,6⟩)),(7,.bool false),(6,.bool false),(5,.ptr (some ⟨d,0,0,0,6⟩)),(2,.slice none 0 0),(0,.ptr (some ⟨d,0,0,0,6⟩))]) (j.mk (aW.next+9) (aW.2)) (Op.store 56 (Operand.tmp 59) (Operand.const (Value.slice none 0 0)))=some (o.tuple [],bV)∧bF (H.next) (bV.next) (bN (H.next) (bV.next+2) (ab ad (xZ bV)))))))∧(¬t=[(27:UInt8),(79:UInt8)]→bF (H.next) (aH.next+13) (cW Tryz.prog aw 58 [.ptr (some ⟨d,0,0,0,6⟩),(uW t)] (j.mk (aH.next+17) (aH.2)) (.tuple []) aW∧bF (H.next) (aW.next) (cj env.D 56 ⟨d,0,0,5,6⟩ (j.mk (aW.next+5) (aW.2))=some ad∧bF (H.next) (aW.next+5) (bX env eM (aW.next+8) (bR [(59,.ptr (some ⟨d,0,0,5,6⟩)),(58,.ptr (some ⟨d,0,0,0,6⟩)),(57,.ptr (some ⟨d,0,0,0,6⟩)),(4,ad),(56,ad),(55,.ptr (some ⟨d,0,0,5,6⟩)),(54,.ptr (some ⟨d,0,0,0,6⟩)),(53,.ptr (some ⟨d,0,0,0,6⟩)),(38,.tuple []),(37,(uW t)),(36,.str t),(35,.ptr (some ⟨d,0,0,0,6⟩)),(44,.bool false),(46,.bool false),(45,.bool false),(39,.bool false),(40,.bool false),(34,.str t),(3,.str t),(33,.str t),(32,.slice s5 (en+1) (en+1)),(31,.ptr (some ⟨d,0,0,1,6⟩)),(30,.ptr (some ⟨d,0,0,0,6⟩)),(29,.ptr (some ⟨d,0,0,0,6⟩)),(28,o.undef),(27,.ptr (some ⟨u,0,0,0,5⟩)),(26,.ptr (some ⟨d,0,0,4,6⟩)),(25,.ptr (some ⟨d,0,0,0,6⟩)),(24,.ptr (some ⟨d,0,0,0,6⟩)),(23,.ptr (some ⟨d,0,0,5,6⟩)),(22,.ptr (some ⟨d,0,0,0,6⟩)),(21,.ptr (some ⟨d,0,0,0,6⟩)),(20,.bool false),(19,.bool false),(18,.int .i64 (↑(en+1):Int)),(17,.slice fs (en+1) (en+1)),(16,.ptr (some ⟨d,0,0,1,6⟩)),(15,.ptr (some ⟨d,0,0,0,6⟩)),(14,.ptr (some ⟨d,0,0,0,6⟩)),(13,.bool false),(12,.bool false),(11,.bool false),(10,.ptr (some ⟨d,0,0,3,6⟩)),(9,.ptr (some ⟨d,0,0,0,6⟩)),(8,.ptr (some ⟨d,0,0,0,6⟩)),(7,.bool false),(6,.bool false),(5,.ptr (some ⟨d,0,0,0,6⟩)),(2,.slice none 0 0),(0,.ptr (some ⟨d,0,0,0,6⟩))]) (j.mk (aW.next+9) (aW.2)) (Op.store 56 (Operand.tmp 59) (Operand.const (Value.slice none 0 0)))=some (o.tuple [],bV)∧bF (H.next) (bV.next) (bN (H.next) (bV.next+2) (ab ad (xZ bV))))))))))))))))))) :
 ∃v p,aI Tryz.prog aw 27 [.ptr (some ⟨d,0,0,0,6⟩)] H v p∧ab v p :=
 cf bU mixed p' (aq:= .aA (.val 1006 (.bool false)) (.aA (.val 1012 (.slice fs (en+1) (en+1))) (.aA (.act 3003 (.tuple []) fun x=>H1) (.aA (.val 4003 (.ptr (some ⟨u,0,0,0,5⟩))) (.aA (.act 4004 o.undef fun x=>aH) (.aA (.val 5003 (.slice s5 (en+1) (en+1))) (.aA (.kt 5004 (.str t) fun h=>h) (.aN 8000 (.aA (.act 9002 (.tuple []) fun x=>aW) (BA bV x ad)) (.aN 10000 (.aA (.val 12002 (.int .u8 (x:Int))) (ah 12003 (.aA (.act 12005 (.tuple []) fun x=>aW) (BA bV x ad)))) (.aN 11000 (.aA (.val 12002 (.int .u8 (x:Int))) (ah 12003 (.aA (.act 12005 (.tuple []) fun x=>aW) (BA bV x ad)))) (.aA (.act 7003 (.tuple []) fun x=>aW) (BA bV x ad)))))))))))) (by kernel_rfl) aY
theorem OX{h:j}{d f u:Nat}{aV ag ad:o}{cl:Bool}{an:Option (TypeId×Nat)}(e:h.get d=some (b1 d f u aV ag cl ad an)):cj (b4.D env) 4 ⟨d,0,0,3,6⟩ h=some (.bool cl):=by
 have b5:(b4.D env 4).map (fun d=>d.kind.isAgg)=some false:=by kernel_rfl
 obtain⟨x,p,ae⟩:=Option.map_eq_some_iff.1 b5;unfold cj;rw [p,e];simp [J.elem?,J.cE,iR,ae,J.made]
theorem OY{h:j}{d f u:Nat}{aV ag ad:o}{cl:Bool}{an:Option (TypeId×Nat)}(e:h.get d=some (b1 d f u aV ag cl ad an)):cj (b4.D env) 34 ⟨d,0,0,1,6⟩ h=some aV:=by
 have b5:(b4.D env 34).map (fun d=>d.kind.isAgg)=some false:=by kernel_rfl
 obtain⟨x,p,ae⟩:=Option.map_eq_some_iff.1 b5;unfold cj;rw [p,e];simp [J.elem?,J.cE,iR,ae,J.made]
theorem aaj{h:j}{d f u:Nat}{aV ag ad:o}{cl:Bool}{an:Option (TypeId×Nat)}(e:h.get d=some (b1 d f u aV ag cl ad an)):cj (b4.D env) 64 ⟨d,0,0,4,6⟩ h=some (.ptr (some ⟨u,0,0,0,5⟩)):=by
 have b5:(b4.D env 64).map (fun d=>d.kind.isAgg)=some false:=by kernel_rfl
 obtain⟨x,p,ae⟩:=Option.map_eq_some_iff.1 b5;unfold cj;rw [p,e];simp [J.elem?,J.cE,iR,ae,J.made]
theorem aak{H:j}{d k:Nat}{v:o}{bl:fY}{l:Bytes}(ao:jb H d k v bl l)(bZ:l≠[]):∃a,v=.slice (some a) l.length l.length∧eW 1 (.slice (some a) l.length l.length) H=some (aJ l):=by
 cases bl with
 |nil=>exact absurd ao.2.1 bZ
 |one =>
  obtain⟨_,rfl,ah,rfl⟩:=ao;refine⟨_,rfl,?_⟩;simp only [eW,if_true,ah];rfl
 |grown C =>
  obtain⟨_,R,m,f,rfl,ah⟩:=ao;refine⟨_,rfl,?_⟩;have aM:l.length≠0:=fun h=>bZ (List.length_eq_zero_iff.1 h)
  simp only [eW,if_true,ah];rw [if_neg aM,if_pos ⟨by simp [J.cE,aJ],by simp [aJ]⟩];simp only [aJ,List.map_append];rw [List.drop_left' (by simp),List.take_of_length_le (by simp)]
theorem BD{F:bT}{bh k n c:Nat}{H:j}{a:bH}{l:Bytes}(a6:bR F (.tmp k)=.slice (some a) n c)(fC:eW 1 (.slice (some a) n c) H=some (aJ l)):eB env bh (bR F) H (Op.convert 34 9 (Operand.tmp k))=some (.str l,H):=by
 have p:(b4.D env 34).map (fun d=>d.kind)=some (.slice 5):=by kernel_rfl
 have ae:(b4.D env 9).map (fun d=>d.kind)=some .string:=by kernel_rfl
 have bg:(b4.D env 5).map (fun d=>d.kind)=some (.int .u8):=by kernel_rfl
 obtain⟨ko,d1,aL⟩:=Option.map_eq_some_iff.1 p;obtain⟨qz,d2,aQ⟩:=Option.map_eq_some_iff.1 ae;obtain⟨ps,d3,bq⟩:=Option.map_eq_some_iff.1 bg;simp only [eB,a6,oa,d1,d2,aL,aQ,d3,bq,fC,zS,Option.map_some]
theorem aal{H aH:j}{d:Nat}{aF:cB}{f:Nat}{cl:Bool}{bl:fY}{kept hold az:Bytes}{es:List bw}{k:Nat}(g:dP H d aF f cl bl kept hold az es)(aD:aF.u≠d)(hu:∃i0 i1 i2 i3 an,aH.get aF.u=some (ch [] i0 i1 i2 i3 an))(ah:∀C,C<H.next+k→C≠aF.u→aH.get C=H.get C)(aM:H.next+k≤aH.next)(aam:aF.k≠d→aF.k≠aF.u)(aan:aF.I≠d→aF.I≠aF.u)(no:aF.U≠d→aF.U≠aF.u):dP aH d aF f cl bl kept [] az es:=by obtain⟨aV,ag,ad,an,e,ao,ac,ai⟩:=g.ex;have aB:=g.lt;refine⟨⟨aV,ag,ad,an,?_,ao.cN fun h=>ah _ (by omega) (aam h),ac.cN fun h=>ah _ (by omega) (aan h),ai.cN fun h=>ah _ (by omega) (no h)⟩,hu,by omega,g.ne⟩;rw [ah d (by omega) (Ne.symm aD)];exact e
theorem dP.apart{H:j}{d:Nat}{aF:cB}{f:Nat}{cl:Bool}{bl:fY}{kept hold az:Bytes}{es:List bw}(g:dP H d aF f cl bl kept hold az es):aF.u≠d∧(aF.k≠d→aF.k≠aF.u)∧(aF.I≠d→aF.I≠aF.u)∧(aF.U≠d→aF.U≠aF.u):=by
 obtain⟨aV,ag,ad,an,e,ao,ac,ai⟩:=g.ex;obtain⟨bx,bt,bk,bz,aE,hu⟩:=g.ig;refine⟨fun h=> ?_,fun p h=> ?_,fun p h=> ?_,fun p h=> ?_⟩
 ·rw [h,e]at hu;simp [J.made]at hu
 ·cases bl with
  |nil=>exact p ao.2.2
  |one=>have:=ao.2.2.1;rw [h,hu]at this;simp [J.made]at this
  |grown dN=>obtain⟨_,_,_,_,_,this⟩:=ao;rw [h,hu]at this;simp [J.made]at this
 ·rcases ac with ⟨_,_,ac⟩|⟨_,_,_,_,_,_,this⟩
  ·exact p ac
  ·rw [h,hu]at this;simp [J.made]at this
 ·rcases ai with ⟨_,_,ac⟩|⟨_,_,_,_,_,_,this⟩
  ·exact p ac
  ·rw [h,hu]at this;simp [J.made]at this
theorem dP.next{h:j}{d:Nat}{aF:cB}{f:Nat}{cl:Bool}{bl:fY}{kept hold az:Bytes}{es:List bw}{k:Nat}(g:dP h d aF f cl bl kept hold az es):dP ⟨h.next+k,h.aT⟩ d aF f cl bl kept hold az es:=by
 refine⟨g.ex,g.ig,?_,g.ne⟩;have:=g.lt;show d<h.next+k∧aF.u<h.next+k∧aF.k<h.next+k∧aF.I<h.next+k∧aF.U<h.next+k
 omega
structure x0(H:j)(d:Nat)(aF aO:cB)(U:Nat):Prop where
 off:lE U d aO
 of:U=aF.u∨U=aF.k∨U=aF.I∨U=aF.U∨H.next≤U
theorem aao{aH:j}{d:Nat}{c':cB}{s:bI}{es:List bw}{f2:Nat}{uz uA rb:o}{q':Bool}{mN:Option (TypeId×Nat)}{a b:Nat}(g2:cm aH d c' s es)(HC:aH.get d=some (b1 d f2 c'.u uz uA q' rb mN))(gP:jd aH d c'.U rb es) :
 ∀(aW:j),((⟨aH.next+a,aH.aT⟩:j).set d (b1 d f2 c'.u uz uA q' (.slice none 0 0) mN))=aW→m' ⟨aW.next+b,aW.aT⟩ rb es c'.U∧(es≠[]→lE c'.U d ⟨c'.u,c'.k,c'.I,d⟩):=by
 intro aW nU;have jf:aW.next=aH.next+a:=by rw [←nU];rfl
 rcases gP with ⟨p,ae,bg⟩|⟨p,ae,R,mc,mm,bg,bO⟩
 ·exact⟨.inl ⟨p,ae⟩,fun h=>absurd ae h⟩
 ·have Z4:=(by obtain⟨bl,k2,_⟩:=g2;exact k2.lt:d<aH.next∧c'.u<aH.next∧c'.k<aH.next∧c'.I<aH.next∧c'.U<aH.next)
  have eT:(⟨aW.next+b,aW.aT⟩:j).get c'.U=some (ct (es.map di) 6 R mc mm ju):=by rw [←bO];show aW.get c'.U=aH.get c'.U;rw [←nU,j.e1 _ _ (Ne.symm p)];rfl
  have iE:lE c'.U d ⟨c'.u,c'.k,c'.I,d⟩:=by
   obtain⟨bl,k2,_⟩:=g2;obtain⟨FB,ib,FC,FD,dT,eg,ei,gY⟩:=k2.ex;obtain⟨bx,bt,bk,bz,aE,hu⟩:=k2.ig;refine⟨p,fun h=> ?_,fun h=> ?_,fun h=> ?_,p⟩
   ·have h:c'.U=c'.u:=h;rw [h,hu]at bO;simp [J.made]at bO
   ·have h:c'.U=c'.k:=h;cases bl with
    |nil=>exact p (by rw [h];exact eg.2.2)
    |one=>have:=eg.2.2.1;rw [←h,bO]at this;simp [J.made]at this
    |grown dN=>obtain⟨_,_,_,_,_,this⟩:=eg;rw [←h,bO]at this;simp at this
   ·have h:c'.U=c'.I:=h;rcases ei with ⟨_,_,ei⟩|⟨_,_,_,_,_,_,this⟩
    ·exact p (by rw [h];exact ei)
    ·rw [←h,bO]at this;simp at this
  exact⟨.inr ⟨ae,by show c'.U<aW.next+b;omega,R,mc,mm,bg,eT⟩,fun _=>iE⟩
theorem OZ{H:j}{d:Nat}{aF:cB}{s:bI}(g:cm H d aF s [])(dY:Keys.Good s)(jC:s.kept.length<2^40) :
 ∃aR v aO eD,aI Tryz.prog aw 27 [.ptr (some ⟨d,0,0,0,6⟩)] H v aR∧cm aR d aO (flush s).1 []∧Fr H aR d aF aO∧m' aR v (flush s).2 eD∧((flush s).2≠[]→x0 H d aF aO eD):=by
 have O0:∀v aa,v=o.slice none 0 0∧aa=⟨H.next+18,H.aT⟩→flush s=(s,[])→aI Tryz.prog aw 27 [.ptr (some ⟨d,0,0,0,6⟩)] H v aa →
  ∃aR v aO eD,aI Tryz.prog aw 27 [.ptr (some ⟨d,0,0,0,6⟩)] H v aR∧cm aR d aO (flush s).1 []∧Fr H aR d aF aO∧m' aR v (flush s).2 eD∧((flush s).2≠[]→x0 H d aF aO eD):=by
  rintro v aa ⟨rfl,rfl⟩ a6 aD;refine⟨_,_,aF,0,aD,by rw [a6];exact nT g,⟨by show H.next≤H.next+18;omega,fun C _ _ _ _ _ _=>rfl,fun x af=>by omega⟩,.inl ⟨rfl,by rw [a6]⟩,fun h=>absurd (by rw [a6]) h⟩
 obtain⟨bl,k2,aq⟩:=id g;obtain⟨aV,ag,ad,an,e,ao,ac,ai⟩:=k2.ex;by_cases mO:s.b8=.cC
 ·have aB:=OX (h:=⟨H.next+17,H.aT⟩) e;rw [decide_eq_true mO]at aB;obtain⟨v,aa,aD,aC⟩:=aah H d (fun v aa=>v=o.slice none 0 0∧aa=⟨H.next+18,H.aT⟩) (bB (Nat.le_refl _) (bB (by omega) ⟨aB,bB (by omega) (rj (by omega) ⟨rfl,rfl⟩)⟩));exact O0 v aa aC (by unfold flush;rw [if_pos (.inl mO)]) aD
 have jG:=OX (h:=⟨H.next+17,H.aT⟩) e;rw [decide_eq_false mO]at jG;have kz:=OY (h:=⟨H.next+17,H.aT⟩) e;by_cases gw:s.kept=[]
 ·obtain⟨fs,a'⟩:=HD ao;rw [a',gw]at kz;obtain⟨v,aa,aD,aC⟩:=aai H d fs (fun v aa=>v=o.slice none 0 0∧aa=⟨H.next+18,H.aT⟩) (bB (Nat.le_refl _) (bB (by omega) ⟨jG,kz,bB (by omega) (rj (by omega) ⟨rfl,rfl⟩)⟩));exact O0 v aa aC (by unfold flush;rw [if_pos (.inr gw)]) aD
 obtain⟨en,kO⟩:∃en,s.kept.length=en+1:=⟨s.kept.length-1,by have:s.kept.length≠0:=fun h=>gw (List.length_eq_zero_iff.1 h);omega⟩
 obtain⟨f,wQ,lA,aap,AC,aaq,gW,afk,ms,hl⟩:=g.clear;obtain⟨g1,lD⟩:=hl 21;generalize xY:((⟨H.next+21,H.aT⟩:j).set d (b1 d f aF.u wQ lA aap (.slice none 0 0) aaq))=H1 at g1 lD;have iX:iA (b4.D env) 56 ⟨d,0,0,5,6⟩ (.slice none 0 0) ⟨H.next+21,H.aT⟩=some H1:=by rw [←xY];exact By gW
 have kc:H1.next=H.next+21:=by rw [←xY];rfl
 obtain⟨aar,x1,et⟩:=id g1;obtain⟨afl,jX,afm,afn,bu,gg,oV,iL⟩:=x1.ex;obtain⟨bx,bt,bk,bz,aE,aas⟩:=x1.ig;have BE:=x1.apart;have O1:=x1.lt;have rZ:=aaj (h:=⟨H1.next+5,H1.aT⟩) bu;obtain⟨aH,i0,i1,i2,i3,vE,aat,jt,iN⟩:=OW (H:=⟨H1.next+5,H1.aT⟩) (u:=aF.u) (by have:=O1.2.1;show aF.u<H1.next+5;exact Nat.lt_of_lt_of_le this (by omega)) aas;have iN:H1.next+5≤aH.next:=iN
 have HF:dP aH d ⟨aF.u,aF.k,aF.I,d⟩ (cD s.b8) (decide (s.b8=.cC)) aar s.kept [] s.az []:=aal x1 BE.1 ⟨_,_,_,_,_,aat⟩ jt iN BE.2.1 BE.2.2.1 BE.2.2.2;obtain⟨uz,uA,rb,mN,bC,cw,uB,gP⟩:=HF.ex;obtain⟨a,tv,fC⟩:=aak cw gw;have x2:=OY (h:=⟨aH.next+6,aH.aT⟩) bC;obtain⟨fs,a'⟩:=HD ao;rw [a',kO]at kz;rw [tv,kO]at x2;rw [kO]at fC;rw [decide_eq_false mO]at HF
 have tail:∀(m:Nat)(x:bw),∃aW bV v aO eD,aI Tryz.prog aw 58 [.ptr (some ⟨d,0,0,0,6⟩),di x] ⟨aH.next+m,aH.aT⟩ (.tuple []) aW∧H.next≤aW.next∧cj (b4.D env) 56 ⟨d,0,0,5,6⟩ ⟨aW.next+5,aW.aT⟩=some v∧iA (b4.D env) 56 ⟨d,0,0,5,6⟩ (.slice none 0 0) ⟨aW.next+9,aW.aT⟩=some bV∧H.next≤bV.next ∧
  cm ⟨bV.next+2,bV.aT⟩ d aO ⟨.ground,[],[],s.az⟩ []∧Fr H ⟨bV.next+2,bV.aT⟩ d aF aO∧m' ⟨bV.next+2,bV.aT⟩ v [x] eD∧x0 H d aF aO eD:=by
  intro m x;obtain⟨aW,aau,oX,aav,s4⟩:=Mu (HF.next (k:=m)) x (by simp);have g3:cm aW d oX ⟨.ground,[],[],s.az⟩ [x]:=⟨.nil,aav,trivial⟩
  have O2:=s4.next
  have O2:aH.next+m≤aW.next:=O2
  obtain⟨f3,aaw,aax,aay,aaz,aaA,HG,hv,afo,aaB⟩:=g3.clear;obtain⟨g4,x3⟩:=aaB 9;have out:=fun bV=>aao (a:=9) (b:=2) g3 HG hv bV
  generalize HH:((⟨aW.next+9,aW.aT⟩:j).set d (b1 d f3 oX.u aaw aax aay (.slice none 0 0) aaA))=bV at g4 x3;have aaC:iA (b4.D env) 56 ⟨d,0,0,5,6⟩ (.slice none 0 0) ⟨aW.next+9,aW.aT⟩=some bV:=by rw [←HH];exact By HG
  obtain⟨Mn,Fy⟩:=out bV HH;have aaD:bV.next=aW.next+9:=by rw [←HH];rfl
  have p9:Fr H1 ⟨aH.next+m,aH.aT⟩ d ⟨aF.u,aF.k,aF.I,d⟩ ⟨aF.u,aF.k,aF.I,d⟩:=by refine⟨by show H1.next≤aH.next+m;omega,fun C aX a1 aP fi iD hn=> ?_,fun y bY=>by omega⟩;exact jt C (by show C<H1.next+5;omega) aP
  have O3:=lD.trans (p9.trans s4);refine⟨aW,bV,aaz,⟨oX.u,oX.k,oX.I,d⟩,oX.U,aau,by omega,OQ HG,aaC,by omega,nT g4,HB (O3.trans x3),Mn,Fy (by simp),?_⟩;have:=O3.ids oX.U (.inr (.inr (.inr rfl)));have bZ:=(Fy (by simp)).d;omega
 have done:∀(x:bw)(bV:j)(v:o)(aO:cB)(eD:Nat),flush s=(⟨.ground,[],[],s.az⟩,[x])→aI Tryz.prog aw 27 [.ptr (some ⟨d,0,0,0,6⟩)] H v ⟨bV.next+2,bV.aT⟩→cm ⟨bV.next+2,bV.aT⟩ d aO ⟨.ground,[],[],s.az⟩ []→Fr H ⟨bV.next+2,bV.aT⟩ d aF aO→m' ⟨bV.next+2,bV.aT⟩ v [x] eD→x0 H d aF aO eD →
  ∃aR v aO eD,aI Tryz.prog aw 27 [.ptr (some ⟨d,0,0,0,6⟩)] H v aR∧cm aR d aO (flush s).1 []∧Fr H aR d aF aO∧m' aR v (flush s).2 eD∧((flush s).2≠[]→x0 H d aF aO eD):=by
  intro x bV v aO eD a6 aD dK dL gd mB;rw [a6];exact⟨_,v,aO,eD,aD,dK,dL,gd,fun _=>mB⟩
 have ga:∀{a b:Nat}{I:Prop},a≤b→I→_root_.cond (Nat.ble a b) I False:=fun h k=>by rw [Nat.ble_eq.mpr h];exact k
 by_cases dJ:s.kept=[27]
 ·obtain⟨aW,bV,v,aO,eD,t1,t2,t3,t4,t5,t6,t7,t8,t9⟩:=tail 12 (e4 4);obtain⟨v2,ae,aD,rfl,rfl⟩:=BC H H1 aH aW bV d aF.u en 0 fs (some a) s.kept v (fun v2 ae=>v2=v∧ae=⟨bV.next+2,bV.aT⟩) (bB (Nat.le_refl _) (bB (by omega) ⟨jG,kz,bB (by omega) ⟨oW rfl iX,bB (by omega) ⟨rZ,⟨vE⟩,bB (by omega) ⟨x2,BD rfl fC,bB (by omega) (bB (by omega) ⟨fun _=>bB (by omega) ⟨⟨t1⟩,bB t2 ⟨t3,bB (by omega) ⟨oW rfl t4,bB t5 (ga (by omega) ⟨rfl,rfl⟩)⟩⟩⟩,fun h=>absurd dJ h⟩)⟩⟩⟩⟩));exact done _ _ _ _ _ (by unfold flush;rw [if_neg (by simp [mO,gw]),if_pos dJ];rfl) aD t6 t7 t8 t9
 by_cases ef:s.kept=[27,91]
 ·obtain⟨aW,bV,v,aO,eD,t1,t2,t3,t4,t5,t6,t7,t8,t9⟩:=tail 17 (gk 91 2);obtain⟨v2,ae,aD,rfl,rfl⟩:=BC H H1 aH aW bV d aF.u en 91 fs (some a) s.kept v (fun v2 ae=>v2=v∧ae=⟨bV.next+2,bV.aT⟩) (bB (Nat.le_refl _) (bB (by omega) ⟨jG,kz,bB (by omega) ⟨oW rfl iX,bB (by omega) ⟨rZ,⟨vE⟩,bB (by omega) ⟨x2,BD rfl fC,bB (by omega) (bB (by omega) ⟨fun h=>absurd h dJ,fun _=>bB (by omega) ⟨fun _=>bB (by omega) ⟨by rw [ef];kernel_rfl,⟨by decide,by decide⟩,⟨t1⟩,bB t2 ⟨t3,bB (by omega) ⟨oW rfl t4,bB t5 (ga (by omega) ⟨rfl,rfl⟩)⟩⟩⟩,fun h=>absurd ef h⟩⟩)⟩⟩⟩⟩));exact done _ _ _ _ _ (by unfold flush;rw [if_neg (by simp [mO,gw]),if_neg dJ,if_pos (.inl ef),ef];rfl) aD t6 t7 t8 t9
 by_cases fR:s.kept=[27,79]
 ·obtain⟨aW,bV,v,aO,eD,t1,t2,t3,t4,t5,t6,t7,t8,t9⟩:=tail 19 (gk 79 2);obtain⟨v2,ae,aD,rfl,rfl⟩:=BC H H1 aH aW bV d aF.u en 79 fs (some a) s.kept v (fun v2 ae=>v2=v∧ae=⟨bV.next+2,bV.aT⟩) (bB (Nat.le_refl _) (bB (by omega) ⟨jG,kz,bB (by omega) ⟨oW rfl iX,bB (by omega) ⟨rZ,⟨vE⟩,bB (by omega) ⟨x2,BD rfl fC,bB (by omega) (bB (by omega) ⟨fun h=>absurd h dJ,fun _=>bB (by omega) ⟨fun h=>absurd h ef,fun _=>bB (by omega) ⟨fun _=>bB (by omega) ⟨by rw [fR];kernel_rfl,⟨by decide,by decide⟩,⟨t1⟩,bB t2 ⟨t3,bB (by omega) ⟨oW rfl t4,bB t5 (ga (by omega) ⟨rfl,rfl⟩)⟩⟩⟩,fun h=>absurd fR h⟩⟩⟩)⟩⟩⟩⟩));exact done _ _ _ _ _ (by unfold flush;rw [if_neg (by simp [mO,gw]),if_neg dJ,if_pos (.inr fR),fR];rfl) aD t6 t7 t8 t9
 ·obtain⟨aW,bV,v,aO,eD,t1,t2,t3,t4,t5,t6,t7,t8,t9⟩:=tail 17 (gM s.kept);obtain⟨v2,ae,aD,rfl,rfl⟩:=BC H H1 aH aW bV d aF.u en 0 fs (some a) s.kept v (fun v2 ae=>v2=v∧ae=⟨bV.next+2,bV.aT⟩) (bB (Nat.le_refl _) (bB (by omega) ⟨jG,kz,bB (by omega) ⟨oW rfl iX,bB (by omega) ⟨rZ,⟨vE⟩,bB (by omega) ⟨x2,BD rfl fC,bB (by omega) (bB (by omega) ⟨fun h=>absurd h dJ,fun _=>bB (by omega) ⟨fun h=>absurd h ef,fun _=>bB (by omega) ⟨fun h=>absurd h fR,fun _=>bB (by omega) ⟨⟨t1⟩,bB t2 ⟨t3,bB (by omega) ⟨oW rfl t4,bB t5 (ga (by omega) ⟨rfl,rfl⟩)⟩⟩⟩⟩⟩⟩)⟩⟩⟩⟩));exact done _ _ _ _ _ (by unfold flush;rw [if_neg (by simp [mO,gw]),if_neg dJ,if_neg (by simp [ef,fR])];rfl) aD t6 t7 t8 t9
def nV(l:List o):Bool:=l.all fun x=>match x with|.int _ _=>true|_=>false
def BF:Bytes:=[27,91,49,48,53,59,53,117]
noncomputable def HI(r:Option (o×j)):Bool :=
 match r with
 |some (.tuple [.slice (some a) n c,.int .i64 e],h) =>
  decide (e=0)&&decide (n=8)&&decide (a.bP=0)&&decide (a.es=1)&&Nat.blt a.id h.next&&(match h.get a.id with|some b=>nV b.bi|none=>false)&&(match eW 1 (.slice (some a) n c) h with|some l=>decide (bytesOf l=some BF)|none=>false)
 |_=>false
def HJ(r:Option (o×j)):Bool :=
 match r with
 |some (.tuple [.agg [.int .i8 a,.int .i32 b,.int .u8 c,.int .i64 d,.int .i64 e,.str t],.int .i64 f],h)=>decide (a=1)&&decide (b=120)&&decide (c=6)&&decide (d=0)&&decide (e=0)&&decide (t=[])&&decide (f=0)
 |_=>false
def O4:Bytes:=[99,116,114,108,43,97,108,116,43,120]
theorem aaE:HI (oy Tryz.prog env 400 21 [.agg [.int .i8 1,.int .i32 105,.int .u8 4,.int .i64 0,.int .i64 0,.str []]] ⟨0,.nil⟩)=true:=by decide+kernel
theorem aaF:HJ (oy Tryz.prog env 400 25 [.str O4] ⟨0,.nil⟩)=true:=by decide+kernel
abbrev gD(k:Int)(c:Int)(m:Int):o:= .agg [.int .i8 k,.int .i32 c,.int .u8 m,.int .i64 0,.int .i64 0,.str []]
abbrev na(q:Nat):o:=o.slice (some ⟨q,0,0,0,1⟩) 8 8
abbrev oY(fs:Nat)(aV:Nat):o:=o.slice (some ⟨fs,aV,0,0,6⟩) 1 1
abbrev nW(a7:Nat)(dS:Nat):o:=o.slice (some ⟨a7,dS,0,0,6⟩) 2 2
abbrev s6(gA:Nat)(hB:bH):o:=o.tuple [.slice (some hB) 8 gA,.int .i64 0]
abbrev HK:o:=o.agg [.int .i8 2,.int .i32 7,.int .u8 5,.int .i64 0,.int .i64 0,.str []]
abbrev HL:o:=o.agg [.int .i8 1,.int .i32 97,.int .u8 0,.int .i64 0,.int .i64 0,.str []]
abbrev BG:o:=o.agg [.int .i8 1,.int .i32 105,.int .u8 4,.int .i64 0,.int .i64 0,.str []]
abbrev x4:o:=o.agg [.int .i8 1,.int .i32 120,.int .u8 6,.int .i64 0,.int .i64 0,.str []]
abbrev s7:o:=o.tuple [x4,.int .i64 0]
theorem aaG(H H1 aH aW bV eI cK hg gS dQ:j)(d q a7 dS fs aV x gA afp:Nat)(hB:bH)(ab:o→j→Prop)(aY:bF (H.next) (H.next) (bF (H.next) (H.next+1) (cW Tryz.prog aw 14 [] (j.mk (H.next+3) (H.2)) (.ptr (some ⟨d,0,0,0,6⟩)) H1∧bF (H.next) (H1.next) (bF (H.next) (H1.next+2) (bX env eM (H1.next+3) (bR [(14,.ptr (some ⟨d,0,0,0,6⟩)),(13,.bool false),(12,.ptr (some ⟨d,0,0,0,6⟩)),(1,.ptr (some ⟨d,0,0,0,6⟩)),(11,.ptr (some ⟨d,0,0,0,6⟩)),(0,.bool false)]) (j.mk (H1.next+7) (H1.2)) (Op.buildSlice 34 8 {toList:=[(0,Operand.const (Value.int .u8 (97))),(1,Operand.const (Value.int .u8 (27))),(2,Operand.const (Value.int .u8 (91))),(3,Operand.const (Value.int .u8 (49))),(4,Operand.const (Value.int .u8 (59))),(5,Operand.const (Value.int .u8 (54))),(6,Operand.const (Value.int .u8 (67))),(7,Operand.const (Value.int .u8 (27)))]})=some ((na q),aH)∧eB env (H1.next+4) (bR [(15,(na q)),(14,.ptr (some ⟨d,0,0,0,6⟩)),(13,.bool false),(12,.ptr (some ⟨d,0,0,0,6⟩)),(1,.ptr (some ⟨d,0,0,0,6⟩)),(11,.ptr (some ⟨d,0,0,0,6⟩)),(0,.bool false)]) aH (Op.convert 34 34 (Operand.tmp 15))=some ((na q),aH)∧cW Tryz.prog aw 26 [.ptr (some ⟨d,0,0,0,6⟩),(na q)] aH ((nW a7 dS)) aW∧bF (H.next) (aW.next) (cW Tryz.prog aw 16 [.ptr (some ⟨d,0,0,0,6⟩)] (j.mk (aW.next+3) (aW.2)) (.int .i64 1) bV∧bF (H.next) (bV.next) (cW Tryz.prog aw 27 [.ptr (some ⟨d,0,0,0,6⟩)] (j.mk (bV.next+3) (bV.2)) ((oY fs aV)) eI∧bF (H.next) (eI.next) (cW Tryz.prog aw 21 [BG] (j.mk (eI.next+7) (eI.2)) ((s6 gA hB)) cK∧bF (H.next) (cK.next) (cW Tryz.prog aw 25 [.str [99,116,114,108,43,97,108,116,43,120]] (j.mk (cK.next+7) (cK.2)) (s7) hg∧bX env eM (cK.next+4) (bR [(30,.int .i64 0),(29,x4),(27,s7),(28,s7),(6,.int .i64 0),(5,.slice (some hB) 8 gA),(26,.int .i64 0),(25,.slice (some hB) 8 gA),(22,(s6 gA hB)),(24,(s6 gA hB)),(23,BG),(4,(oY fs aV)),(21,(oY fs aV)),(20,.ptr (some ⟨d,0,0,0,6⟩)),(3,.int .i64 1),(19,.int .i64 1),(18,.ptr (some ⟨d,0,0,0,6⟩)),(2,(nW a7 dS)),(17,(nW a7 dS)),(16,(na q)),(15,(na q)),(14,.ptr (some ⟨d,0,0,0,6⟩)),(13,.bool false),(12,.ptr (some ⟨d,0,0,0,6⟩)),(1,.ptr (some ⟨d,0,0,0,6⟩)),(11,.ptr (some ⟨d,0,0,0,6⟩)),(0,.bool false)]) hg (Op.alloc 42)=some (o.ptr (some ⟨x,0,0,0,6⟩),gS)∧bX env eM (cK.next+5) (bR [(7,.ptr (some ⟨x,0,0,0,6⟩)),(30,.int .i64 0),(29,x4),(27,s7),(28,s7),(6,.int .i64 0),(5,.slice (some hB) 8 gA),(26,.int .i64 0),(25,.slice (some hB) 8 gA),(22,(s6 gA hB)),(24,(s6 gA hB)),(23,BG),(4,(oY fs aV)),(21,(oY fs aV)),(20,.ptr (some ⟨d,0,0,0,6⟩)),(3,.int .i64 1),(19,.int .i64 1),(18,.ptr (some ⟨d,0,0,0,6⟩)),(2,(nW a7 dS)),(17,(nW a7 dS)),(16,(na q)),(15,(na q)),(14,.ptr (some ⟨d,0,0,0,6⟩)),(13,.bool false),(12,.ptr (some ⟨d,0,0,0,6⟩)),(1,.ptr (some ⟨d,0,0,0,6⟩)),(11,.ptr (some ⟨d,0,0,0,6⟩)),(0,.bool false)]) gS (Op.store 42 (Operand.tmp 7) (Operand.tmp 29))=some (o.tuple [],dQ)∧bF (H.next) (dQ.next) (cj env.D 42 ⟨a7,dS,0,0,6⟩ (j.mk (dQ.next+18) (dQ.2))=some (HL)∧cj env.D 42 ⟨a7,dS,1,0,6⟩ (j.mk (dQ.next+18) (dQ.2))=some (HK)∧bF (H.next) (dQ.next+18) (cj env.D 42 ⟨fs,aV,0,0,6⟩ (j.mk (dQ.next+33) (dQ.2))=some (rn)∧bF (H.next) (dQ.next+33) (eB env (dQ.next+43) (bR [(71,.slice (some hB) 8 gA),(70,.bool true),(69,.bool true),(68,.bool true),(67,.int .i64 0),(66,.bool true),(65,.bool true),(64,.bool true),(63,.bool true),(62,.bool true),(10,.bool true),(61,.bool true),(60,.bool true),(59,rn),(58,rn),(57,.ptr (some ⟨fs,aV,0,0,6⟩)),(56,(oY fs aV)),(55,.bool true),(54,.bool true),(53,.bool true),(52,.int .i64 1),(51,(oY fs aV)),(50,.bool true),(49,.bool true),(48,.int .i64 1),(9,.bool true),(47,.bool true),(46,.bool true),(45,HK),(44,HK),(43,.ptr (some ⟨a7,dS,1,0,6⟩)),(42,(nW a7 dS)),(41,.bool true),(40,.bool true),(39,.bool true),(38,HL),(37,HL),(36,.ptr (some ⟨a7,dS,0,0,6⟩)),(35,(nW a7 dS)),(34,.bool true),(33,.bool true),(32,.int .i64 2),(31,(nW a7 dS)),(8,.int .i64 0),(7,.ptr (some ⟨x,0,0,0,6⟩)),(30,.int .i64 0),(29,x4),(27,s7),(28,s7),(6,.int .i64 0),(5,.slice (some hB) 8 gA),(26,.int .i64 0),(25,.slice (some hB) 8 gA),(22,(s6 gA hB)),(24,(s6 gA hB)),(23,BG),(4,(oY fs aV)),(21,(oY fs aV)),(20,.ptr (some ⟨d,0,0,0,6⟩)),(3,.int .i64 1),(19,.int .i64 1),(18,.ptr (some ⟨d,0,0,0,6⟩)),(2,(nW a7 dS)),(17,(nW a7 dS)),(16,(na q)),(15,(na q)),(14,.ptr (some ⟨d,0,0,0,6⟩)),(13,.bool false),(12,.ptr (some ⟨d,0,0,0,6⟩)),(1,.ptr (some ⟨d,0,0,0,6⟩)),(11,.ptr (some ⟨d,0,0,0,6⟩)),(0,.bool false)]) (j.mk (dQ.next+56) (dQ.2)) (Op.convert 34 9 (Operand.tmp 71))=some (o.str [27,91,49,48,53,59,53,117],(j.mk (dQ.next+56) (dQ.2)))∧cj env.D 42 ⟨x,0,0,0,6⟩ (j.mk (dQ.next+56) (dQ.2))=some (x4)∧bN (H.next) (dQ.next+56) (ab (.bool true) (j.mk (dQ.next+56) (dQ.2))))))))))))))) :
 ∃v p,aI Tryz.prog aw 19 [] H v p∧ab v p :=
 cf bU mixed p' (aq:= .aA (.act 1000 (.ptr (some ⟨d,0,0,0,6⟩)) fun x=>H1) (.aA (.act 4001 ((na q)) fun x=>aH) (.aA (.kt 4002 ((na q)) fun h=>h) (.aA (.act 4003 ((nW a7 dS)) fun x=>aW) (.aA (.act 5001 (.int .i64 1) fun x=>bV) (.aA (.act 6001 ((oY fs aV)) fun x=>eI) (.aA (.act 7001 (.tuple [.slice (some hB) 8 gA,.int .i64 0]) fun x=>cK) (.aA (.act 8000 (.tuple [gD 1 120 6,.int .i64 0]) fun x=>hg) (.aA (.act 8004 (.ptr (some ⟨x,0,0,0,6⟩)) fun x=>gS) (.aA (.act 8005 (.tuple []) fun x=>dQ) (.aA (.val 9006 (gD 1 97 0)) (.aA (.val 9013 (gD 2 7 5)) (.aA (.val 10010 (gD 2 4 0)) (.aA (.kt 11010 (.str BF) fun h=>h) (.aA (.val 11018 (gD 1 120 6)) .nil))))))))))))))) (by kernel_rfl) aY
theorem x5{h:j}{U R m f i:Nat}{es:List bw}(e:h.get U=some (ct (es.map di) 6 R m f ju))(aX:i<es.length):cj (b4.D env) 42 ⟨U,R,i,0,6⟩ h=some (di es[i]):=by
 have b5:(b4.D env 42).map (fun d=>(d.kind.isAgg,d.size))=some (true,6):=by kernel_rfl
 obtain⟨x,p,ae⟩:=Option.map_eq_some_iff.1 b5;simp only [Prod.mk.injEq]at ae;unfold cj;rw [p,e]
 have fC:(ct (es.map di) 6 R m f ju).elem? R i=some (di es[i]):=by unfold J.elem?;rw [if_pos (by simpa [J.cE]using aX)];simp [aX]
 simp only [fC];simp [iR,ae.1,ae.2,di]
theorem cm.same{H aH:j}{d:Nat}{aF:cB}{s:bI}{es:List bw}(g:cm H d aF s es)(ah:∀C,C<H.next→aH.get C=H.get C)(aM:H.next≤aH.next):cm aH d aF s es:=by obtain⟨bl,g,aq⟩:=g;obtain⟨aV,ag,ad,an,e,ao,ac,ai⟩:=g.ex;obtain⟨bx,bt,bk,bz,aE,hu⟩:=g.ig;have aB:=g.lt;exact⟨bl,⟨⟨aV,ag,ad,an,by rw [ah d aB.1];exact e,ao.cN fun _=>ah _ aB.2.2.1,ac.cN fun _=>ah _ aB.2.2.2.1,ai.cN fun _=>ah _ aB.2.2.2.2⟩,⟨bx,bt,bk,bz,aE,by rw [ah aF.u aB.2.1];exact hu⟩,by omega,g.ne⟩,aq⟩
theorem O5{h ae:j}{a a2:bH}{n c ef:Nat}(e:ae.get a2.id=h.get a.id)(bu:a2.R=a.R)(bC:a2.idx=a.idx)(b2:a2.bP=a.bP)(cp:a2.es=a.es):eW 1 (.slice (some a2) n ef) ae=eW 1 (.slice (some a) n c) h:=by simp only [eW,e,bu,bC,b2,cp]
theorem O6{l:List o}(h:nV l=true):∀e∈l,cT e:=by intro e he;have:=List.all_eq_true.1 h e he;cases e<;>first|exact cT.int _ _|(simp at this)
theorem aaH{r:Option (o×j)}(h:HI r=true):∃a c H b,r=some (.tuple [.slice (some a) 8 c,.int .i64 0],H)∧a.id<H.next∧H.get a.id=some b∧dt b∧∃l,eW 1 (.slice (some a) 8 c) H=some l∧bytesOf l=some BF:=by
 unfold HI at h;split at h
 ·rename_i a n c e H;simp only [Bool.and_eq_true,decide_eq_true_eq]at h;obtain⟨⟨⟨⟨⟨⟨rfl,rfl⟩,p⟩,ae⟩,bm⟩,bg⟩,bO⟩:=h;split at bg
  ·rename_i b av;split at bO
   ·rename_i l aB;exact⟨a,c,H,b,rfl,Nat.blt_eq.mp bm,av,O6 bg,l,aB,of_decide_eq_true bO⟩
   ·cases bO
  ·cases bg
 ·cases h
theorem aaI{r:Option (o×j)}(h:HJ r=true):∃H,r=some (.tuple [gD 1 120 6,.int .i64 0],H):=by
 unfold HJ at h;split at h
 ·simp only [Bool.and_eq_true,decide_eq_true_eq]at h;obtain⟨⟨⟨⟨⟨⟨rfl,rfl⟩,rfl⟩,rfl⟩,rfl⟩,rfl⟩,rfl⟩:=h;exact⟨_,rfl⟩
 ·cases h
theorem aaJ(H:j):∃aR a c,aI Tryz.prog aw 21 [gD 1 105 4] H (.tuple [.slice (some a) 8 c,.int .i64 0]) aR∧a.id<aR.next∧(∃l,eW 1 (.slice (some a) 8 c) aR=some l∧bytesOf l=some BF)∧H.next≤aR.next∧∀C,C<H.next→aR.get C=H.get C:=by
 obtain⟨a,c,p,b,be,cM,av,lU,l,aB,pr⟩:=aaH aaE;rw [wk]at be;have aD:aI Tryz.prog aw 21 [gD 1 105 4] (j.of []) _ p:=aI.tO bU mixed be;obtain⟨aR,hH,ky,eT,jr⟩:=aD.place (by simp) (fun b av=>by cases av) (by exact⟨(cT.of rfl).e2 _,trivial⟩) (H:=H) [] List.nodup_nil (fun C aX=>by cases aX) rfl (fun i b h=>by simp at h);have r:∀i,dH [] H.next i=H.next+i:=fun i=>by rw [mF (by simp)];simp
 have g:=eT a.id b av;rw [lU.bc,r]at g;refine⟨aR,⟨H.next+a.id,a.R,a.idx,a.bP,a.es⟩,c,?_,by rw [ky];simp only [List.length_nil,Nat.sub_zero];show H.next+a.id<_;omega,⟨l,?_,pr⟩,by omega,fun C aX=>jr C aX (by simp)⟩
 ·simpa [o.bc,o.gz,bH.bc,r]using hH
 ·exact(O5 (h:=p) (ae:=aR) (a:=a) (a2:=⟨H.next+a.id,a.R,a.idx,a.bP,a.es⟩) (c:=c) (ef:=c) (by show aR.get (H.next+a.id)=_;rw [g,av]) rfl rfl rfl rfl).trans aB
theorem aaK(H:j):aI Tryz.prog aw 25 [.str O4] H (.tuple [gD 1 120 6,.int .i64 0]) H:=by obtain⟨p,be⟩:=aaI aaF;rw [wk]at be;exact(aI.tO bU mixed be).bare (fun a aS=>by rw [List.mem_singleton.1 aS];exact cT.str _) (cT.of rfl) H
theorem aaL{F:bT}{bh k n c:Nat}{H:j}{a:bH}{l:List o}{s:Bytes}(a6:bR F (.tmp k)=.slice (some a) n c)(fC:eW 1 (.slice (some a) n c) H=some l)(av:bytesOf l=some s):eB env bh (bR F) H (Op.convert 34 9 (Operand.tmp k))=some (.str s,H):=by
 have p:(b4.D env 34).map (fun d=>d.kind)=some (.slice 5):=by kernel_rfl
 have ae:(b4.D env 9).map (fun d=>d.kind)=some .string:=by kernel_rfl
 have bg:(b4.D env 5).map (fun d=>d.kind)=some (.int .u8):=by kernel_rfl
 obtain⟨ko,d1,aL⟩:=Option.map_eq_some_iff.1 p;obtain⟨qz,d2,aQ⟩:=Option.map_eq_some_iff.1 ae;obtain⟨ps,d3,bq⟩:=Option.map_eq_some_iff.1 bg;simp only [eB,a6,oa,d1,d2,aL,aQ,d3,bq,fC,av,Option.map_some]
abbrev oZ:Bytes:=[97,27,91,49,59,54,67,27]
abbrev ji:bI:=⟨.ground,[],[],[]⟩
theorem O7:ej ji oZ=(⟨.dw,[27],[],[]⟩,[gk 97 0,⟨2,7,5,0,0,[]⟩]):=by kernel_rfl
theorem uX:Keys.Good ji:=by unfold Keys.Good;simp
theorem m'.cases{H:j}{v:o}{e:bw}{es:List bw}{U:Nat}(h:m' H v (e::es) U):∃R m f,v=.slice (some ⟨U,R,0,0,6⟩) (e::es).length (e::es).length∧H.get U=some (ct ((e::es).map di) 6 R m f ju)∧U<H.next:=by
 rcases h with h|⟨p,ae,R,m,f,bg,bO⟩
 ·exact absurd h.2 (by simp)
 ·exact⟨R,m,f,bg,bO,ae⟩
theorem aaM{h:j}{x:Nat}{an:Option (TypeId×Nat)}{a b c:Int}(e:h.get x=some (J.made [gD 0 0 0] 6 true an)):iA (b4.D env) 42 ⟨x,0,0,0,6⟩ (gD a b c) h=some (h.set x (J.made [gD a b c] 6 true an)):=by
 have b5:(b4.D env 42).map (fun d=>(d.kind.isAgg,d.size))=some (true,6):=by kernel_rfl
 obtain⟨x,p,ae⟩:=Option.map_eq_some_iff.1 b5;simp only [Prod.mk.injEq]at ae;unfold iA;rw [p,e];simp [o.fits,ae.1,ae.2,J.made,rL,o.cells,iQ];exact⟨rfl,rfl,rfl,rfl,rfl⟩
theorem aaN{h:j}{x:Nat}{an:Option (TypeId×Nat)}{a b c:Int}(e:h.get x=some (J.made [gD a b c] 6 true an)):cj (b4.D env) 42 ⟨x,0,0,0,6⟩ h=some (gD a b c):=by
 have b5:(b4.D env 42).map (fun d=>(d.kind.isAgg,d.size))=some (true,6):=by kernel_rfl
 obtain⟨x,p,ae⟩:=Option.map_eq_some_iff.1 b5;simp only [Prod.mk.injEq]at ae;unfold cj;rw [p,e];simp [J.elem?,J.cE,iR,ae.1,ae.2,J.made]
theorem O8{t:TypeId}{F:bT}{H H1:j}{a:bH}{v:o}{bh k m:Nat}(a6:bR F (.tmp k)=.ptr (some a))(hm:bR F (.tmp m)=v)(aq:iA (b4.D env) t a v H=some H1):bX env eM bh (bR F) H (Op.store t (Operand.tmp k) (Operand.tmp m))=some (.tuple [],H1):=by simp only [bX,a6,hm,aq,Option.map_some]
theorem aaO(l:Bytes)(e:Bool)(C:Nat)(h:C<l.length):(J.made (aJ l) 1 e).elem? 0 (0+C)=some (.int .u8 l[C].toNat):=by simp [J.elem?,J.cE,J.made,aJ,h]
theorem O9(H:j):∃aR,aI Tryz.prog aw 19 [] H (.bool true) aR:=by
 have ga:∀{a b:Nat}{I:Prop},a≤b→I→_root_.cond (Nat.ble a b) I False:=fun h k=>by rw [Nat.ble_eq.mpr h];exact k
 obtain⟨H1,d,aF,fb,g1,_,_,_,_,_,a1,_⟩:=OU ⟨H.next+3,H.aT⟩;have a1:H.next+3≤H1.next:=a1
 have O1:=(by obtain⟨bl,k2,_⟩:=g1;exact k2.lt:d<H1.next∧aF.u<H1.next∧aF.k<H1.next∧aF.I<H1.next∧aF.U<H1.next)
 have jJ:∀F,bX env eM (H1.next+3) (bR F) ⟨H1.next+7,H1.aT⟩ (Op.buildSlice 34 8 {toList:=[(0,Operand.const (Value.int .u8 (97))),(1,Operand.const (Value.int .u8 (27))),(2,Operand.const (Value.int .u8 (91))),(3,Operand.const (Value.int .u8 (49))),(4,Operand.const (Value.int .u8 (59))),(5,Operand.const (Value.int .u8 (54))),(6,Operand.const (Value.int .u8 (67))),(7,Operand.const (Value.int .u8 (27)))]})=some (o.slice (some ⟨H1.next+3,0,0,0,1⟩) 8 8,(⟨H1.next+7,H1.aT⟩:j).set (H1.next+3) (J.made (aJ oZ) 1 true)):=by intro F;kernel_rfl
 have jt:((⟨H1.next+7,H1.aT⟩:j).set (H1.next+3) (J.made (aJ oZ) 1 true)).get (H1.next+3)=some (J.made (aJ oZ) 1 true):=j.gG _ _ _;have gP:∀C,C<H1.next→((⟨H1.next+7,H1.aT⟩:j).set (H1.next+3) (J.made (aJ oZ) 1 true)).get C=H1.get C:=fun C aX=>j.e1 _ _ (by omega)
 have iN:((⟨H1.next+7,H1.aT⟩:j).set (H1.next+3) (J.made (aJ oZ) 1 true)).next=H1.next+7:=rfl
 generalize x6:(⟨H1.next+7,H1.aT⟩:j).set (H1.next+3) (J.made (aJ oZ) 1 true)=aH at jJ jt gP iN;have g2:cm aH d aF ji []:=g1.same gP (by omega)
 have uY:∀F,bR F (.tmp 15)=o.slice (some ⟨H1.next+3,0,0,0,1⟩) 8 8→eB env (H1.next+4) (bR F) aH (Op.convert 34 34 (Operand.tmp 15))=some (o.slice (some ⟨H1.next+3,0,0,0,1⟩) 8 8,aH):=by
  intro F a6;have p:(b4.D env 34).map (fun d=>d.kind)=some (.slice 5):=by kernel_rfl
  have bg:(b4.D env 5).map (fun d=>d.kind)=some (.int .u8):=by kernel_rfl
  obtain⟨ko,d1,aL⟩:=Option.map_eq_some_iff.1 p;obtain⟨ps,d3,bq⟩:=Option.map_eq_some_iff.1 bg;simp only [eB,a6,oa,d1,aL,d3,bq,jt];simp [J.made]
 obtain⟨aW,v3,oX,uZ,aaP,g3,s4,b2,u0⟩:=OT (m:=8) (bs:=oZ) g2 uX (by decide) (.inr ⟨H1.next+3,0,0,rfl,⟨_,jt,aaO oZ true⟩,by omega,by omega,by omega,by omega,by omega,by omega⟩);rw [O7]at g3 b2 u0;simp only at g3 b2 u0;have u0:=(u0 (by simp)).1;have fi:=s4.next
 obtain⟨dS,m3,f3,rfl,pP,O'⟩:=b2.cases;obtain⟨bV,aaQ,aaR,g4,x3⟩:=OV (nT (k:=3) g3) (by decide) (by decide);have iD:aW.next+3≤bV.next:=x3.next
 have Pa:=Bz x3;have aaS:=u0.cL Pa O';have wR:=u0.get Pa O';obtain⟨eI,v5,aaT,BH,aaU,g5,Pb,ia,Pc⟩:=OZ (nT (k:=3) g4) (by have h:=Aj oZ (s:=ji) uX;rw [O7]at h;exact h) (by decide);have wf:flush ⟨.dw,[27],[],[]⟩=(⟨.ground,[],[],[]⟩,[e4 4]):=by kernel_rfl
 rw [wf]at g5 ia Pc;simp only at g5 ia Pc;have hn:bV.next+3≤eI.next:=Pb.next
 have aaV:=Bz Pb;have aaW:=aaS.get aaV (by omega);obtain⟨aV,m5,f5,rfl,aaX,afq⟩:=ia.cases;obtain⟨cK,hB,gA,aaY,aaZ,⟨Az,aa0,aa1⟩,u1,Pd⟩:=aaJ ⟨eI.next+7,eI.aT⟩;have u1:eI.next+7≤cK.next:=u1
 have aa2:=aaK ⟨cK.next+7,cK.aT⟩;have u2:∀F,bX env eM (cK.next+4) (bR F) ⟨cK.next+7,cK.aT⟩ (Op.alloc 42)=some (.ptr (some ⟨cK.next+4,0,0,0,6⟩),(⟨cK.next+7,cK.aT⟩:j).set (cK.next+4) (J.made [gD 0 0 0] 6 true (some (42,6)))):=by intro F;kernel_rfl
 have Pe:((⟨cK.next+7,cK.aT⟩:j).set (cK.next+4) (J.made [gD 0 0 0] 6 true (some (42,6)))).get (cK.next+4)=some (J.made [gD 0 0 0] 6 true (some (42,6))):=j.gG _ _ _;have Pf:∀C,C<cK.next→((⟨cK.next+7,cK.aT⟩:j).set (cK.next+4) (J.made [gD 0 0 0] 6 true (some (42,6)))).get C=cK.get C:=fun C aX=>j.e1 _ _ (by omega)
 have Pg:((⟨cK.next+7,cK.aT⟩:j).set (cK.next+4) (J.made [gD 0 0 0] 6 true (some (42,6)))).next=cK.next+7:=rfl
 generalize afr:(⟨cK.next+7,cK.aT⟩:j).set (cK.next+4) (J.made [gD 0 0 0] 6 true (some (42,6)))=gS at u2 Pe Pf Pg;have iX:=aaM (a:=1) (b:=120) (c:=6) Pe;have Ph:(gS.set (cK.next+4) (J.made [gD 1 120 6] 6 true (some (42,6)))).get (cK.next+4)=some (J.made [gD 1 120 6] 6 true (some (42,6))):=j.gG _ _ _;have BI:∀C,C<cK.next→(gS.set (cK.next+4) (J.made [gD 1 120 6] 6 true (some (42,6)))).get C=cK.get C:=fun C aX=>by rw [j.e1 _ _ (by omega)];exact Pf C aX
 have aa3:(gS.set (cK.next+4) (J.made [gD 1 120 6] 6 true (some (42,6)))).next=cK.next+7:=Pg
 generalize afs:gS.set (cK.next+4) (J.made [gD 1 120 6] 6 true (some (42,6)))=dQ at iX Ph BI aa3
 have gd:dQ.get uZ=some (ct ([gk 97 0,⟨2,7,5,0,0,[]⟩].map di) 6 dS m3 f3 ju):=by rw [BI _ (by omega),Pd _ (by show uZ<eI.next+7;omega)];show eI.get uZ=_;rw [aaW,wR,pP]
 have pM:dQ.get BH=some (ct ([e4 4].map di) 6 aV m5 f5 ju):=by rw [BI _ (by omega),Pd _ (by show BH<eI.next+7;omega)];exact aaX
 have ux:eW 1 (.slice (some hB) 8 gA) ⟨dQ.next+56,dQ.aT⟩=some Az:=by rw [←aa0];exact O5 (by show dQ.get hB.id=_;exact BI _ aaZ) rfl rfl rfl rfl
 have lX:∀k,cj (b4.D env) 42 ⟨uZ,dS,0,0,6⟩ ⟨dQ.next+k,dQ.aT⟩=some (gD 1 97 0):=fun k=>x5 (i:=0) (h:=⟨dQ.next+k,dQ.aT⟩) gd (by decide)
 have aa4:∀k,cj (b4.D env) 42 ⟨uZ,dS,1,0,6⟩ ⟨dQ.next+k,dQ.aT⟩=some (gD 2 7 5):=fun k=>x5 (i:=1) (h:=⟨dQ.next+k,dQ.aT⟩) gd (by decide)
 have aa5:∀k,cj (b4.D env) 42 ⟨BH,aV,0,0,6⟩ ⟨dQ.next+k,dQ.aT⟩=some (gD 2 4 0):=fun k=>x5 (i:=0) (h:=⟨dQ.next+k,dQ.aT⟩) pM (by decide)
 have aa6:∀k,cj (b4.D env) 42 ⟨cK.next+4,0,0,0,6⟩ ⟨dQ.next+k,dQ.aT⟩=some (gD 1 120 6):=fun k=>aaN (h:=⟨dQ.next+k,dQ.aT⟩) Ph
 obtain⟨v,aa,aD,rfl⟩:=aaG H H1 aH aW bV eI cK ⟨cK.next+7,cK.aT⟩ gS dQ d (H1.next+3) uZ dS BH aV (cK.next+4) gA 0 hB (fun v _=>v=.bool true)
  (bB (Nat.le_refl _) (bB (by omega) ⟨⟨fb⟩,bB (by omega) (bB (by omega) ⟨jJ _,uY _ rfl,⟨aaP⟩,bB (by omega) ⟨⟨aaQ⟩,bB (by omega) ⟨⟨aaU⟩,bB (by omega) ⟨⟨aaY⟩,bB (by omega) ⟨⟨aa2⟩,u2 _,O8 rfl rfl iX,bB (by omega) ⟨lX 18,aa4 18,bB (by omega) ⟨aa5 33,bB (by omega) ⟨aaL rfl ux aa1,aa6 56,ga (by omega) rfl⟩⟩⟩⟩⟩⟩⟩⟩)⟩))
 exact⟨aa,aD⟩
structure eV(H aR:j)(cG fg:Nat→Nat)(L:List Nat):Prop where
 next:H.next≤aR.next
 get:∀x,x<H.next→cG x ∉ L→aR.get x=H.get x
 cG:∀x,x<H.next→cG x ∉ L→fg x=cG x
theorem eV.trans{H H1 aH:j}{c dJ ef:Nat→Nat}{Pj Pk:List Nat}(a:eV H H1 c dJ Pj)(b:eV H1 aH dJ ef Pk):eV H aH c ef (Pj++Pk) where
 next:=Nat.le_trans a.next b.next
 get x af h:=by
  simp only [List.mem_append,not_or]at h;have aM:=a.next
  rw [b.get x (by omega) (by rw [a.cG x af h.1];exact h.2),a.get x af h.1]
 cG x af h:=by
  simp only [List.mem_append,not_or]at h;have aM:=a.next
  rw [b.cG x (by omega) (by rw [a.cG x af h.1];exact h.2),a.cG x af h.1]
theorem eV.sub{H aR:j}{c fr:Nat→Nat}{L M:List Nat}(a:eV H aR c fr L)(h:∀x∈L,x∈M):eV H aR c fr M where
 next:=a.next
 get x af k:=a.get x af fun q=>k (h _ q)
 cG x af k:=a.cG x af fun q=>k (h _ q)
theorem eV.refl(H:j)(c:Nat→Nat):eV H H c c []:=⟨Nat.le_refl _,fun _ _ _=>rfl,fun _ _ _=>rfl⟩
def fresh(H:j)(cG:Nat→Nat):Nat→Nat:=fun x=>if x<H.next then cG x else 8
theorem eV.fresh(H:j)(cG:Nat→Nat)(k:Nat):eV H ⟨H.next+k,H.aT⟩ cG (fresh H cG) [] where
 next:=by show H.next≤H.next+k;omega
 get _ _ _:=rfl
 cG x af _:=by unfold Proofs.YtddnafghiejcoaaGreatDoor.fresh;rw [if_pos af]
theorem Pl{H:j}{cG:Nat→Nat}{x:Nat}(h:H.next≤x):fresh H cG x=8:=by unfold fresh;rw [if_neg (by omega)]
def lF(d:Nat)(aF:cB)(x:Nat):Prop:=x=d∨x=aF.u∨x=aF.k∨x=aF.I∨x=aF.U
structure jg(H:j)(cG:Nat→Nat)(c d:Nat)(aF:cB)(s:bI):Prop where
 at':cm H d aF s []
 cG:∀x,lF d aF x→cG x=c
theorem jg.lt{H:j}{cG:Nat→Nat}{c d:Nat}{aF:cB}{s:bI}(h:jg H cG c d aF s):∀x,lF d aF x→x<H.next:=by obtain⟨bl,g,_⟩:=h.at';have:=g.lt;intro x af;unfold lF at af;omega
theorem jg.fp{H aR:j}{cG fg:Nat→Nat}{c d:Nat}{aF:cB}{s:bI}{L:List Nat}(h:jg H cG c d aF s)(m:eV H aR cG fg L)(ar:c ∉ L):jg aR fg c d aF s:=by
 have lt:=h.lt;have ah:∀x,lF d aF x→aR.get x=H.get x:=fun x af=>m.get x (lt x af) (by rw [h.cG x af];exact ar)
 refine⟨?_,fun x af=>by rw [m.cG x (lt x af) (by rw [h.cG x af];exact ar)];exact h.cG x af⟩;obtain⟨bl,g,aq⟩:=h.at';obtain⟨aV,ag,ad,an,e,ao,ac,ai⟩:=g.ex;obtain⟨bx,bt,bk,bz,aE,hu⟩:=g.ig;have aB:=g.lt;have aM:=m.next
 exact⟨bl,⟨⟨aV,ag,ad,an,by rw [ah d (.inl rfl)];exact e,ao.cN fun _=>ah _ (.inr (.inr (.inl rfl))),ac.cN fun _=>ah _ (.inr (.inr (.inr (.inl rfl)))),ai.cN fun _=>ah _ (.inr (.inr (.inr (.inr rfl))))⟩,⟨bx,bt,bk,bz,aE,by rw [ah aF.u (.inr (.inl rfl))];exact hu⟩,by omega,g.ne⟩,aq⟩
structure k3(H:j)(cG:Nat→Nat)(c c6:Nat)(an:Option (TypeId×Nat))(v:o)(l:List o):Prop where
 ex:(v=.slice none 0 0∧l=[])∨(l≠[]∧∃U,U<H.next∧cG U=c∧∃R m f,v=.slice (some ⟨U,R,0,0,c6⟩) l.length l.length∧H.get U=some (ct l c6 R m f an))
theorem k3.fp{H aR:j}{cG fg:Nat→Nat}{c c6:Nat}{an:Option (TypeId×Nat)}{v:o}{l:List o}{L:List Nat}(h:k3 H cG c c6 an v l)(m:eV H aR cG fg L)(ar:c ∉ L):k3 aR fg c c6 an v l:=by
 rcases h.ex with h|⟨p,U,ae,bg,R,mc,f,bO,bJ⟩
 ·exact⟨.inl h⟩
 ·have aM:=m.next
  exact⟨.inr ⟨p,U,by omega,by rw [m.cG U ae (by rw [bg];exact ar)];exact bg,R,mc,f,bO,by rw [m.get U ae (by rw [bg];exact ar)];exact bJ⟩⟩
theorem k3.bi{H:j}{cG:Nat→Nat}{c c6:Nat}{an:Option (TypeId×Nat)}{v:o}{l:List o}(h:k3 H cG c c6 an v l):eW c6 v H=some l:=by
 rcases h.ex with ⟨rfl,rfl⟩|⟨p,U,ae,bg,R,mc,f,rfl,bJ⟩
 ·rfl
 ·have aM:l.length≠0:=fun h=>p (List.length_eq_zero_iff.1 h)
  simp only [eW,if_true,bJ];rw [if_neg aM,if_pos ⟨by simp [J.cE],by simp⟩];simp
theorem k3.gy{H:j}{cG:Nat→Nat}{c c6 bh:Nat}{t e lp:Nat}{v w:o}{l new:List o}(aq:qT env.D t e c6 lp)(g:k3 H cG c c6 (some (e,0)) v l)(aM:bh<H.next)(en:cG bh=8)(af:eW c6 w H=some new)(av:((l.length+new.length)+(l.length+new.length)/4+512)*lp≤2^48)(aB:l.length+new.length<2^62) :
 ∃bp aR fg,gn env .append #[t,t] [v,w] bh H=some (bp,aR)∧k3 aR fg c c6 (some (e,0)) bp (l++new)∧eV H aR cG fg [c,8]∧aR.next=H.next:=by
 by_cases fb:new=[]
 ·subst fb;refine⟨v,H,cG,?_,by rw [List.append_nil];exact g,(eV.refl H cG).sub (by simp),rfl⟩;rcases g.ex with ⟨rfl,rfl⟩|⟨p,U,ae,bg,R,mc,f,rfl,bJ⟩
  ·exact Ep (b:=J.made [] 1 true) aq af (by simpa using av) (by decide) (fun a aS=>by cases aS) (Nat.le_refl _) (fun _=>rfl)
  ·exact Ep aq af (by simpa using av) (by simpa using aB) (fun a aS=>by cases aS;exact⟨bJ,rfl,rfl⟩) (Nat.le_refl _) (fun h=>by cases h)
 ·rcases g.ex with ⟨rfl,rfl⟩|⟨p,U,ae,bg,R,mc,f,rfl,bJ⟩
  ·refine⟨_,_,fun x=>if x=bh then c else cG x,TO aq af fb (by simpa using av) (by simpa using aB),⟨.inr ⟨by simpa using fb,bh,aM,by simp,0,0,0,rfl,j.gG _ _ _⟩⟩,⟨Nat.le_refl _,fun x _ h=> ?_,fun x _ h=> ?_⟩,rfl⟩
   ·refine j.e1 _ _ fun e=> ?_
    subst e;rw [en]at h;simp at h
   ·show(if x=bh then c else cG x)=cG x;rw [if_neg];intro e;subst e;rw [en]at h;simp at h
  ·have ii:0<new.length:=List.length_pos_iff.2 fb;refine⟨_,_,cG,KJ aq af fb av aB bJ ⟨rfl,rfl⟩ (by omega) rfl rfl rfl (by simp) (.inr rfl),⟨.inr ⟨by simp [p],U,ae,bg,R+1,mc,if mc=R then l.length else min f l.length,by rw [List.length_append],j.gG _ _ _⟩⟩,⟨Nat.le_refl _,fun x _ h=> ?_,fun _ _ _=>rfl⟩,rfl⟩;refine j.e1 _ _ fun e=> ?_
   subst e;rw [bg]at h;simp at h
theorem HM{H aR:j}{cG:Nat→Nat}{c d:Nat}{aF aO:cB}{s bK:bI}(g:jg H cG c d aF s)(dA:cm aR d aO bK [])(cL:Fr H aR d aF aO)(P:Prop)[Decidable P](U:Nat)(ai:P→lE U d aO∧(lF d aF U∨H.next≤U)) :
 ∃fg,jg aR fg c d aO bK∧eV H aR cG fg [c]∧(P→fg U=7):=by
 have cM:=g.lt;refine⟨fun x=>if x=U∧P then 7 else if x<H.next then cG x else c,⟨dA,fun x af=> ?_⟩,⟨cL.next,fun x af h=> ?_,fun x af h=> ?_⟩,fun kb=>by simp [kb]⟩
 ·have h7:¬(x=U∧P):=by rintro ⟨rfl,kb⟩;have:=(ai kb).1;have dK:=this.d;have dL:=this.u;have gd:=this.k;have mB:=this.I;have pM:=this.U;unfold lF at af;omega
  show(if x=U∧P then 7 else if x<H.next then cG x else c)=c;rw [if_neg h7];split
  ·rename_i aB
   have aa7:lF d aF x:=by
    rcases af with af|af
    ·exact .inl af
    ·have:=cL.ids x af;unfold lF;omega
   exact g.cG x aa7
  ·rfl
 ·have aM:¬lF d aF x:=fun k=>h (by rw [g.cG x k];simp)
  unfold lF at aM;simp only [not_or]at aM;exact cL.get x af aM.1 aM.2.1 aM.2.2.1 aM.2.2.2.1 aM.2.2.2.2
 ·show(if x=U∧P then 7 else if x<H.next then cG x else c)=cG x;rw [if_neg,if_pos af];rintro ⟨rfl,kb⟩;rcases (ai kb).2 with k|k
  ·exact h (by rw [g.cG x k];simp)
  ·omega
theorem Pm{H:j}{cG:Nat→Nat}{c:Nat}{v:o}{es:List bw}{U:Nat}(h:m' H v es U)(ar:es≠[]→cG U=c):k3 H cG c 6 ju v (es.map di):=by
 rcases h with ⟨p,ae⟩|⟨p,ae,R,m,f,bg,bO⟩
 ·exact⟨.inl ⟨p,by rw [ae];rfl⟩⟩
 ·exact⟨.inr ⟨by simpa using p,U,ae,ar p,R,m,f,by rw [List.length_map];exact bg,bO⟩⟩
theorem BJ{H:j}{cG:Nat→Nat}{c:Nat}{v:o}{es:List bw}(h:k3 H cG c 6 ju v (es.map di)):∃U,m' H v es U∧(es≠[]→cG U=c):=by
 rcases h.ex with ⟨p,ae⟩|⟨p,U,ae,bg,R,m,f,bO,bJ⟩
 ·have:es=[]:=by simpa using ae
  exact⟨0,.inl ⟨p,this⟩,fun h=>absurd this h⟩
 ·exact⟨U,.inr ⟨by simpa using p,ae,R,m,f,by rw [List.length_map]at bO;exact bO,bJ⟩,fun _=>bg⟩
theorem eV.pad(H:j)(cG:Nat→Nat):eV H ⟨H.next+1,H.aT⟩ cG cG []:=⟨by show H.next≤H.next+1;omega,fun _ _ _=>rfl,fun _ _ _=>rfl⟩
theorem Pn{f:FuncId}{args:List o}{h aa:j}{v:o}(k:aI Tryz.prog aw f args h v aa):aI Tryz.prog aw f args h v ⟨aa.next+1,aa.aT⟩:=k.pad (by show aa.next≤aa.next+1;omega) (fun _ _=>rfl)
structure s8(H:j)(cG:Nat→Nat)(c:Nat)(U:Option bH)(bs:Bytes):Prop where
 ex:(U=none∧bs=[])∨ ∃q bv cO,U=some ⟨q,bv,cO,0,1⟩∧rB H q bv cO bs∧q<H.next∧cG q=c
theorem s8.fp{H aR:j}{cG fg:Nat→Nat}{c:Nat}{U:Option bH}{bs:Bytes}{L:List Nat}(h:s8 H cG c U bs)(m:eV H aR cG fg L)(ar:c ∉ L):s8 aR fg c U bs:=by
 rcases h.ex with h|⟨q,bv,cO,p,ae,bg,bO⟩
 ·exact⟨.inl h⟩
 ·have aM:=m.next
  exact⟨.inr ⟨q,bv,cO,p,ae.cN (m.get q bg (by rw [bO];exact ar)),by omega,by rw [m.cG q bg (by rw [bO];exact ar)];exact bO⟩⟩
theorem jg.new(H:j)(cG:Nat→Nat)(c:Nat):∃aR d aF fg,aI Tryz.prog aw 14 [] H (.ptr (some ⟨d,0,0,0,6⟩)) aR∧jg aR fg c d aF ji∧eV H aR cG fg []:=by obtain⟨aR,d,aF,aD,g,a1,aP,fi,iD,hn,u1,HN⟩:=OU H;refine⟨aR,d,aF,fun x=>if x<H.next then cG x else c,aD,⟨g,fun x af=> ?_⟩,⟨u1,fun x af _=>HN x af,fun x af _=>if_pos af⟩⟩;unfold lF at af;exact if_neg (by omega)
theorem jg.held{H:j}{cG:Nat→Nat}{c d:Nat}{aF:cB}{s:bI}(g:jg H cG c d aF s)(ao:s.kept.length<2^40)(ac:s.az.length<2^40):∃aR aO fg,aI Tryz.prog aw 16 [.ptr (some ⟨d,0,0,0,6⟩)] H (.int .i64 (held s:Nat)) aR∧jg aR fg c d aO s∧eV H aR cG fg [c]∧H.next<aR.next:=by
 obtain⟨aR,aD,aO,dA,cL⟩:=OV g.at' ao ac;obtain⟨fg,dK,dL,_⟩:=HM g dA cL False 0 (fun h=>h.elim);have aM:=cL.next
 exact⟨_,aO,fg,Pn aD,dK.fp (eV.pad aR fg) (by simp),(dL.trans (eV.pad aR fg)).sub (by simp),by show H.next<aR.next+1;omega⟩
theorem jg.flush{H:j}{cG:Nat→Nat}{c d:Nat}{aF:cB}{s:bI}(g:jg H cG c d aF s)(dY:Keys.Good s)(ao:s.kept.length<2^40):∃aR v aO fg,aI Tryz.prog aw 27 [.ptr (some ⟨d,0,0,0,6⟩)] H v aR∧jg aR fg c d aO (Keys.flush s).1∧k3 aR fg 7 6 ju v ((Keys.flush s).2.map di)∧eV H aR cG fg [c]∧H.next<aR.next:=by
 obtain⟨aR,v,aO,U,aD,dA,cL,he,iE⟩:=OZ g.at' dY ao
 obtain⟨fg,dK,dL,gd⟩:=HM g dA cL ((Keys.flush s).2≠[]) U (fun h=>by
  have k:=iE h;have aa8:=k.off.d;refine⟨k.off,?_⟩;have:=k.of;unfold lF
  omega)
 have aM:=cL.next
 exact⟨_,v,aO,fg,Pn aD,dK.fp (eV.pad aR fg) (by simp),(Pm he gd).fp (eV.pad aR fg) (by simp),(dL.trans (eV.pad aR fg)).sub (by simp),by show H.next<aR.next+1;omega⟩
theorem jg.feed{H:j}{cG:Nat→Nat}{c ef d m:Nat}{aF:cB}{s:bI}{bs:Bytes}{U:Option bH}(g:jg H cG c d aF s)(dY:Keys.Good s)(aM:bs.length<2^28)(aS:s8 H cG ef U bs)(ar:ef≠c):∃aR v aO fg,aI Tryz.prog aw 26 [.ptr (some ⟨d,0,0,0,6⟩),.slice U bs.length m] H v aR∧jg aR fg c d aO (ej s bs).1∧k3 aR fg 7 6 ju v ((ej s bs).2.map di)∧eV H aR cG fg [c]:=by
 have aa9:OS H d aF U bs:=by
  rcases aS.ex with h|⟨q,bv,cO,p,ae,bg,bO⟩
  ·exact .inl h
  ·have bZ:∀x,lF d aF x→q≠x:=fun x af e=>ar (by rw [←bO,e];exact g.cG x af)
   exact .inr ⟨q,bv,cO,p,ae,bg,⟨bZ _ (.inl rfl),bZ _ (.inr (.inl rfl)),bZ _ (.inr (.inr (.inl rfl))),bZ _ (.inr (.inr (.inr (.inl rfl)))),bZ _ (.inr (.inr (.inr (.inr rfl))))⟩⟩
 obtain⟨aR,v,aO,eD,aD,dA,cL,he,iE⟩:=OT (m:=m) g.at' dY aM aa9
 obtain⟨fg,dK,dL,gd⟩:=HM g dA cL ((ej s bs).2≠[]) eD (fun h=>by
  have k:=iE h;have aa8:=k.1.d;refine⟨k.1,?_⟩;have:=k.2;unfold lF
  omega)
 exact⟨aR,v,aO,fg,aD,dK,Pm he gd,dL⟩
theorem Po:qT env.D 56 42 6 48:=by
 have p:(env.D 42).map (fun x=>(x.size,x.bytes,x.rO))=some (6,48,true):=by kernel_rfl
 have ae:(env.D 56).map (fun x=>x.kind)=some (.slice 42):=by kernel_rfl
 obtain⟨x,af,k⟩:=Option.map_eq_some_iff.1 p;obtain⟨d,aD,HO⟩:=Option.map_eq_some_iff.1 ae;simp only [Prod.mk.injEq]at k;exact⟨d,x,aD,HO,af,k.1,k.2.1,by decide,k.2.2⟩
theorem u3:qT env.D 34 5 1 1:=by
 have p:(env.D 5).map (fun x=>(x.size,x.bytes,x.rO))=some (1,1,true):=by kernel_rfl
 have ae:(env.D 34).map (fun x=>x.kind)=some (.slice 5):=by kernel_rfl
 obtain⟨x,af,k⟩:=Option.map_eq_some_iff.1 p;obtain⟨d,aD,HO⟩:=Option.map_eq_some_iff.1 ae;simp only [Prod.mk.injEq]at k;exact⟨d,x,aD,HO,af,k.1,k.2.1,by decide,k.2.2⟩
end Go.Proofs.YtddnafghiejcoaaGreatDoor
namespace Go.Keys
def zero:bI:=⟨.ground,[],[],[]⟩
theorem HP{s:bI}(h:Good s)(n:s.b8=.ground):s=zero:=by obtain⟨b8,kept,hold,az⟩:=s;simp only at n;subst n;obtain⟨a,b,c⟩:=h;simp only at a b c;subst a b c;rfl
def x7(s:bI)(c:UInt8)(r:bI×List bw):Prop :=
 r.1.b8=.ground∨r.1.b8=.cC∨(r.2=[]∧r.1.kept=s.kept++[c])∨(r.1=(ground zero c).1∧(ground zero c).2=[]∧r.1.kept=[c])
theorem aa'(s:bI)(ao:s.kept=[])(c:UInt8):(ground s c).1.b8=.ground∨((ground s c).2=[]∧(ground s c).1.kept=[c]):=by
 unfold ground;split
 ·rename_i ar;exact .inr ⟨rfl,by rw [ar]⟩
 ·unfold iq;split
  ·exact .inl rfl
  ·unfold hJ;simp only;split
   ·exact .inr ⟨rfl,by simp [ao]⟩
   ·split
    ·split
     ·exact .inl rfl
     ·exact .inl rfl
    ·exact .inl rfl
theorem BK{s s1:bI}{c:UInt8}{r:bI×List bw}(p:s1=zero)(e:r.1=(ground s1 c).1):x7 s c r:=by
 subst p;rcases aa' zero rfl c with h|⟨p,ae⟩
 ·exact .inl (by rw [e];exact h)
 ·exact .inr (.inr (.inr ⟨e,p,by rw [e];exact ae⟩))
theorem Pp{s:bI}{c:UInt8}{no:bI→bI×List bw}(h7:∀s1:bI,s1.hold=[]→s1.az=s.az→x7 s c (no s1)):x7 s c (hJ s c no):=by
 unfold hJ;simp only;split
 ·exact .inr (.inr (.inl ⟨rfl,rfl⟩))
 ·split
  ·split
   ·exact .inl rfl
   ·exact .inl rfl
  ·exact h7 _ rfl rfl
theorem HQ{s s1:bI}{c:UInt8}(p:s1.hold=[])(ae:s1.az=[]):x7 s c (bad s1 c):=by refine BK (s1:=(tell s1 (gM s1.kept)).1) ?_ rfl;obtain⟨b8,kept,hold,az⟩:=s1;simp only at p ae;subst p ae;rfl
theorem Pq{s:bI}{e:bw}(p:s.hold=[])(ae:s.az=[]):(tell s e).1=zero:=by obtain⟨b8,kept,hold,az⟩:=s;simp only at p ae;subst p ae;rfl
theorem aba{s:bI}(c:UInt8)(h:Good s)(aM:s.b8≠ .cC):x7 s c (step s c):=by
 obtain⟨b8,kept,hold,az⟩:=s;unfold step;cases b8 with
 |ground =>
  obtain⟨p,ae,bg⟩:=h;simp only at p ae bg⊢;subst p ae bg;exact BK (s1:=zero) rfl rfl
 |dw =>
  obtain⟨p,ae,bg⟩:=h;simp only at p ae bg⊢;unfold dw;split
  ·exact BK (Pq ae bg) rfl
  ·split
   ·exact .inr (.inr (.inl ⟨rfl,rfl⟩))
   ·split
    ·exact .inr (.inr (.inl ⟨rfl,rfl⟩))
    ·unfold plain iq;split
     ·exact .inl rfl
     ·exact Pp fun s1 a b=>HQ a (by rw [b];exact bg)
 |dc =>
  obtain⟨p,ae,bg,bO,bJ⟩:=h;simp only at p⊢;exact Pp fun s1 a b=>HQ a (by rw [b];exact p)
 |sequence =>
  obtain⟨p,ae,bg,bO⟩:=h;simp only at p ae⊢;unfold sequence;split
  ·unfold done;split
   ·exact .inr (.inl rfl)
   ·exact .inl rfl
  ·split
   ·exact HQ p ae
   ·split
    ·exact .inl rfl
    ·exact .inr (.inr (.inl ⟨rfl,rfl⟩))
 |single =>
  obtain⟨p,ae,bg⟩:=h;simp only at p ae bg⊢;unfold single;split
  ·exact .inl rfl
  ·split
   ·exact .inl rfl
   ·split
    ·exact .inl rfl
    ·exact BK (Pq p ae) rfl
 |cC=>exact absurd rfl aM
def Path(s:bI):Prop:=s.b8=.cC∨ej zero s.kept=(s,[])
theorem BL(s:bI)(c:UInt8):ej s [c]=step s c:=by simp [ej]
theorem abb{s:bI}(c:UInt8)(h:Good s)(ac:Path s):Path (step s c).1:=by
 by_cases aM:s.b8=.cC
 ·by_cases be:(step s c).1.b8=.cC
  ·exact .inl be
  ·have ah:=q1 c h
   have abc:(step s c).1.b8=.ground:=by
    revert be
    unfold step;rw [aM];simp only;unfold cC;simp only;split
    ·intro _;rfl
    ·intro be;exact absurd aM be
   rw [HP ah abc];exact .inr rfl
 ·have a6:ej zero s.kept=(s,[]):=ac.resolve_left aM;rcases aba c h aM with ah|ah|⟨p,ae⟩|⟨p,ae,bg⟩
  ·rw [HP (q1 c h) ah];exact .inr rfl
  ·exact .inl ah
  ·refine .inr ?_;rw [ae,K6,a6,BL];simp only [List.nil_append];rw [p]
  ·refine .inr ?_;rw [bg,BL,p];show ground zero c=_;rw [←ae]
theorem abd:Path zero:= .inr rfl
theorem abe{s:bI}(c:UInt8)(aM:s.b8≠ .cC)(ac:Path s):ej zero (s.kept++[c])=step s c:=by rw [K6,ac.resolve_left aM,BL];simp
end Go.Keys
namespace Go.Keys
def Seq(s:bI):Prop:=s.b8=.sequence→ ∃w,s.kept=27::91::w
theorem u4(s:bI)(c:UInt8):(ground s c).1.b8≠ .sequence:=by
 unfold ground;split
 ·intro h;cases h
 ·unfold iq;split
  ·intro h;cases h
  ·unfold hJ;simp only;split
   ·intro h;cases h
   ·split
    ·split<;>(intro h;cases h)
    ·intro h;cases h
theorem Pr{s:bI}{c:UInt8}{no:bI→bI×List bw}(h7:∀s1,(no s1).1.b8≠ .sequence):(hJ s c no).1.b8≠ .sequence:=by
 unfold hJ;simp only;split
 ·intro h;cases h
 ·split
  ·split<;>(intro h;cases h)
  ·exact h7 _
theorem abf{s:bI}(c:UInt8)(h:Good s)(aq:Seq s):Seq (step s c).1:=by
 obtain⟨b8,kept,hold,az⟩:=s;unfold step;cases b8 with
 |ground=>exact fun h=>absurd h (u4 _ _)
 |dw =>
  obtain⟨p,ae,bg⟩:=h;simp only at p⊢;unfold dw;split
  ·exact fun h=>absurd h (u4 _ _)
  ·split
   ·rename_i ar;exact fun _=>⟨[],by show kept++[c]=_;rw [p,ar];rfl⟩
   ·split
    ·intro h;cases h
    ·unfold plain iq;split
     ·intro h;cases h
     ·exact fun h=>absurd h (Pr fun s1=>u4 _ _)
 |dc=>exact fun h=>absurd h (Pr fun s1=>u4 _ _)
 |sequence =>
  obtain⟨w,hw⟩:=aq rfl;simp only at hw⊢;unfold sequence;split
  ·unfold done;split
   ·intro h;cases h
   ·intro h;cases h
  ·split
   ·exact fun h=>absurd h (u4 _ _)
   ·split
    ·intro h;cases h
    ·exact fun _=>⟨w++[c],by show kept++[c]=_;rw [hw];rfl⟩
 |single =>
  unfold single;simp only;split
  ·intro h;cases h
  ·split
   ·intro h;cases h
   ·split
    ·intro h;cases h
    ·exact fun h=>absurd h (u4 _ _)
 |cC =>
  unfold cC;simp only;split
  ·intro h;cases h
  ·intro h;cases h
theorem abg{s:bI}{c:UInt8}{t:Bytes}(dY:Good s)(kb:Path s)(cq:Seq s)(aM:s.b8=.sequence)(h:(step s c).2=[⟨6,0,0,0,0,t⟩])(b7:t=s.kept.drop 2++[c])(ah:(step s c).1.b8=.ground):ej zero (27::91::t)=(zero,[⟨6,0,0,0,0,t⟩]):=by
 obtain⟨w,hw⟩:=cq aM;have e:27::91::t=s.kept++[c]:=by rw [b7,hw];rfl
 rw [e,abe c (by rw [aM];intro h;cases h) kb];have:=HP (q1 c dY) ah;rw [←this,←h]
end Go.Keys
namespace Go.Keys
def kd(k:Int):Prop:=(1≤k∧k≤14)∨(21≤k∧k≤32)
def HR(e:bw):Prop:=e.x=0∧e.y=0∧e.text=[]
def o0(e:bw):Prop :=
 (e.kind=1∧0≤e.dX∧e.dX≤7∧shown e.code=true∧HR e) ∨
 (e.kind=2∧0≤e.dX∧e.dX≤7∧kd e.code∧HR e) ∨
 (e.kind=3∧0≤e.dX∧e.dX≤7∧0≤e.code∧e.code≤6∧0≤e.x∧e.x<4096∧0≤e.y∧e.y<4096∧e.text=[]) ∨
 (e.kind=5∧e.dX=0∧(e.code=0∨e.code=1)∧HR e)
theorem qa{k m:Int}(h:kd k)(bm:0≤m)(cI:m≤7):o0 (e4 k m):= .inr (.inl ⟨rfl,bm,cI,h,rfl,rfl,rfl⟩)
theorem s9{k m:Int}(h:shown k=true)(bm:0≤m)(cI:m≤7):o0 (gk k m):= .inl ⟨rfl,bm,cI,h,rfl,rfl,rfl⟩
theorem HS{c:Nat}(h:0<hK c):kd (hK c):=by
 unfold hK at h⊢;unfold kd
 repeat' split at h
 all_goals (first|(rename_i p;simp only [p];split<;>(try split)<;>omega)|omega|(split<;>(try split)<;>(try split)<;>omega))
theorem abh{n:Nat}(h:0<j8 n):kd (j8 n):=by unfold j8 at h⊢;unfold kd;split<;>(try split)<;>(try split)<;>(try split)<;>(try split)<;>(try split)<;>(try split)<;>first|omega|(simp_all;done)
theorem abi{c:Nat}{m:Int}{e:bw}(bm:0≤m)(cI:m≤7)(h:eb c m=some e):o0 e:=by
 unfold eb at h
 repeat' split at h
 all_goals first
  |(cases h;done)
  |(simp only [Option.some.injEq]at h;subst h;exact qa (by unfold kd;omega) bm cI)
  |(rename_i aC;simp only [Option.some.injEq]at h;subst h;exact s9 (by simp only [not_or,Bool.not_eq_false]at aC;exact aC.2) bm cI)
theorem abj{w:Bytes}{c:Nat}{e:bw}(h:e5 w c=some e):o0 e:=by
 unfold e5 at h;split at h
 ·split at h
  ·rename_i aj a1 aP aC;simp only at h;have hm:(0:Int)≤((aj/4%8:Nat):Int)∧((aj/4%8:Nat):Int)≤7:=by omega
   split at h
   ·cases h
   ·rename_i av;simp only [not_or]at av;have go:∀k:Int,0≤k→k≤6→o0 ⟨3,k,((aj/4%8:Nat):Int),(a1:Int)-1,(aP:Int)-1,[]⟩:=fun k bm du=> .inr (.inr (.inl ⟨rfl,hm.1,hm.2,bm,du,by show(0:Int)≤(a1:Int)-1;omega,by show(a1:Int)-1<4096;omega,by show(0:Int)≤(aP:Int)-1;omega,by show(aP:Int)-1<4096;omega,rfl⟩))
    split at h
    ·simp only [Option.some.injEq]at h;subst h;exact go 3 (by decide) (by decide)
    ·split at h
     ·rename_i ao;simp only [Option.some.injEq]at h;subst h;exact go _ (by omega) (by omega)
     ·split at h
      ·simp only [Option.some.injEq]at h;subst h;exact go 6 (by decide) (by decide)
      ·split at h
       ·simp only [Option.some.injEq]at h;subst h;exact go 4 (by decide) (by decide)
       ·split at h
        ·simp only [Option.some.injEq]at h;subst h;exact go 5 (by decide) (by decide)
        ·cases h
  ·cases h
 ·cases h
theorem Ps{aj k C:Nat}{m:Int}{c:UInt8}{e:bw}(h:(if 1<k∨m<1∨8<m then none else if 0<hK c.toNat∧aj=1∧k=C then some (e4 (hK c.toNat) (m-1))else if c=126∧0<j8 aj then some (e4 (j8 aj) (m-1))else if c=117 then eb aj (m-1)else none)=some e):o0 e:=by
 split at h
 ·cases h
 ·rename_i hm;simp only [not_or]at hm;split at h
  ·rename_i aS;simp only [Option.some.injEq]at h;subst h;exact qa (HS aS.1) (by omega) (by omega)
  ·split at h
   ·rename_i aS;simp only [Option.some.injEq]at h;subst h;exact qa (abh aS.2) (by omega) (by omega)
   ·split at h
    ·exact abi (by omega) (by omega) h
    ·cases h
theorem Pt{w:Bytes}{c:UInt8}{e:bw}(h:told w c=some e):o0 e∨e=⟨6,0,0,0,0,w++[c]⟩:=by
 unfold told at h;split at h
 ·simp only [Option.some.injEq]at h;subst h;exact .inr rfl
 ·refine .inl ?_;split at h
  ·exact abj h
  ·split at h
   ·cases h
   ·split at h
    ·simp only [Option.some.injEq]at h;subst h;exact qa (by unfold kd;omega) (by decide) (by decide)
    ·split at h
     ·simp only [Option.some.injEq]at h;subst h;exact .inr (.inr (.inr ⟨rfl,rfl,.inr rfl,rfl,rfl,rfl⟩))
     ·split at h
      ·simp only [Option.some.injEq]at h;subst h;exact .inr (.inr (.inr ⟨rfl,rfl,.inl rfl,rfl,rfl,rfl⟩))
      ·split at h
       ·rename_i aS;simp only [Option.some.injEq]at h;subst h;exact qa (HS aS) (by decide) (by decide)
       ·cases h
   ·rename_i aj r aC;rcases r with _|⟨x,_|⟨y,t⟩⟩
    ·exact Ps h
    ·exact Ps h
    ·simp only [List.length_cons]at h;rw [if_pos (.inl (by omega))]at h;cases h
theorem Pu{c:Nat}(h:c<32∨c=127)(js:c≠27):o0 (control c):=by
 unfold control;split
 ·exact qa (by unfold kd;omega) (by decide) (by decide)
 ·split
  ·exact qa (by unfold kd;omega) (by decide) (by decide)
  ·split
   ·exact qa (by unfold kd;omega) (by decide) (by decide)
   ·split
    ·exact s9 (by decide) (by decide) (by decide)
    ·split
     ·exact s9 (by unfold shown;simp;omega) (by decide) (by decide)
     ·exact s9 (by unfold shown;simp;omega) (by decide) (by decide)
end Go.Keys
namespace Go.Keys
open Go.Lib
def hY:List Nat→Bytes
 |[]=> []
 |[n]=>decDigits n
 |n::m::r=>decDigits n++59::hY (m::r)
def gE(e:Bytes)(l:List Nat):Bytes:=27::91::(hY l++e)
def x8(r:Nat):Option UInt8 :=
 if r=32 then some 0 else if 97≤r∧r≤122∧r≠105∧r≠109 then some (u8 (r%32))else if 92≤r∧r≤95 then some (u8 (r%32))else none
def lG(r m:Nat):Bytes :=
 if m=0 then put r
 else if m=2∧r≠91∧r≠79 then 27::put r
 else if m=4∨m=6 then
  match x8 r with
  |some c=>if m=4 then [c]else [27,c]
  |none=>gE [117] [r,m+1]
 else gE [117] [r,m+1]
def rC(k:Nat):Nat:=if k=1 then 13 else if k=2 then 9 else if k=3 then 127 else 27
def x9(k:Nat):Option UInt8 :=
 if 5≤k∧k≤8 then some (u8 (60+k))else if k=9 then some 72 else if k=10 then some 70 else none
def rD(k:Nat):Option Nat :=
 if k=11∨k=12 then some (k-9)else if k=13∨k=14 then some (k-8)
 else if 21≤k∧k≤25 then some (k-10)else if 26≤k∧k≤30 then some (k-9)else if k=31∨k=32 then some (k-8)else none
def qb(k m:Nat):Option Bytes :=
 if 1≤k∧k≤4 then
  if m=0 then some [u8 (rC k)]
  else if m=2∧k≠4 then some [27,u8 (rC k)]
  else if m=1∧k=2 then some (gE [90] [])
  else some (gE [117] [rC k,m+1])
 else match x9 k with
 |some c=>if m=0 then some (gE [c] [])else some (gE [c] [1,m+1])
 |none =>
  if m=0∧21≤k∧k≤24 then some [27,79,u8 (80+(k-21))]
  else match rD k with
  |some n=>if m=0 then some (gE [126] [n])else some (gE [126] [n,m+1])
  |none=>none
def ix(c:Nat):Nat:=if c=1 then 1 else if c=2 then 2 else if c=4 then 64 else if c=5 then 65 else if c=6 then 35 else 0
def o1(c m x y:Nat):Bytes:=27::91::60::(hY [ix c+4*m,x+1,y+1]++[if c=3 then 109 else 77])
def s'(e:bw):Bool:=decide (0≤e.code)&&decide (e.code≤6)&&decide (e.dX≤7)&&decide (0≤e.x)&&decide (e.x<4096)&&decide (0≤e.y)&&decide (e.y<4096)&&decide (e.text=[])
def hasEnd:Bytes→Bool
 |[]=>false
 |b::r=>dE.isPrefixOf (b::r) || hasEnd r
def qc:Bytes:=[27,91,50,48,48,126]
def BM(e:bw):Bool:=decide (e.x=0)&&decide (e.y=0)&&decide (e.text=[])
def ds(e:bw):Option Bytes :=
 if e.kind=3 then if s' e=true then some (o1 e.code.toNat e.dX.toNat e.x.toNat e.y.toNat)else none
 else if 7<e.dX then none
 else if e.kind=1∧BM e=true∧shown e.code=true then some (lG e.code.toNat e.dX.toNat)
 else if e.kind=2∧BM e=true then if 0≤e.code then qb e.code.toNat e.dX.toNat else none
 else if e=⟨5,0,0,0,0,[]⟩then some (gE [79] [])
 else if e=⟨5,1,0,0,0,[]⟩then some (gE [73] [])
 else if e=⟨4,0,0,0,0,e.text⟩∧e.text.length≤65536∧hasEnd e.text=false then some (qc++(e.text++dE))
 else if e=⟨6,0,0,0,0,e.text⟩∧e.text.length≤62 then
  if(ej zero (27::91::e.text)).2=[e]∧held (ej zero (27::91::e.text)).1=0 then some (27::91::e.text)else none
 else none
theorem abk(n:Nat):decDigits n≠[]:=by intro h;have:=decDigits_length n;rw [h]at this;have:=nDigits_pos n;simp at *; omega
theorem HT{n k:Nat}(h:n<10^(k+1)):(decDigits n).length≤k+1:=by
 rw [decDigits_length];induction k generalizing n with
 |zero=>rw [nDigits_small (by simpa using h)];omega
 |succ k ih =>
  by_cases pe:n<10
  ·rw [nDigits_small pe];omega
  ·rw [nDigits_big pe];have:=ih (n:=n/10) (by rw [Nat.pow_succ]at h;omega);omega
end Go.Keys
namespace Go.Proofs.YtddnafghiejcoaaGreatDoor
open Go.cH Go.Keys
set_option maxRecDepth 1000000
abbrev gT:o:= .int .u8 0
abbrev o2(l:List o):J:=J.made [.agg l] 24 true (some (154,24))
abbrev kB:J:=o2 [gT,gT,gT,gT,gT,gT,gT,gT,gT,gT,gT,gT,gT,gT,gT,gT,gT,gT,gT,gT,gT,gT,gT,gT]
def hZ:Bytes:=Lib.smalls.data.toList
theorem abl(u:Nat)(ab:o→j→Prop)(aY:(0≤(u:Int)∧(u:Int)≤4294967295)∧((100:Int)=0→False)∧(0≤Int.tmod (u:Int) 100*2∧Int.tmod (u:Int) 100*2≤4294967295)∧(((100:Int)=0→False)∧h9 .u32 (Int.tdiv (u:Int) 100))∧(0≤Int.tmod (u:Int) 100*2+1∧Int.tmod (u:Int) 100*2+1≤4294967295)∧(0≤Int.tmod (u:Int) 100*2+1∧Int.tmod (u:Int) 100*2+1<200)∧(0≤Int.tmod (u:Int) 100*2∧Int.tmod (u:Int) 100*2<200)∧(0≤48+Int.tdiv (u:Int) 100∧48+Int.tdiv (u:Int) 100≤4294967295)∧(0≤48+Int.tdiv (u:Int) 100∧48+Int.tdiv (u:Int) 100≤255)∧ab (.tuple []) (j.au 46 [(0,(J.made ([.agg [.int .u8 (48+Int.tdiv (u:Int) 100),.int .u8 (↑(UInt8.toNat (List.getD hZ (Int.toNat (Int.tmod (u:Int) 100*2)) 0)):Int),.int .u8 (↑(UInt8.toNat (List.getD hZ (Int.toNat (Int.tmod (u:Int) 100*2+1)) 0)):Int),.int .u8 0,.int .u8 0,.int .u8 0,.int .u8 0,.int .u8 0,.int .u8 0,.int .u8 0,.int .u8 0,.int .u8 0,.int .u8 0,.int .u8 0,.int .u8 0,.int .u8 0,.int .u8 0,.int .u8 0,.int .u8 0,.int .u8 0,.int .u8 0,.int .u8 0,.int .u8 0,.int .u8 0]]) 24 true (some (154,24))))])) :
 ∃v p,aI Tryz.prog aw 121 [.slice (some ⟨0,0,0,1,24⟩) 3 24,.int .u64 u] (j.rows 1 [(0,kB)]) v p∧ab v p :=
 cf bU mixed gL (aq:= .aA (.rounds 300) (ah 12001 (ah 21001 (ah 21002 (ah 22001 (ah 23007 (ah 23008 (ah 23010 (ah 26002 (ah 26003 .nil)))))))))) (by kernel_rfl) aY
theorem abm(u:Nat)(ab:o→j→Prop)(aY:(0≤(u:Int)∧(u:Int)≤4294967295)∧((10000:Int)=0→False)∧(((10000:Int)=0→False)∧h9 .u32 (Int.tdiv (u:Int) 10000))∧(((100:Int)=0→False)∧h9 .u32 (Int.tdiv (Int.tmod (u:Int) 10000) 100))∧(0≤Int.tdiv (Int.tmod (u:Int) 10000) 100*2∧Int.tdiv (Int.tmod (u:Int) 10000) 100*2≤4294967295)∧((100:Int)=0→False)∧(0≤Int.tmod (Int.tmod (u:Int) 10000) 100*2∧Int.tmod (Int.tmod (u:Int) 10000) 100*2≤4294967295)∧(0≤Int.tmod (Int.tmod (u:Int) 10000) 100*2+1∧Int.tmod (Int.tmod (u:Int) 10000) 100*2+1≤4294967295)∧(0≤Int.tmod (Int.tmod (u:Int) 10000) 100*2+1∧Int.tmod (Int.tmod (u:Int) 10000) 100*2+1<200)∧(0≤Int.tmod (Int.tmod (u:Int) 10000) 100*2∧Int.tmod (Int.tmod (u:Int) 10000) 100*2<200)∧(0≤Int.tdiv (Int.tmod (u:Int) 10000) 100*2+1∧Int.tdiv (Int.tmod (u:Int) 10000) 100*2+1≤4294967295)∧(0≤Int.tdiv (Int.tmod (u:Int) 10000) 100*2+1∧Int.tdiv (Int.tmod (u:Int) 10000) 100*2+1<200)∧(0≤Int.tdiv (Int.tmod (u:Int) 10000) 100*2∧Int.tdiv (Int.tmod (u:Int) 10000) 100*2<200)∧ab (.tuple []) (j.au 62 [(0,(J.made ([.agg [.int .u8 (↑(UInt8.toNat (List.getD hZ (Int.toNat (Int.tdiv (Int.tmod (u:Int) 10000) 100*2)) 0)):Int),.int .u8 (↑(UInt8.toNat (List.getD hZ (Int.toNat (Int.tdiv (Int.tmod (u:Int) 10000) 100*2+1)) 0)):Int),.int .u8 (↑(UInt8.toNat (List.getD hZ (Int.toNat (Int.tmod (Int.tmod (u:Int) 10000) 100*2)) 0)):Int),.int .u8 (↑(UInt8.toNat (List.getD hZ (Int.toNat (Int.tmod (Int.tmod (u:Int) 10000) 100*2+1)) 0)):Int),.int .u8 0,.int .u8 0,.int .u8 0,.int .u8 0,.int .u8 0,.int .u8 0,.int .u8 0,.int .u8 0,.int .u8 0,.int .u8 0,.int .u8 0,.int .u8 0,.int .u8 0,.int .u8 0,.int .u8 0,.int .u8 0,.int .u8 0,.int .u8 0,.int .u8 0,.int .u8 0]]) 24 true (some (154,24))))])) :
 ∃v p,aI Tryz.prog aw 121 [.slice (some ⟨0,0,0,1,24⟩) 4 24,.int .u64 u] (j.rows 1 [(0,kB)]) v p∧ab v p :=
 cf bU mixed gL (aq:= .aA (.rounds 300) (ah 12001 (ah 14001 (ah 15001 (ah 16001 (ah 16002 (ah 16004 (ah 16005 (ah 17007 (ah 17008 (ah 17010 (ah 18007 (ah 18008 (ah 18010 .nil)))))))))))))) (by kernel_rfl) aY
theorem abn(u:Nat)(ab:o→j→Prop)(aY:(0≤(u:Int)∧(u:Int)≤4294967295)∧((10000:Int)=0→False)∧(((10000:Int)=0→False)∧h9 .u32 (Int.tdiv (u:Int) 10000))∧(((100:Int)=0→False)∧h9 .u32 (Int.tdiv (Int.tmod (u:Int) 10000) 100))∧(0≤Int.tdiv (Int.tmod (u:Int) 10000) 100*2∧Int.tdiv (Int.tmod (u:Int) 10000) 100*2≤4294967295)∧((100:Int)=0→False)∧(0≤Int.tmod (Int.tmod (u:Int) 10000) 100*2∧Int.tmod (Int.tmod (u:Int) 10000) 100*2≤4294967295)∧(0≤Int.tmod (Int.tmod (u:Int) 10000) 100*2+1∧Int.tmod (Int.tmod (u:Int) 10000) 100*2+1≤4294967295)∧(0≤Int.tmod (Int.tmod (u:Int) 10000) 100*2+1∧Int.tmod (Int.tmod (u:Int) 10000) 100*2+1<200)∧(0≤Int.tmod (Int.tmod (u:Int) 10000) 100*2∧Int.tmod (Int.tmod (u:Int) 10000) 100*2<200)∧(0≤Int.tdiv (Int.tmod (u:Int) 10000) 100*2+1∧Int.tdiv (Int.tmod (u:Int) 10000) 100*2+1≤4294967295)∧(0≤Int.tdiv (Int.tmod (u:Int) 10000) 100*2+1∧Int.tdiv (Int.tmod (u:Int) 10000) 100*2+1<200)∧(0≤Int.tdiv (Int.tmod (u:Int) 10000) 100*2∧Int.tdiv (Int.tmod (u:Int) 10000) 100*2<200)∧(0≤48+Int.tdiv (u:Int) 10000∧48+Int.tdiv (u:Int) 10000≤4294967295)∧(0≤48+Int.tdiv (u:Int) 10000∧48+Int.tdiv (u:Int) 10000≤255)∧ab (.tuple []) (j.au 68 [(0,(J.made ([.agg [.int .u8 (48+Int.tdiv (u:Int) 10000),.int .u8 (↑(UInt8.toNat (List.getD hZ (Int.toNat (Int.tdiv (Int.tmod (u:Int) 10000) 100*2)) 0)):Int),.int .u8 (↑(UInt8.toNat (List.getD hZ (Int.toNat (Int.tdiv (Int.tmod (u:Int) 10000) 100*2+1)) 0)):Int),.int .u8 (↑(UInt8.toNat (List.getD hZ (Int.toNat (Int.tmod (Int.tmod (u:Int) 10000) 100*2)) 0)):Int),.int .u8 (↑(UInt8.toNat (List.getD hZ (Int.toNat (Int.tmod (Int.tmod (u:Int) 10000) 100*2+1)) 0)):Int),.int .u8 0,.int .u8 0,.int .u8 0,.int .u8 0,.int .u8 0,.int .u8 0,.int .u8 0,.int .u8 0,.int .u8 0,.int .u8 0,.int .u8 0,.int .u8 0,.int .u8 0,.int .u8 0,.int .u8 0,.int .u8 0,.int .u8 0,.int .u8 0,.int .u8 0]]) 24 true (some (154,24))))])) :
 ∃v p,aI Tryz.prog aw 121 [.slice (some ⟨0,0,0,1,24⟩) 5 24,.int .u64 u] (j.rows 1 [(0,kB)]) v p∧ab v p :=
 cf bU mixed gL (aq:= .aA (.rounds 300) (ah 12001 (ah 14001 (ah 15001 (ah 16001 (ah 16002 (ah 16004 (ah 16005 (ah 17007 (ah 17008 (ah 17010 (ah 18007 (ah 18008 (ah 18010 (ah 26002 (ah 26003 .nil)))))))))))))))) (by kernel_rfl) aY
theorem abo(u:Nat)(ab:o→j→Prop)(aY:(0≤(u:Int)∧(u:Int)≤4294967295)∧((10000:Int)=0→False)∧(((10000:Int)=0→False)∧h9 .u32 (Int.tdiv (u:Int) 10000))∧(((100:Int)=0→False)∧h9 .u32 (Int.tdiv (Int.tmod (u:Int) 10000) 100))∧(0≤Int.tdiv (Int.tmod (u:Int) 10000) 100*2∧Int.tdiv (Int.tmod (u:Int) 10000) 100*2≤4294967295)∧((100:Int)=0→False)∧(0≤Int.tmod (Int.tmod (u:Int) 10000) 100*2∧Int.tmod (Int.tmod (u:Int) 10000) 100*2≤4294967295)∧(0≤Int.tmod (Int.tmod (u:Int) 10000) 100*2+1∧Int.tmod (Int.tmod (u:Int) 10000) 100*2+1≤4294967295)∧(0≤Int.tmod (Int.tmod (u:Int) 10000) 100*2+1∧Int.tmod (Int.tmod (u:Int) 10000) 100*2+1<200)∧(0≤Int.tmod (Int.tmod (u:Int) 10000) 100*2∧Int.tmod (Int.tmod (u:Int) 10000) 100*2<200)∧(0≤Int.tdiv (Int.tmod (u:Int) 10000) 100*2+1∧Int.tdiv (Int.tmod (u:Int) 10000) 100*2+1≤4294967295)∧(0≤Int.tdiv (Int.tmod (u:Int) 10000) 100*2+1∧Int.tdiv (Int.tmod (u:Int) 10000) 100*2+1<200)∧(0≤Int.tdiv (Int.tmod (u:Int) 10000) 100*2∧Int.tdiv (Int.tmod (u:Int) 10000) 100*2<200)∧((100:Int)=0→False)∧(0≤Int.tmod (Int.tdiv (u:Int) 10000) 100*2∧Int.tmod (Int.tdiv (u:Int) 10000) 100*2≤4294967295)∧(((100:Int)=0→False)∧h9 .u32 (Int.tdiv (Int.tdiv (u:Int) 10000) 100))∧(0≤Int.tmod (Int.tdiv (u:Int) 10000) 100*2+1∧Int.tmod (Int.tdiv (u:Int) 10000) 100*2+1≤4294967295)∧(0≤Int.tmod (Int.tdiv (u:Int) 10000) 100*2+1∧Int.tmod (Int.tdiv (u:Int) 10000) 100*2+1<200)∧(0≤Int.tmod (Int.tdiv (u:Int) 10000) 100*2∧Int.tmod (Int.tdiv (u:Int) 10000) 100*2<200)∧ab (.tuple []) (j.au 87 [(0,(J.made ([.agg [.int .u8 (↑(UInt8.toNat (List.getD hZ (Int.toNat (Int.tmod (Int.tdiv (u:Int) 10000) 100*2)) 0)):Int),.int .u8 (↑(UInt8.toNat (List.getD hZ (Int.toNat (Int.tmod (Int.tdiv (u:Int) 10000) 100*2+1)) 0)):Int),.int .u8 (↑(UInt8.toNat (List.getD hZ (Int.toNat (Int.tdiv (Int.tmod (u:Int) 10000) 100*2)) 0)):Int),.int .u8 (↑(UInt8.toNat (List.getD hZ (Int.toNat (Int.tdiv (Int.tmod (u:Int) 10000) 100*2+1)) 0)):Int),.int .u8 (↑(UInt8.toNat (List.getD hZ (Int.toNat (Int.tmod (Int.tmod (u:Int) 10000) 100*2)) 0)):Int),.int .u8 (↑(UInt8.toNat (List.getD hZ (Int.toNat (Int.tmod (Int.tmod (u:Int) 10000) 100*2+1)) 0)):Int),.int .u8 0,.int .u8 0,.int .u8 0,.int .u8 0,.int .u8 0,.int .u8 0,.int .u8 0,.int .u8 0,.int .u8 0,.int .u8 0,.int .u8 0,.int .u8 0,.int .u8 0,.int .u8 0,.int .u8 0,.int .u8 0,.int .u8 0,.int .u8 0]]) 24 true (some (154,24))))])) :
 ∃v p,aI Tryz.prog aw 121 [.slice (some ⟨0,0,0,1,24⟩) 6 24,.int .u64 u] (j.rows 1 [(0,kB)]) v p∧ab v p :=
 cf bU mixed gL (aq:= .aA (.rounds 300) (ah 12001 (ah 14001 (ah 15001 (ah 16001 (ah 16002 (ah 16004 (ah 16005 (ah 17007 (ah 17008 (ah 17010 (ah 18007 (ah 18008 (ah 18010 (ah 21001 (ah 21002 (ah 22001 (ah 23007 (ah 23008 (ah 23010 .nil)))))))))))))))))))) (by kernel_rfl) aY
theorem abp(u:Nat)(ab:o→j→Prop)(aY:(0≤(u:Int)∧(u:Int)≤4294967295)∧((10000:Int)=0→False)∧(((10000:Int)=0→False)∧h9 .u32 (Int.tdiv (u:Int) 10000))∧(((100:Int)=0→False)∧h9 .u32 (Int.tdiv (Int.tmod (u:Int) 10000) 100))∧(0≤Int.tdiv (Int.tmod (u:Int) 10000) 100*2∧Int.tdiv (Int.tmod (u:Int) 10000) 100*2≤4294967295)∧((100:Int)=0→False)∧(0≤Int.tmod (Int.tmod (u:Int) 10000) 100*2∧Int.tmod (Int.tmod (u:Int) 10000) 100*2≤4294967295)∧(0≤Int.tmod (Int.tmod (u:Int) 10000) 100*2+1∧Int.tmod (Int.tmod (u:Int) 10000) 100*2+1≤4294967295)∧(0≤Int.tmod (Int.tmod (u:Int) 10000) 100*2+1∧Int.tmod (Int.tmod (u:Int) 10000) 100*2+1<200)∧(0≤Int.tmod (Int.tmod (u:Int) 10000) 100*2∧Int.tmod (Int.tmod (u:Int) 10000) 100*2<200)∧(0≤Int.tdiv (Int.tmod (u:Int) 10000) 100*2+1∧Int.tdiv (Int.tmod (u:Int) 10000) 100*2+1≤4294967295)∧(0≤Int.tdiv (Int.tmod (u:Int) 10000) 100*2+1∧Int.tdiv (Int.tmod (u:Int) 10000) 100*2+1<200)∧(0≤Int.tdiv (Int.tmod (u:Int) 10000) 100*2∧Int.tdiv (Int.tmod (u:Int) 10000) 100*2<200)∧((100:Int)=0→False)∧(0≤Int.tmod (Int.tdiv (u:Int) 10000) 100*2∧Int.tmod (Int.tdiv (u:Int) 10000) 100*2≤4294967295)∧(((100:Int)=0→False)∧h9 .u32 (Int.tdiv (Int.tdiv (u:Int) 10000) 100))∧(0≤Int.tmod (Int.tdiv (u:Int) 10000) 100*2+1∧Int.tmod (Int.tdiv (u:Int) 10000) 100*2+1≤4294967295)∧(0≤Int.tmod (Int.tdiv (u:Int) 10000) 100*2+1∧Int.tmod (Int.tdiv (u:Int) 10000) 100*2+1<200)∧(0≤Int.tmod (Int.tdiv (u:Int) 10000) 100*2∧Int.tmod (Int.tdiv (u:Int) 10000) 100*2<200)∧(0≤48+Int.tdiv (Int.tdiv (u:Int) 10000) 100∧48+Int.tdiv (Int.tdiv (u:Int) 10000) 100≤4294967295)∧(0≤48+Int.tdiv (Int.tdiv (u:Int) 10000) 100∧48+Int.tdiv (Int.tdiv (u:Int) 10000) 100≤255)∧ab (.tuple []) (j.au 93 [(0,(J.made ([.agg [.int .u8 (48+Int.tdiv (Int.tdiv (u:Int) 10000) 100),.int .u8 (↑(UInt8.toNat (List.getD hZ (Int.toNat (Int.tmod (Int.tdiv (u:Int) 10000) 100*2)) 0)):Int),.int .u8 (↑(UInt8.toNat (List.getD hZ (Int.toNat (Int.tmod (Int.tdiv (u:Int) 10000) 100*2+1)) 0)):Int),.int .u8 (↑(UInt8.toNat (List.getD hZ (Int.toNat (Int.tdiv (Int.tmod (u:Int) 10000) 100*2)) 0)):Int),.int .u8 (↑(UInt8.toNat (List.getD hZ (Int.toNat (Int.tdiv (Int.tmod (u:Int) 10000) 100*2+1)) 0)):Int),.int .u8 (↑(UInt8.toNat (List.getD hZ (Int.toNat (Int.tmod (Int.tmod (u:Int) 10000) 100*2)) 0)):Int),.int .u8 (↑(UInt8.toNat (List.getD hZ (Int.toNat (Int.tmod (Int.tmod (u:Int) 10000) 100*2+1)) 0)):Int),.int .u8 0,.int .u8 0,.int .u8 0,.int .u8 0,.int .u8 0,.int .u8 0,.int .u8 0,.int .u8 0,.int .u8 0,.int .u8 0,.int .u8 0,.int .u8 0,.int .u8 0,.int .u8 0,.int .u8 0,.int .u8 0,.int .u8 0]]) 24 true (some (154,24))))])) :
 ∃v p,aI Tryz.prog aw 121 [.slice (some ⟨0,0,0,1,24⟩) 7 24,.int .u64 u] (j.rows 1 [(0,kB)]) v p∧ab v p :=
 cf bU mixed gL (aq:= .aA (.rounds 300) (ah 12001 (ah 14001 (ah 15001 (ah 16001 (ah 16002 (ah 16004 (ah 16005 (ah 17007 (ah 17008 (ah 17010 (ah 18007 (ah 18008 (ah 18010 (ah 21001 (ah 21002 (ah 22001 (ah 23007 (ah 23008 (ah 23010 (ah 26002 (ah 26003 .nil)))))))))))))))))))))) (by kernel_rfl) aY
end Go.Proofs.YtddnafghiejcoaaGreatDoor
namespace Go.Keys
open Go.Lib
def Scalar(r:Nat):Prop:=r<55296∨(57343<r∧r≤1114111)
theorem abq{n:Nat}(h:n<256):(u8 n).toNat=n:=by unfold u8;rw [UInt8.toNat_ofNat'];omega
theorem put_eq{r:Nat}(aq:Scalar r):put r=if r<128 then [u8 r]else if r<2048 then [u8 (192+r/64),u8 (128+r%64)]
 else if r<65536 then [u8 (224+r/4096),u8 (128+r/64%64),u8 (128+r%64)]
 else [u8 (240+r/262144),u8 (128+r/4096%64),u8 (128+r/64%64),u8 (128+r%64)]:=by
 unfold Scalar at aq;have e:(if 55296≤r∧r≤57343∨1114111<r then 65533 else r)=r:=if_neg (by omega);unfold put;simp only [e]
theorem wL{r:Nat}(h:r<128):put r=[u8 r]:=by rw [put_eq (.inl (by omega)),if_pos h]
theorem abr{n:Nat}(h:n<128):lead n=(1,0,0):=by unfold lead;rw [if_pos h]
structure aft(r:Nat):Prop where
 whole:first (put r)=(r,(put r).length,false)
 parts:∀k,0<k→k<(put r).length→(first ((put r).take k)).2.2=true
 afu:1<(put r).length→ ∀b∈put r,128≤b.toNat
theorem abt(r:Nat):put r≠[]:=by intro h;have:=Ll r;rw [h]at this;simp at this
theorem HU{k:Nat}{x:Bytes}(af:x≠[]):ht (k+1) x=if(first x).2.2 then([],x)else((first x).1::(ht k (x.drop (first x).2.1)).1,(ht k (x.drop (first x).2.1)).2):=by
 cases x with
 |nil=>exact absurd rfl af
 |cons b r=>rfl
theorem Pv{r:Int}(h:shown r=true):Scalar r.toNat∧32≤r.toNat∧r.toNat≠127∧(r.toNat:Int)=r:=by simp only [shown,Bool.and_eq_true,Bool.or_eq_true,decide_eq_true_eq]at h;unfold Scalar;omega
end Go.Keys
namespace Go.Proofs.YtddnafghiejcoaaGreatDoor
open Go.cH Go.Keys Go.Lib
set_option maxRecDepth 1000000
theorem x'(a:Nat):Int.tmod (a:Int) 100=((a%100:Nat):Int):=rfl
theorem ya(a:Nat):Int.tdiv (a:Int) 100=((a/100:Nat):Int):=rfl
theorem BN(a:Nat):Int.tmod (a:Int) 10000=((a%10000:Nat):Int):=rfl
theorem BO(a:Nat):Int.tdiv (a:Int) 10000=((a/10000:Nat):Int):=rfl
theorem ta{u:Nat}(h:10≤u):decDigits u=decDigits (u/10)++[u8 (48+u%10)]:=by rw [decDigits,dif_neg (by omega)];rfl
theorem tb{u:Nat}(h:u<10):decDigits u=[u8 (48+u)]:=by rw [decDigits,dif_pos h];rfl
theorem BP{n:Nat}(h:n<256):((u8 n).toNat:Int)=(n:Nat):=by rw [abq h]
theorem nX{I:Nat}(h:I<100):((UInt8.toNat (List.getD hZ (Int.toNat ((I:Int)*2)) 0):Nat):Int)=((48+I/10:Nat):Int):=by
 have e:Int.toNat ((I:Int)*2)=I*2:=by omega
 rw [e];show((sm (I*2)).toNat:Int)=_;rw [sm_hi I h];exact BP (by omega)
theorem nY{I:Nat}(h:I<100):((UInt8.toNat (List.getD hZ (Int.toNat ((I:Int)*2+1)) 0):Nat):Int)=((48+I%10:Nat):Int):=by
 have e:Int.toNat ((I:Int)*2+1)=I*2+1:=by omega
 rw [e];show((sm (I*2+1)).toNat:Int)=_;rw [sm_lo I h];exact BP (by omega)
theorem nZ{n:Nat}(h:n≤4294967295):h9 .u32 (n:Int):=⟨by show(0:Int)≤_;omega,by show _≤(4294967295:Int);omega⟩
theorem yb{u:Nat}(h:u<10):aJ (decDigits u)=[.int .u8 ((48+u:Nat):Int)]:=by rw [tb h];show [o.int .u8 ((u8 (48+u)).toNat:Int)]=_;rw [BP (by omega)]
theorem jh{u:Nat}(h:10≤u):aJ (decDigits u)=aJ (decDigits (u/10))++[.int .u8 ((48+u%10:Nat):Int)]:=by rw [ta h];show List.map _ (_++_)=_;rw [List.map_append];show _++[o.int .u8 ((u8 (48+u%10)).toNat:Int)]=_;rw [BP (by omega)];rfl
def iP(u kC:Nat):J:=o2 (aJ (decDigits u)++List.replicate (24-kC) gT)
theorem abu{u:Nat}(p:100≤u)(ae:u<1000):aI Tryz.prog aw 121 [.slice (some ⟨0,0,0,1,24⟩) 3 24,.int .u64 u] (j.rows 1 [(0,kB)]) (.tuple []) (j.au 46 [(0,iP u 3)]):=by
 obtain⟨v,aa,aD,rfl,rfl⟩:=abl u (fun v aa=>v=.tuple []∧aa=j.au 46 [(0,iP u 3)]) (by
  simp only [x',ya,nX (show u%100<100 by omega),nY (show u%100<100 by omega)];refine⟨by omega,by omega,by omega,⟨by omega,nZ (by omega)⟩,by omega,by omega,by omega,by omega,by omega,True.intro,?_⟩;unfold iP o2;rw [jh (by omega),jh (by omega),yb (by omega),Nat.div_div_eq_div_mul];simp only [show 10*10=100 from rfl,show u/10%10=u%100/10 by omega,show u%10=u%100%10 by omega]
  rfl)
 exact aD
theorem abv{u:Nat}(p:1000≤u)(ae:u<10000):aI Tryz.prog aw 121 [.slice (some ⟨0,0,0,1,24⟩) 4 24,.int .u64 u] (j.rows 1 [(0,kB)]) (.tuple []) (j.au 62 [(0,iP u 4)]):=by
 obtain⟨v,aa,aD,rfl,rfl⟩:=abm u (fun v aa=>v=.tuple []∧aa=j.au 62 [(0,iP u 4)]) (by
  simp only [x',ya,BN,BO,nX (show u%10000%100<100 by omega),nY (show u%10000%100<100 by omega),nX (show u%10000/100<100 by omega),nY (show u%10000/100<100 by omega)];refine⟨by omega,by omega,⟨by omega,nZ (by omega)⟩,⟨by omega,nZ (by omega)⟩,by omega,by omega,by omega,by omega,by omega,by omega,by omega,by omega,by omega,True.intro,?_⟩;unfold iP o2;rw [jh (by omega),jh (by omega),jh (by omega),yb (by omega)];simp only [Nat.div_div_eq_div_mul,Nat.reduceMul,show 48+u/1000=48+u%10000/100/10 by omega,show u/100%10=u%10000/100%10 by omega,show u/10%10=u%10000%100/10 by omega,show u%10=u%10000%100%10 by omega]
  rfl)
 exact aD
theorem abw{u:Nat}(p:10000≤u)(ae:u<100000):aI Tryz.prog aw 121 [.slice (some ⟨0,0,0,1,24⟩) 5 24,.int .u64 u] (j.rows 1 [(0,kB)]) (.tuple []) (j.au 68 [(0,iP u 5)]):=by
 obtain⟨v,aa,aD,rfl,rfl⟩:=abn u (fun v aa=>v=.tuple []∧aa=j.au 68 [(0,iP u 5)]) (by
  simp only [x',ya,BN,BO,nX (show u%10000%100<100 by omega),nY (show u%10000%100<100 by omega),nX (show u%10000/100<100 by omega),nY (show u%10000/100<100 by omega)];refine⟨by omega,by omega,⟨by omega,nZ (by omega)⟩,⟨by omega,nZ (by omega)⟩,by omega,by omega,by omega,by omega,by omega,by omega,by omega,by omega,by omega,by omega,by omega,True.intro,?_⟩;unfold iP o2;rw [jh (by omega),jh (by omega),jh (by omega),jh (by omega),yb (by omega)];simp only [Nat.div_div_eq_div_mul,Nat.reduceMul,show u/1000%10=u%10000/100/10 by omega,show u/100%10=u%10000/100%10 by omega,show u/10%10=u%10000%100/10 by omega,show u%10=u%10000%100%10 by omega]
  rfl)
 exact aD
theorem abx{u:Nat}(p:100000≤u)(ae:u<1000000):aI Tryz.prog aw 121 [.slice (some ⟨0,0,0,1,24⟩) 6 24,.int .u64 u] (j.rows 1 [(0,kB)]) (.tuple []) (j.au 87 [(0,iP u 6)]):=by
 obtain⟨v,aa,aD,rfl,rfl⟩:=abo u (fun v aa=>v=.tuple []∧aa=j.au 87 [(0,iP u 6)]) (by
  simp only [x',ya,BN,BO,nX (show u%10000%100<100 by omega),nY (show u%10000%100<100 by omega),nX (show u%10000/100<100 by omega),nY (show u%10000/100<100 by omega),nX (show u/10000%100<100 by omega),nY (show u/10000%100<100 by omega)];refine⟨by omega,by omega,⟨by omega,nZ (by omega)⟩,⟨by omega,nZ (by omega)⟩,by omega,by omega,by omega,by omega,by omega,by omega,by omega,by omega,by omega,by omega,by omega,⟨by omega,nZ (by omega)⟩,by omega,by omega,by omega,True.intro,?_⟩;unfold iP o2;rw [jh (by omega),jh (by omega),jh (by omega),jh (by omega),jh (by omega),yb (by omega)];simp only [Nat.div_div_eq_div_mul,Nat.reduceMul,show 48+u/100000=48+u/10000%100/10 by omega,show u/10000%10=u/10000%100%10 by omega,show u/1000%10=u%10000/100/10 by omega,show u/100%10=u%10000/100%10 by omega,show u/10%10=u%10000%100/10 by omega,show u%10=u%10000%100%10 by omega]
  rfl)
 exact aD
theorem aby{u:Nat}(p:1000000≤u)(ae:u<10000000):aI Tryz.prog aw 121 [.slice (some ⟨0,0,0,1,24⟩) 7 24,.int .u64 u] (j.rows 1 [(0,kB)]) (.tuple []) (j.au 93 [(0,iP u 7)]):=by
 obtain⟨v,aa,aD,rfl,rfl⟩:=abp u (fun v aa=>v=.tuple []∧aa=j.au 93 [(0,iP u 7)]) (by
  simp only [x',ya,BN,BO,nX (show u%10000%100<100 by omega),nY (show u%10000%100<100 by omega),nX (show u%10000/100<100 by omega),nY (show u%10000/100<100 by omega),nX (show u/10000%100<100 by omega),nY (show u/10000%100<100 by omega)];refine⟨by omega,by omega,⟨by omega,nZ (by omega)⟩,⟨by omega,nZ (by omega)⟩,by omega,by omega,by omega,by omega,by omega,by omega,by omega,by omega,by omega,by omega,by omega,⟨by omega,nZ (by omega)⟩,by omega,by omega,by omega,by omega,by omega,True.intro,?_⟩;unfold iP o2;rw [jh (by omega),jh (by omega),jh (by omega),jh (by omega),jh (by omega),jh (by omega),yb (by omega)];simp only [Nat.div_div_eq_div_mul,Nat.reduceMul,show u/100000%10=u/10000%100/10 by omega,show u/10000%10=u/10000%100%10 by omega,show u/1000%10=u%10000/100/10 by omega,show u/100%10=u%10000/100%10 by omega,show u/10%10=u%10000%100/10 by omega,show u%10=u%10000%100%10 by omega]
  rfl)
 exact aD
end Go.Proofs.YtddnafghiejcoaaGreatDoor
namespace Go.Proofs.YtddnafghiejcoaaGreatDoor
open Go.cH Go.Keys
set_option maxRecDepth 1000000
structure eN(H:j)(C:Nat)(v:o)(bs:Bytes):Prop where
 ex:∃b:J,v=.slice (some ⟨C,b.R,0,0,1⟩) bs.length bs.length∧H.get C=some b∧b.ro=false∧b.bi=aJ bs∧(b.exact=false→b.an=none∨b.an=some (5,0))
 lt:C<H.next
theorem eN.cN{H aR:j}{C:Nat}{v:o}{bs:Bytes}(g:eN H C v bs)(ah:aR.get C=H.get C)(aM:H.next≤aR.next):eN aR C v bs:=by obtain⟨b,p,ae,bg⟩:=g.ex;have aB:=g.lt;exact⟨⟨b,p,by rw [ah];exact ae,bg⟩,by omega⟩
theorem eN.bi{H:j}{C:Nat}{v:o}{bs:Bytes}(g:eN H C v bs):eW 1 v H=some (aJ bs):=by
 obtain⟨b,rfl,ae,bg,bO,bJ⟩:=g.ex;simp only [eW,if_true,ae];split
 ·rename_i h;rw [List.eq_nil_of_length_eq_zero h];rfl
 ·rw [if_pos ⟨by simp [J.cE,bO,aJ],by simp [bO,aJ]⟩,bO];rw [List.drop_zero,List.take_of_length_le (by rw [iK];omega)]
theorem eN.made{H:j}{C:Nat}{bs:Bytes}{e:Bool}{an:Option (TypeId×Nat)}(ah:H.get C=some (J.made (aJ bs) 1 e an))(aB:C<H.next)(b7:e=false→an=none∨an=some (5,0)):eN H C (.slice (some ⟨C,0,0,0,1⟩) bs.length bs.length) bs:=⟨⟨_,rfl,ah,rfl,rfl,b7⟩,aB⟩
theorem eN.gy{H:j}{C bh:Nat}{v x:o}{bs new:Bytes}(g:eN H C v bs)(af:eW 1 x H=some (aJ new))(bZ:new≠[])(hlen:bs.length+new.length<2^40)(aM:bh<H.next) :
 ∃bp aR gq,hi env.D 34 v x bh H=some (bp,aR)∧eN aR gq bp (bs++new)∧(gq=C∨gq=bh)∧aR.next=H.next∧∀i,i≠C→i≠bh→aR.get i=H.get i:=by
 have fC:=g.bi;obtain⟨b,rfl,ae,bg,bO,bJ⟩:=g.ex;have eC:(aJ new).length=new.length:=iK new;have ii:0<new.length:=List.length_pos_iff.2 bZ;rw [←sw u3];cases he:b.exact with
 |true =>
  refine⟨_,_,bh,TP u3 af (by rw [eC];omega) (by rw [eC];omega) ae ⟨rfl,rfl⟩ (by rw [eC];omega) he fC,?_,.inr rfl,rfl,fun i du cI=>j.e1 _ _ (Ne.symm cI)⟩;refine⟨⟨_,?_,j.gG _ _ _,rfl,by simp [J.made,aJ],fun _=> .inr rfl⟩,aM⟩;simp [j1,J.made,eC]
 |false =>
  have abz:aJ new≠[]:=by intro h;have:=congrArg List.length h;rw [eC,List.length_nil]at this;omega
  refine⟨_,_,C,KJ u3 af abz (by rw [eC];omega) (by rw [eC];omega) ae ⟨rfl,rfl⟩ (by rw [eC];omega) he bg rfl (by simp [bO,iK]) (bJ he),?_,.inl rfl,rfl,fun i du cI=>j.e1 _ _ (Ne.symm du)⟩;refine⟨⟨_,?_,j.gG _ _ _,bg,by simp [J.grow,bO,aJ],fun _=>bJ he⟩,g.lt⟩;simp [J.grow,eC]
theorem BQ(s x:o)(bh:Nat)(h:j):gn env .append #[34,34] [s,x] bh h=hi env.D 34 s x bh h:=sw u3 s
theorem yc(s x:o)(bh:Nat)(h:j):gn env .append #[34,9] [s,x] bh h=hi env.D 34 s x bh h:=by
 have ae:(b4.D env 9).map (fun d=>d.kind)=some .string:=by kernel_rfl
 obtain⟨d,p,k⟩:=Option.map_eq_some_iff.1 ae;simp only [gn,List.getElem?_toArray,List.getElem?_cons_zero,List.getElem?_cons_succ,p,k]
def HV(i:Nat):Bytes:=if i<10 then [u8 (48+i)]else [u8 (48+i/10),u8 (48+i%10)]
theorem abA{i:Nat}(h:i<100):Lib.decDigits i=HV i:=by
 unfold HV;split
 ·exact tb ‹_›
 ·rw [ta (by omega),tb (by omega)];rfl
def Pw(r:Option (o×j))(i:Nat):Bool:=match r with|some (.str s,_)=>decide (s=HV i)|_=>false
theorem abB:∀i:Fin 100,Pw (oy Tryz.prog env 40 119 [.int .i64 (i.val:Int)] ⟨0,.nil⟩) i.val=true:=by decide+kernel
theorem abC{i:Nat}(h:i<100)(H:j):aI Tryz.prog aw 119 [.int .i64 (i:Nat)] H (.str (Lib.decDigits i)) H:=by
 have k:=abB ⟨i,h⟩;simp only at k;unfold Pw at k;split at k
 ·rename_i s p be;rw [wk]at be;have aq:=of_decide_eq_true k;rw [abA h,←aq];exact(aI.tO bU mixed be).bare (fun a aS=>by rw [List.mem_singleton.1 aS];exact cT.of rfl) (cT.of rfl) H
 ·cases k
abbrev u5(kC:Nat)(x:Nat):o:=o.slice (some ⟨x,0,0,1,24⟩) kC 24
theorem Px(H H1 aH aW bV:j)(C R k n kC x:Nat)(s:Bytes)(v1 v2:o)(ab:o→j→Prop)(aY:bF (H.next) (H.next) (bF (H.next) (H.next+1) (bF (H.next+6) (H.next+6) (bF (H.next+6) (H.next+7) ((0≤(n:Int)∧(n:Int)≤18446744073709551615)∧bF (H.next+6) (H.next+10) (some (o.bool false)=some (o.bool false)∧bF (H.next+6) (H.next+12) (bF (H.next+17) (H.next+17) (bF (H.next+17) (H.next+18) (bF (H.next+17) (H.next+20) (((n:Int)<100→bF (H.next+17) (H.next+22) ((-9223372036854775808≤(n:Int)∧(n:Int)≤9223372036854775807)∧cW Tryz.prog aw 119 [.int .i64 (n:Int)] (j.mk (H.next+28) (H.2)) (.str s) (j.mk (H.next+28) (H.2))∧gn env Builtin.append {toList:=[34,9]} [.slice (some ⟨C,R,0,0,1⟩) k k,.str s] (H.next+26) (j.mk (H.next+28) (H.2))=some (v1,H1)∧bN (H.next+17) (H1.next) (bN (H.next+6) (H1.next) (bN (H.next) (H1.next) (ab v1 H1)))))∧(¬(n:Int)<100→bF (H.next+17) (H.next+22) (bX env eM (H.next+22) (bR [(12,.bool false),(11,.int .u64 (n:Int)),(10,.bool true),(9,.int .i64 10),(6,.slice none 0 0),(0,.slice (some ⟨C,R,0,0,1⟩) k k),(1,.int .u64 (n:Int)),(2,.int .i64 10)]) (j.mk (H.next+23) (H.2)) (Op.alloc 154)=some (o.ptr (some ⟨x,0,0,0,24⟩),aH)∧bF (H.next+17) (aH.next) (cW Tryz.prog aw 120 [.int .u64 (n:Int)] (j.mk (aH.next+3) (aH.2)) (.int .i64 (kC:Int)) (j.mk (aH.next+3) (aH.2))∧bF (H.next+17) (aH.next+3) (kf env.D 154 (.ptr (some ⟨x,0,0,0,24⟩)) none (some (.int .i64 (kC:Int))) none=some ((u5 kC x))∧cW Tryz.prog aw 121 [(u5 kC x),.int .u64 (n:Int)] (j.mk (aH.next+7) (aH.2)) (.tuple []) aW∧bF (H.next+17) (aW.next) (kf env.D 154 (.ptr (some ⟨x,0,0,0,24⟩)) none (some (.int .i64 (kC:Int))) none=some ((u5 kC x))∧gn env Builtin.append {toList:=[34,34]} [.slice (some ⟨C,R,0,0,1⟩) k k,(u5 kC x)] (aW.next+3) (j.mk (aW.next+5) (aW.2))=some (v2,bV)∧bN (H.next+17) (bV.next) (bN (H.next+6) (bV.next) (bN (H.next) (bV.next) (ab v2 bV)))))))))))))))))) :
 ∃v p,aI Tryz.prog aw 73 [.slice (some ⟨C,R,0,0,1⟩) k k,.int .i64 n,.int .i64 10] H v p∧ab v p :=
 cf bU mixed gL (aq:=he 1003 (ah 1001 (.aA (.val 2001 (.bool false)) (he 5003 (.aN 2001 (ah 3002 (.aA (.val 3003 (.str s)) (.aA (.act 3004 v1 fun x=>H1) .nil))) (.aA (.act 4000 (.ptr (some ⟨x,0,0,0,24⟩)) fun x=>aH) (.aA (.val 5001 (.int .i64 (kC:Int))) (.aA (.val 6001 ((u5 kC x))) (.aA (.act 6003 (.tuple []) fun x=>aW) (.aA (.val 7002 ((u5 kC x))) (.aA (.act 7003 v2 fun x=>bV) .nil))))))))))) (by kernel_rfl) aY
theorem abD{l:List o}(h:nV l=true):cT (.agg l):=by
 have av:=O6 h;refine⟨fun r=> ?_,?_⟩
 ·have:∀(l:List o),(∀a∈l,cT a)→o.gz r l=l:=by
   intro l;induction l with
   |nil=>intro _;rfl
   |cons a t ih=>intro h;rw [o.gz,(h a (by simp)).1 r,ih fun x af=>h x (by simp [af])]
  rw [o.bc,this l av]
 ·have:∀(l:List o),(∀a∈l,cT a)→fo (fun _=>False) l:=by
   intro l;induction l with
   |nil=>intro _;exact trivial
   |cons a t ih=>intro h;exact⟨(h a (by simp)).2,ih fun x af=>h x (by simp [af])⟩
  exact this l av
theorem HW{l:List o}(h:nV l=true):dt (o2 l):=by intro e he;simp only [o2,J.made,List.mem_singleton]at he;subst he;exact abD h
theorem abE(a b:List o):nV (a++b)=(nV a&&nV b):=by simp [nV]
theorem abF(l:Bytes):nV (aJ l)=true:=by simp [nV,aJ]
theorem abG(u kC:Nat):dt (iP u kC):=HW (by rw [abE,abF];simp [nV,gT])
theorem abH{u:Nat}(p:100≤u)(ae:u<10000000):∃k,aI Tryz.prog aw 121 [.slice (some ⟨0,0,0,1,24⟩) (jQ u) 24,.int .u64 u] (j.of [kB]) (.tuple []) (j.au (k+1) [(0,iP u (jQ u))]):=by
 have e:j.of [kB]=j.rows 1 [(0,kB)]:=by kernel_rfl
 rw [e];unfold jQ;rw [if_neg (by omega),if_neg (by omega)];by_cases a:u<1000
 ·rw [if_pos a];exact⟨45,abu p a⟩
 ·rw [if_neg a];by_cases b:u<10000
  ·rw [if_pos b];exact⟨61,abv (by omega) b⟩
  ·rw [if_neg b];by_cases c:u<100000
   ·rw [if_pos c];exact⟨67,abw (by omega) c⟩
   ·rw [if_neg c];by_cases d:u<1000000
    ·rw [if_pos d];exact⟨86,abx (by omega) d⟩
    ·rw [if_neg d,if_pos ae];exact⟨92,aby (by omega) ae⟩
theorem abI{u x:Nat}{H:j}(p:100≤u)(ae:u<10000000)(ah:H.get x=some kB)(af:x<H.next) :
 ∃aR,aI Tryz.prog aw 121 [.slice (some ⟨x,0,0,1,24⟩) (jQ u) 24,.int .u64 u] H (.tuple []) aR∧aR.get x=some (iP u (jQ u))∧H.next≤aR.next∧∀i,i<H.next→i≠x→aR.get i=H.get i:=by
 obtain⟨k,aD⟩:=abH p ae;have jZ:dH [x] H.next 0=x:=sC (ids:=[x]) (by simp)
 obtain⟨aR,hH,aM,eT,jr⟩:=aD.place (by show 1≤k+1;omega) (fun b av=>by rw [List.mem_singleton.1 av];exact(HW (by decide)).e2 _) ⟨by show(0:Nat)<1;decide,trivial,trivial⟩ (H:=H) [x] (by simp) (fun C aX=>by rw [List.mem_singleton.1 aX];exact af) rfl (fun i b h=>by
  cases i with
  |zero =>
   simp only [List.getElem?_cons_zero,Option.some.injEq]at h;subst h;rw [jZ,(HW (by decide)).bc];exact ah
  |succ i=>simp at h)
 have g:=eT 0 (iP u (jQ u)) rfl;rw [jZ,(abG u (jQ u)).bc]at g;refine⟨aR,?_,g,by rw [aM];omega,fun i al abJ=>jr i al (by simpa using abJ)⟩;simpa [o.bc,o.gz,bH.bc,jZ]using hH
theorem abK{u:Nat}(p:100≤u)(ae:u<10000000):3≤jQ u∧jQ u≤7:=by
 unfold jQ
 repeat' split
 all_goals omega
theorem Py(u:Nat)(h:u<10000000):(Lib.decDigits u).length=jQ u:=by rw [Lib.decDigits_length,KO _ (by omega)]
theorem abL{u x n:Nat}{H:j}(ae:u<10000000)(ah:H.get x=some (iP u n))(aM:n=jQ u)(mg:n≠0)(afv:n≤24):eW 1 (.slice (some ⟨x,0,0,1,24⟩) n 24) H=some (aJ (Lib.decDigits u)):=by
 have aB:=Py u ae;have eC:(aJ (Lib.decDigits u)).length=n:=by rw [iK,aB,aM]
 simp only [eW];rw [if_neg (by decide),if_neg mg];simp only [if_true,ah];simp only [iP,o2,J.made,J.elem?,J.cE,if_true,List.length_cons,List.length_nil];simp only [Nat.lt_add_one,if_true,List.getElem?_cons_zero];have b7:List.take n (aJ (Lib.decDigits u)++List.replicate (24-n) gT)=aJ (Lib.decDigits u):=by rw [←eC,List.take_left]
 have gi:(List.take n (List.drop (1-1) (aJ (Lib.decDigits u)++List.replicate (24-n) gT))).all (fun x=>x.jD)=true:=by show(List.take n (List.drop 0 _)).all _=true;rw [List.drop_zero,b7];simp [aJ,o.jD]
 rw [if_pos ⟨by simp [eC];try omega,gi⟩];show some (List.take n (List.drop 0 _))=_;rw [List.drop_zero,b7]
theorem Pz{x n:Nat}(aM:n≤24):kf (b4.D env) 154 (o.ptr (some ⟨x,0,0,0,24⟩)) none (some (o.int .i64 (n:Nat))) none=some (o.slice (some ⟨x,0,0,1,24⟩) n 24):=by
 have p:(b4.D env 154).map (fun d=>d.kind)=some (.array 24 5):=by kernel_rfl
 have bg:(b4.D env 5).map (fun d=>d.size)=some 1:=by kernel_rfl
 obtain⟨ko,d1,aL⟩:=Option.map_eq_some_iff.1 p;obtain⟨ps,d3,bq⟩:=Option.map_eq_some_iff.1 bg;simp only [kf,d1,aL,d3,bq,gX];rw [if_neg (by simp),if_pos ⟨by omega,by omega⟩];simp
theorem PA{H:j}{C n:Nat}{v:o}{bs:Bytes}(g:eN H C v bs)(av:bs.length<2^32)(aM:n<10000000) :
 ∃bp aR gq,aI Tryz.prog aw 73 [v,.int .i64 (n:Nat),.int .i64 10] H bp aR∧eN aR gq bp (bs++Lib.decDigits n)∧(gq=C∨H.next≤gq)∧H.next≤aR.next∧∀i,i<H.next→i≠C→aR.get i=H.get i:=by
 have ga:∀{a b:Nat}{I:Prop},a≤b→I→_root_.cond (Nat.ble a b) I False:=fun h k=>by rw [Nat.ble_eq.mpr h];exact k
 have aB:=Py n aM;have bZ:=abk n;have tc:(Lib.decDigits n).length≤7:=HT (k:=6) (by simpa using aM);have BR:=g.lt;obtain⟨b,rfl,_⟩:=g.ex;by_cases aq:n<100
 ·obtain⟨bp,aR,gq,aS,dA,aX,ky,hold⟩:=(g.cN (aR:=⟨H.next+28,H.aT⟩) rfl (by show H.next≤H.next+28;omega)).gy (bh:=H.next+26) (x:= .str (Lib.decDigits n)) (by rfl) bZ (by omega) (by show H.next+26<H.next+28;omega);have ky:aR.next=H.next+28:=ky
  obtain⟨v,aa,aD,rfl,rfl⟩:=Px H aR H H H C b.R bs.length n 0 0 (Lib.decDigits n) bp (.undef) (fun v aa=>v=bp∧aa=aR)
   (bB (Nat.le_refl _) (bB (by omega) (bB (by omega) (bB (by omega) ⟨by omega,bB (by omega) ⟨rfl,bB (by omega) (bB (by omega) (bB (by omega) (bB (by omega) ⟨fun _=>bB (by omega) ⟨by omega,⟨abC aq _⟩,(yc _ _ _ _).trans aS,ga (by omega) (ga (by omega) (ga (by omega) ⟨rfl,rfl⟩))⟩,fun h=>absurd (by omega) h⟩)))⟩⟩))))
  refine⟨_,_,gq,aD,dA,?_,by omega,fun i al iB=>hold i iB (by omega)⟩;rcases aX with h|h
  ·exact .inl h
  ·exact .inr (by omega)
 ·
   have afw:=abK (u:=n) (by omega) aM
   obtain⟨aH,u2,jt,gP,iN⟩:∃aH,(∀F,bX env eM (H.next+22) (bR F) ⟨H.next+23,H.aT⟩ (Op.alloc 154)=some (.ptr (some ⟨H.next+22,0,0,0,24⟩),aH))∧aH.get (H.next+22)=some kB∧(∀i,i<H.next→aH.get i=H.get i)∧aH.next=H.next+23 :=
    ⟨(⟨H.next+23,H.aT⟩:j).set (H.next+22) kB,fun F=>by kernel_rfl,j.gG _ _ _,fun i al=>j.e1 _ _ (by omega),rfl⟩
   obtain⟨aW,a6,nP,jf,hv⟩:=abI (u:=n) (x:=H.next+22) (H:=⟨aH.next+7,aH.aT⟩) (by omega) aM jt (by show H.next+22<aH.next+7;omega);have jf:aH.next+7≤aW.next:=jf
   have abM:aI Tryz.prog aw 120 [.int .u64 (n:Nat)] ⟨aH.next+3,aH.aT⟩ (.int .i64 (jQ n:Nat)) ⟨aH.next+3,aH.aT⟩:=aI.S6 KP (by
    simp only [zR]
    rw [if_pos ⟨by omega,by omega⟩,Int.toNat_natCast])
   have g3:eN ⟨aW.next+5,aW.aT⟩ C (.slice (some ⟨C,b.R,0,0,1⟩) bs.length bs.length) bs:=g.cN (by
    show aW.get C=H.get C;rw [hv C (by show C<aH.next+7;omega) (by omega)]
    exact gP C BR) (by show H.next≤aW.next+5;omega)
   obtain⟨bp,aR,gq,aS,dA,aX,ky,hold⟩:=g3.gy (bh:=aW.next+3) (x:= .slice (some ⟨H.next+22,0,0,1,24⟩) (jQ n) 24) (abL (H:=⟨aW.next+5,aW.aT⟩) aM nP rfl (by omega) (by omega)) bZ (by omega) (by show aW.next+3<aW.next+5;omega);have ky:aR.next=aW.next+5:=ky
   obtain⟨v,aa,aD,rfl,rfl⟩:=Px H H aH aW aR C b.R bs.length n (jQ n) (H.next+22) [] (.undef) bp (fun v aa=>v=bp∧aa=aR)
    (bB (Nat.le_refl _) (bB (by omega) (bB (by omega) (bB (by omega) ⟨by omega,bB (by omega) ⟨rfl,bB (by omega) (bB (by omega) (bB (by omega) (bB (by omega) ⟨fun h=>absurd h (by omega),fun _=>bB (by omega) ⟨u2 _,bB (by omega) ⟨⟨abM⟩,bB (by omega) ⟨Pz (by omega),⟨a6⟩,bB (by omega) ⟨Pz (by omega),(BQ _ _ _ _).trans aS,ga (by omega) (ga (by omega) (ga (by omega) ⟨rfl,rfl⟩))⟩⟩⟩⟩⟩)))⟩⟩))))
   refine⟨_,_,gq,aD,dA,?_,by omega,fun i al iB=> ?_⟩
   ·rcases aX with h|h
    ·exact .inl h
    ·exact .inr (by omega)
   ·rw [hold i iB (by omega)];show aW.get i=_;rw [hv i (by show i<aH.next+7;omega) (by omega)];exact gP i al
end Go.Proofs.YtddnafghiejcoaaGreatDoor
