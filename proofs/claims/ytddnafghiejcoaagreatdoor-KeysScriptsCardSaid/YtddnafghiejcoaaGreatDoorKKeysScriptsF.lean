/-
  Parts of the proof of KeysScripts.
-/
import Derived.Lib.ItoaNum
import Derived.Shelf.Strings.Search3
import Derived.Lib.AtoiAll
import Derived.Lib.AtoiErrMem
import Derived.Shelf.Strconv.AtoiAll
import Derived.Test.YtddnafghiejcoaaGreatDoorKKeysScriptsE
set_option linter.unusedVariables false
set_option linter.unusedSimpArgs false
namespace Go.Proofs.YtddnafghiejcoaaGreatDoor
open Go.bh Go.Keys
set_option maxRecDepth 1000000
set_option maxHeartbeats 4000000
theorem PE(x:Bytes)(n k:Nat):List.take n (List.drop k (aG x))=aG ((x.drop k).take n):=by simp [aG,List.map_drop,List.map_take]
theorem PF(x:Bytes)(c:UInt8)(h:2<=x.length):strOf (List.take (Int.toNat (((x.length+1:Nat):Int)-1)-2) (List.drop 2 (List.append (aG x) [J.int .u8 c.toNat])))=x.drop 2:=by show strOf (List.take _ (List.drop 2 (aG x++_)))=_;rw [jW,PE,hb,mJ h,show Int.toNat (((x.length+1:Nat):Int)-1)-2=(x.drop 2).length by rw [ep];omega,tE (Nat.le_refl _),jH]
theorem F1(x:Bytes)(h:x≠[]):(aG x)[0+Int.toNat ((x.length:Int)-1)]? =some (J.int .u8 (x.getLastD 0).toNat):=by
 have e:0+Int.toNat ((x.length:Int)-1)=x.length-1:= V;rw [e]
 have:x[x.length-1]? =some (x.getLastD 0):=by rw [<-List.getLast?_eq_getElem?,List.getLastD_eq_getLast?,List.getLast?_eq_some_getLast h];rfl
 unfold aG;rw [fc,this];rfl
theorem PG(x:Bytes)(h:x≠[]):aL (aG x) (0+Int.toNat ((x.length:Int)-1))=(x.getLastD 0).toNat:=by unfold aL;rw [F1 x h]
theorem PH{D aV K P O:ac}{h:T}{pv ov:J}{ty uty:bj}{ab m g:Nat}{ai aw:Bytes}{es:List aP}{a:bO}{j0 j1 j2 j3:Int}{c:UInt8}(b:Nat.ble 5 h.Y=true)(e0:h.get 0=some (bB 0 (b1 .sequence) 1 (.slice (some ⟨2,ab,0,0,1⟩) ai.length ai.length) pv false ov ty))(aI:h.get 1=some (bJ [] j0 j1 j2 j3 uty))
 (aO:h.get 2=some (bL (aG ai) 1 ab m g bZ)) (e:h.get 3=some P) (f:h.get 4=some O) (n:ai≠[]) (ae:gM (T.of [D,aV,K,P,O]) 0 a.p pv aw) (q:gN (T.of [D,aV,K,P,O]) 0 a.o ov es) (i:a.u=1/\(a.k=0\/a.k=2)/\(a.p=0\/a.p=3)/\(a.o=0\/a.o=4)) (d:a.k=2)
 (l:es.length<2^30-8) {R:T->Prop} (j:∀ad aC,bS ad 0 aC (Keys.bad ⟨.sequence,ai,[],aw⟩ c).1 (es++(Keys.bad ⟨.sequence,ai,[],aw⟩ c).2)->Fr (T.of [D,aV,K,P,O]) ad 0 a aC->R ad) :
 cF (2^30-8) dr h ⟨0,0,0,0,6⟩ c.toNat/\∀ad,cG Keys.bad h ⟨0,0,0,0,6⟩ c.toNat ad->_root_.cond (Nat.ble 5 ad.Y) (R ad) False:=by
 have b:=hC b;exact sg (s:=⟨.sequence,ai,[],aw⟩) rfl b (vu (ks:= .grown []) (gq rfl b e0 aI (.inr d) e f (kE aA rfl rfl aO) V ae q i (.inr (.inr ⟨rfl,d⟩))) n) l an ⟨rfl,.inr rfl⟩ j
theorem F2{D aV K P O:ac}{h:T}{pv ov:J}{ty uty:bj}{ab m f len:Nat}{l:List J}{ai aw:Bytes}{es:List aP}{a:bO}{j0 j1 j2 j3:Int}(b:Nat.ble 5 h.Y=true)(e0:h.get 0=some (bB 0 (b1 .sequence) 1 (.slice (some ⟨2,ab,0,0,1⟩) len len) pv false ov ty))(aI:h.get 1=some (bJ [] j0 j1 j2 j3 uty))
 (aO:h.get 2=some (bL l 1 ab m f bZ)) (d:h.get 3=some P) (e:h.get 4=some O) (hlen:len=ai.length) (hle:l=aG ai) (i:ai≠[]) (ae:gM (T.of [D,aV,K,P,O]) 0 a.p pv aw) (j:gN (T.of [D,aV,K,P,O]) 0 a.o ov es) (g:a.u=1/\(a.k=0\/a.k=2)/\(a.p=0\/a.p=3)/\(a.o=0\/a.o=4)) (c:a.k=2) :
 ∃aC,bS h 0 aC ⟨.sequence,ai,[],aw⟩ es/\Fr (T.of [D,aV,K,P,O]) h 0 a aC:=by
 have b:=hC b;exact li (s:=⟨.sequence,ai,[],aw⟩) (ks:= .grown []) (gq rfl b e0 aI (.inr c) d e (kE aA hlen hle aO) V ae j g (.inr (.inr ⟨rfl,c⟩))) i
theorem PI{ai aw:Bytes}{c:UInt8}(h:64<=c.toNat/\c.toNat<=126):Keys.sequence ⟨.sequence,ai,[],aw⟩ c=Keys.done ⟨.sequence,ai++[c],[],aw⟩ (ai.drop 2) c:=by simp only [Keys.sequence,aE h]
theorem PJ{ai aw:Bytes}{c:UInt8}(h:¬(64<=c.toNat/\c.toNat<=126))(h2:c.toNat<32\/63<c.toNat\/48<=c.toNat/\(ai.getLastD 0).toNat<48):Keys.sequence ⟨.sequence,ai,[],aw⟩ c=Keys.bad ⟨.sequence,ai,[],aw⟩ c:=by simp only [Keys.sequence,ap h,aE h2]
theorem PK{ai aw:Bytes}{c:UInt8}(h:¬(64<=c.toNat/\c.toNat<=126))(h2:¬(c.toNat<32\/63<c.toNat\/48<=c.toNat/\(ai.getLastD 0).toNat<48))(a:ai.length+1=64):Keys.sequence ⟨.sequence,ai,[],aw⟩ c=(⟨.ground,[],[],aw⟩,[cQ (ai++[c])]):=by simp only [Keys.sequence,ap h,ap h2,aE a,tell]
theorem PL{ai aw:Bytes}{c:UInt8}(h:¬(64<=c.toNat/\c.toNat<=126))(h2:¬(c.toNat<32\/63<c.toNat\/48<=c.toNat/\(ai.getLastD 0).toNat<48))(a:ai.length+1≠64):Keys.sequence ⟨.sequence,ai,[],aw⟩ c=(⟨.sequence,ai++[c],[],aw⟩,[]):=by simp only [Keys.sequence,ap h,ap h2,ap a]
set_option hygiene false in
def s0(s:bq)(c:UInt8):Prop:=s.nx=.sequence/\s.ax=[]/\2<=s.ai.length/\s.ai.length<64
theorem PM{H:T}{d:Nat}{I:bO}{s:bq}{es:List aP}{c:UInt8}(g:bS H d I s es)(R:es.length<2^30-8)(N:s0 s c):∃H',bu 87 [.ptr (some ⟨d,0,0,0,6⟩),.int .u8 c.toNat] H (.tuple []) H' /\
 ∃aC,bS H' d aC (Keys.sequence s c).1 (es++(Keys.sequence s c).2)/\Fr H H' d I aC:=by
 refine oR ?_ g;intro ks kv pv ov ty uty j0 j1 j2 j3 K P O n hs gs u;obtain⟨E,ae,f⟩:=kH gs;obtain⟨nx,ai,ax,aw⟩:=s;obtain⟨h2,aa,F,W⟩:=N;simp only at aa h2 F W hs gs E ae f⊢;subst aa h2
 have U:ks=.grown []:=by
  cases ks with
  |grown j=>cases j with
   |nil=>rfl
   |cons a b=>exact hs.elim
  |_=>exact hs.elim
 subst U;have x:ai≠[]:=hs;obtain⟨av,ab,m,o,rfl,w⟩:=E;have r:n.k=2:= V;rw [r,T.dG]at w;simp only [fe,hj,a6,eg]at w;subst w;rw [r]at ae f⊢;simp only [dx]at ae f⊢;simp only [show decide (gE.sequence=gE.cb)=false from rfl]at ae f⊢;have am:=c.toNat_lt;have X:=kJ ai;have Z:=vB ai c;have a0:=F1 ai x;generalize p:T.of [bB 0 (b1 .sequence) 1 (.slice (some ⟨2,ab,0,0,1⟩) ai.length ai.length) pv false ov ty,bJ [] j0 j1 j2 j3 uty,bL (aG ai) 1 ab m o bZ,P,O]=L at ae f⊢
 suffices S:∃v ad,bu 87 [.ptr (some ⟨0,0,0,0,6⟩),.int .u8 c.toNat] L v ad /\
  (v=.tuple []/\∃aC,bS ad 0 aC (Keys.sequence ⟨.sequence,ai,[],aw⟩ c).1 (es++(Keys.sequence ⟨.sequence,ai,[],aw⟩ c).2)/\Fr L ad 0 n aC)by
  obtain⟨v,ad,Q,rfl,q⟩:=S;exact⟨ad,Q,q⟩
 have C:∀{h:T},¬(64<=c.toNat/\c.toNat<=126)-> ¬(c.toNat<32\/63<c.toNat\/48<=c.toNat/\(ai.getLastD 0).toNat<48)->ai.length+1≠64->Nat.ble 5 h.Y=true->h.get 0=some (bB 0 (b1 .sequence) 1 (.slice (some ⟨2,ab+1,0,0,1⟩) (ai.length+1) (ai.length+1)) pv false ov ty)->h.get 1=some (bJ [] j0 j1 j2 j3 uty)->h.get 2=some (bL (aG ai++[.int .u8 c.toNat]) 1 (ab+1) m (if m=ab then(aG ai).length else min o (aG ai).length) bZ)->h.get 3=some P->h.get 4=some O ->
  True/\∃aC,bS h 0 aC (Keys.sequence ⟨.sequence,ai,[],aw⟩ c).1 (es++(Keys.sequence ⟨.sequence,ai,[],aw⟩ c).2)/\Fr L h 0 n aC:=by
  intro h ao a2 a3 e e0 aI aO i l;rw [PL ao a2 a3,fV];subst p;exact⟨trivial,F2 (ai:=ai++[c]) e e0 aI aO i l an (jW _ _) an ae f u r⟩
 have B:∀{h:T},(64<=c.toNat/\c.toNat<=126)->Nat.ble 5 h.Y=true->h.get 0=some (bB 0 (b1 .sequence) 1 (.slice (some ⟨2,ab+1,0,0,1⟩) (ai.length+1) (ai.length+1)) pv false ov ty)->h.get 1=some (bJ [] j0 j1 j2 j3 uty)->h.get 2=some (bL (aG ai++[.int .u8 c.toNat]) 1 (ab+1) m (if m=ab then(aG ai).length else min o (aG ai).length) bZ)->h.get 3=some P->h.get 4=some O ->
  As (2^30) h ⟨0,0,0,0,6⟩ (ai.drop 2) c.toNat/\∀ad,At h ⟨0,0,0,0,6⟩ (ai.drop 2) c.toNat ad->_root_.cond (Nat.ble 5 ad.Y) (True/\∃aC,bS ad 0 aC (Keys.sequence ⟨.sequence,ai,[],aw⟩ c).1 (es++(Keys.sequence ⟨.sequence,ai,[],aw⟩ c).2)/\Fr L ad 0 n aC) False:=by
  intro h ao e e0 aI aO i l;rw [PI ao];subst p;obtain⟨y,g1,M⟩:=F2 (ai:=ai++[c]) e e0 aI aO i l an (jW _ _) an ae f u r;have e:=hC e;refine⟨⟨rfl,⟨y,_,es,g1,V,rfl,rfl⟩,V,by rw [ep];omega⟩,λad t=> ?_⟩;have az:=t.Y;obtain⟨aC,z,G⟩:=t.all y _ es g1 an;rw [qh]at z;exact e2 V ⟨trivial,aC,z,M.trans G⟩
 have A:∀{h:T},¬(64<=c.toNat/\c.toNat<=126)->(c.toNat<32\/63<c.toNat\/48<=c.toNat/\(ai.getLastD 0).toNat<48)->Nat.ble 5 h.Y=true->h.get 0=some (bB 0 (b1 .sequence) 1 (.slice (some ⟨2,ab,0,0,1⟩) ai.length ai.length) pv false ov ty)->h.get 1=some (bJ [] j0 j1 j2 j3 uty)->h.get 2=some (bL (aG ai) 1 ab m o bZ)->h.get 3=some P->h.get 4=some O ->
  cF (2^30-8) dr h ⟨0,0,0,0,6⟩ c.toNat/\∀ad,cG Keys.bad h ⟨0,0,0,0,6⟩ c.toNat ad->_root_.cond (Nat.ble 5 ad.Y) (True/\∃aC,bS ad 0 aC (Keys.sequence ⟨.sequence,ai,[],aw⟩ c).1 (es++(Keys.sequence ⟨.sequence,ai,[],aw⟩ c).2)/\Fr L ad 0 n aC) False:=by
  intro h ao a2 e e0 aI aO i l;rw [PJ ao a2];subst p;exact PH e e0 aI aO i l x ae f u r R λad aC g b6=>⟨trivial,aC,g,b6⟩
 have D:∀{h:T}{b3:J},¬(64<=c.toNat/\c.toNat<=126)-> ¬(c.toNat<32\/63<c.toNat\/48<=c.toNat/\(ai.getLastD 0).toNat<48)->ai.length+1=64->Nat.ble 5 h.Y=true->h.get 0=some (bB 0 (b1 .sequence) 1 (.slice (some ⟨2,ab+1,0,0,1⟩) (ai.length+1) (ai.length+1)) pv false ov ty)->h.get 1=some (bJ [] j0 j1 j2 j3 uty)->h.get 2=some (bL (aG ai++[.int .u8 c.toNat]) 1 (ab+1) m (if m=ab then(aG ai).length else min o (aG ai).length) bZ)->h.get 3=some P->h.get 4=some O->b3=bi (cQ (ai++[c])) ->
  bU h ⟨0,0,0,0,6⟩ b3/\∀ad,bV h ⟨0,0,0,0,6⟩ b3 ad->_root_.cond (Nat.ble 5 ad.Y) (True/\∃aC,bS ad 0 aC (Keys.sequence ⟨.sequence,ai,[],aw⟩ c).1 (es++(Keys.sequence ⟨.sequence,ai,[],aw⟩ c).2)/\Fr L ad 0 n aC) False:=by
  intro h b3 ao a2 a3 e e0 aI aO i l he;rw [PK ao a2 a3];subst p;exact oU (ai:=ai++[c]) e e0 aI aO i l an (jW _ _) ae f u r he V an λad aC g b6=>⟨trivial,aC,g,b6⟩
 rw [<-p];rw [<-p]at C B A D;refine PD (b1 .sequence) pv ov ty (bJ [] j0 j1 j2 j3 uty) P O (aG ai) ab m o ai.length c.toNat _ ?_
 delta sZ cw fx sq sp dw de ms dd fw qo qn mr
 simp only [vD,PF ai c F,PG ai x]
 repeat' (first
  |exact True.intro
  |assumption
  |exact C V V V ar ar ar ar ar ar
  |exact B V ar ar ar ar ar ar
  |exact A V V ar ar ar ar ar ar
  |exact D V V V ar ar ar ar ar ar rfl
  |(exfalso;omega)
  |intro _
  |refine And.intro ?_ ?_
  |rfl
  |omega
  |exact ll _ _ _
  |exact vA _ _ _ _)
theorem PN:∀args h a,hv (2^30-8) s0 Keys.sequence args h=some a->a.cx Tryz.prog ck 87 args h:=nA λH d I s es c g e f b=>PM g e b
def F3:List J->T->Option dm:=hN λa=>match a with | [.str s,.str p]=>some (.bool (p.isPrefixOf s),[])|_=>none
theorem PO:∀args h a,F3 args h=some a->a.cx Tryz.prog ck 146 args h:=by
 refine iz ?_;intro args v ps e ae H;split at e<;>first|(cases e;done)|skip
 simp only [a6,bo]at e;obtain⟨rfl,rfl⟩:=e;exact N0 _ _ H
noncomputable def PP:dB:=vr.add 146 F3
theorem nJ:dv Tryz.prog ck PP:=r2.add PO
abbrev gO(d c a:Nat)(b:List J):ac:=⟨b,1,false,false,d,c,a,some (5,0)⟩
abbrev wo(c e d a:Nat)(f:J)(b:bj):ac:=⟨[.agg [(dw c),.slice (some ⟨2,d,e,0,1⟩) a a,.slice none 0 0,.bool true,.ptr (some ⟨1,0,0,0,5⟩),f]],6,true,false,0,0,0,b⟩
theorem F4(n d b g f a:Nat)(c:List J)(o:J)(k j i:ac)(m:bj)(h:bW->a8->T->Prop)(q:(0<(a:Int)->b=b/\d+a<=c.length/\(∃l,List.take a (List.drop (aT.idx ⟨2,b,d,0,1⟩) (ac.aQ (gO b g f c)))=aG l)/\(List.isPrefixOf (strOf (List.take a (List.drop d c))) (Array.toList #[27,91,50,48,49,126])=true->h (.exit 0) [(0,.ptr (ba 0))] (T.af 20 [(0,(wo n d b a o m)),(1,k),(2,(gO b g f c)),(3,j),(4,i)]))/\(List.isPrefixOf (strOf (List.take a (List.drop d c))) (Array.toList #[27,91,50,48,49,126])=false->((0:Int)<=0/\0<(a:Int))/\b=b/\c[d+0]? =some (.int .u8 (aL c (d+0)))/\((0:Int)<=1/\1<=(a:Int)/\a<=a)/\h .normal [(0,.ptr (ba 0))] (T.af 51 [(0,⟨[.agg [(dw n),.slice (some ⟨2,b,d+1,0,1⟩) (a-1) (a-1),.slice (cX 38) 1 1,.bool true,.ptr (some ⟨1,0,0,0,5⟩),o]],6,true,false,0,0,0,m⟩),(1,k),(2,(gO b g f c)),(3,j),(4,i),(37,ac.aj [.int .u8 (aL c (d+0))] 1 true),(38,ac.aj [.int .u8 (aL c (d+0))] 1 false (some (5,0)))])))/\(¬0<(a:Int)->h (.exit 0) [(0,.ptr (ba 0))] (T.af 20 [(0,(wo n d b a o m)),(1,k),(2,(gO b g f c)),(3,j),(4,i)]))) :
 ∃e p aa,bR 5 80 (br 129 0) [(0,.ptr (ba 0))] (T.rows 5 [(0,bB 0 n 1 (.slice (some ⟨2,b,d,0,1⟩) a a) (.slice none 0 0) true o m),(1,k),(2,bL c 1 b g f bZ),(3,j),(4,i)]) e p aa/\h e p aa :=
 di cP mixed nJ (hs:= .aq 1005 (ag 1011 (.aq 1012 .nil (ag 3009 (ag 3010 (ag 4005 .nil))))) .nil) (keep:=[0]) ar q
abbrev jp(d c a:Nat)(b:List J):ac:=⟨b,1,false,false,d,c,a,some (5,0)⟩
abbrev wq(d f e a h b:Nat)(g:J)(c:bj):ac:=⟨[.agg [(dw d),.slice (some ⟨2,e,f,0,1⟩) a a,.slice (some ⟨3,h,0,0,1⟩) b b,.bool true,.ptr (some ⟨1,0,0,0,5⟩),g]],6,true,false,0,0,0,c⟩
theorem F5(q f b j i a g k s c:Nat)(d h:List J)(r:J)(o n:ac)(p:bj)(m:bW->a8->T->Prop)(u:(0<(a:Int)->b=b/\f+a<=d.length/\(∃l,List.take a (List.drop (aT.idx ⟨2,b,f,0,1⟩) (ac.aQ (gO b j i d)))=aG l)/\(List.isPrefixOf (strOf (List.take a (List.drop f d))) (Array.toList #[27,91,50,48,49,126])=true->m (.exit 0) [(0,.ptr (ba 0))] (T.af 20 [(0,(wq q f b a g c r p)),(1,o),(2,(gO b j i d)),(3,(jp g k s h)),(4,n)]))/\(List.isPrefixOf (strOf (List.take a (List.drop f d))) (Array.toList #[27,91,50,48,49,126])=false->((c:Int)<65536->((0:Int)<=0/\0<(a:Int))/\b=b/\d[f+0]? =some (.int .u8 (aL d (f+0)))/\(g=g/\0+c=h.length/\c<c+1/\(c+1+(c+1)/4+512)*1<=281474976710656/\c+1<4611686018427387904)/\((0:Int)<=1/\1<=(a:Int)/\a<=a)/\m .normal [(0,.ptr (ba 0))] (T.af 51 [(0,{aQ:=[.agg [(dw q),.slice (some ⟨2,b,f+1,0,1⟩) (a-1) (a-1),.slice (some {id:=3,ab:=g+1,idx:=0,fld:=0,es:=1}) (c+1) (c+1),.bool true,.ptr (some ⟨1,0,0,0,5⟩),r]],es:=6,exact:=true,ro:=false,ab:=0,eb:=0,eS:=0,ty:=p}),(1,o),(2,(gO b j i d)),(3,⟨h++[.int .u8 (aL d (f+0))],1,false,false,g+1,k,if k=g then h.length else min s h.length,some (5,0)⟩),(4,n),(37,ac.aj [.int .u8 (aL d (f+0))] 1 true)]))/\(¬(c:Int)<65536->((0:Int)<=1/\1<=(a:Int)/\a<=a)/\m .normal [(0,.ptr (ba 0))] (T.af 35 [(0,⟨[.agg [(dw q),.slice (some ⟨2,b,f+1,0,1⟩) (a-1) (a-1),.slice (some ⟨3,g,0,0,1⟩) c c,.bool true,.ptr (some ⟨1,0,0,0,5⟩),r]],6,true,false,0,0,0,p⟩),(1,o),(2,(gO b j i d)),(3,(jp g k s h)),(4,n)]))))/\(¬0<(a:Int)->m (.exit 0) [(0,.ptr (ba 0))] (T.af 20 [(0,(wq q f b a g c r p)),(1,o),(2,(gO b j i d)),(3,(jp g k s h)),(4,n)]))) :
 ∃e t aa,bR 5 80 (br 129 0) [(0,.ptr (ba 0))] (T.rows 5 [(0,bB 0 q 1 (.slice (some ⟨2,b,f,0,1⟩) a a) (.slice (some ⟨3,g,0,0,1⟩) c c) true r p),(1,o),(2,bL d 1 b j i bZ),(3,bL h 1 g k s bZ),(4,n)]) e t aa/\m e t aa :=
 di cP mixed nJ (hs:= .aq 1005 (ag 1011 (.aq 1012 .nil (.aq 2005 (ag 3009 (ag 3010 (ag 3012 (ag 4005 .nil)))) (ag 4005 .nil)))) .nil) (keep:=[0]) ar u
abbrev wu(d f e a h b:Nat)(g:J)(c:bj):ac:=⟨[.agg [(dw d),.slice (some ⟨2,e,f,0,1⟩) a a,.slice (some ⟨30,h,0,0,1⟩) b b,.bool true,.ptr (some ⟨1,0,0,0,5⟩),g]],6,true,false,0,0,0,c⟩
theorem F6(r f b j i a g k t c:Nat)(d h:List J)(s:J)(p o n:ac)(q:bj)(m:bW->a8->T->Prop)(v:(0<(a:Int)->b=b/\f+a<=d.length/\(∃l,List.take a (List.drop (aT.idx ⟨2,b,f,0,1⟩) (ac.aQ (gO b j i d)))=aG l)/\(List.isPrefixOf (strOf (List.take a (List.drop f d))) (Array.toList #[27,91,50,48,49,126])=true->m (.exit 0) [(0,.ptr (ba 0))] (T.af 55 [(0,(wu r f b a g c s q)),(1,p),(2,(gO b j i d)),(3,o),(4,n),(30,(jp g k t h))]))/\(List.isPrefixOf (strOf (List.take a (List.drop f d))) (Array.toList #[27,91,50,48,49,126])=false->((c:Int)<65536->((0:Int)<=0/\0<(a:Int))/\b=b/\d[f+0]? =some (.int .u8 (aL d (f+0)))/\(g=g/\0+c=h.length/\c<c+1/\(c+1+(c+1)/4+512)*1<=281474976710656/\c+1<4611686018427387904)/\((0:Int)<=1/\1<=(a:Int)/\a<=a)/\m .normal [(0,.ptr (ba 0))] (T.af 86 [(0,{aQ:=[.agg [(dw r),.slice (some ⟨2,b,f+1,0,1⟩) (a-1) (a-1),.slice (some {id:=30,ab:=g+1,idx:=0,fld:=0,es:=1}) (c+1) (c+1),.bool true,.ptr (some ⟨1,0,0,0,5⟩),s]],es:=6,exact:=true,ro:=false,ab:=0,eb:=0,eS:=0,ty:=q}),(1,p),(2,(gO b j i d)),(3,o),(4,n),(30,⟨h++[.int .u8 (aL d (f+0))],1,false,false,g+1,k,if k=g then h.length else min t h.length,some (5,0)⟩),(72,ac.aj [.int .u8 (aL d (f+0))] 1 true)]))/\(¬(c:Int)<65536->((0:Int)<=1/\1<=(a:Int)/\a<=a)/\m .normal [(0,.ptr (ba 0))] (T.af 70 [(0,⟨[.agg [(dw r),.slice (some ⟨2,b,f+1,0,1⟩) (a-1) (a-1),.slice (some ⟨30,g,0,0,1⟩) c c,.bool true,.ptr (some ⟨1,0,0,0,5⟩),s]],6,true,false,0,0,0,q⟩),(1,p),(2,(gO b j i d)),(3,o),(4,n),(30,(jp g k t h))]))))/\(¬0<(a:Int)->m (.exit 0) [(0,.ptr (ba 0))] (T.af 55 [(0,(wu r f b a g c s q)),(1,p),(2,(gO b j i d)),(3,o),(4,n),(30,(jp g k t h))]))) :
 ∃e u aa,bR 5 80 (br 129 0) [(0,.ptr (ba 0))] (T.rows 40 [(0,bB 0 r 1 (.slice (some ⟨2,b,f,0,1⟩) a a) (.slice (some ⟨30,g,0,0,1⟩) c c) true s q),(1,p),(2,bL d 1 b j i bZ),(3,o),(4,n),(30,bL h 1 g k t bZ)]) e u aa/\m e u aa :=
 di cP mixed nJ (hs:= .aq 1005 (ag 1011 (.aq 1012 .nil (.aq 2005 (ag 3009 (ag 3010 (ag 3012 (ag 4005 .nil)))) (ag 4005 .nil)))) .nil) (keep:=[0]) ar v
abbrev j5(e d c a:Nat)(b:List J):ac:=⟨b,1,false,false,d,c,a,some (5,0)⟩
abbrev Av:J:=J.agg [.int .i8 4,.int .i32 0,.int .u8 0,.int .i64 0,.int .i64 0,.str []]
abbrev mu(c g d e a:Nat)(f:J)(b:bj):ac:=⟨[.agg [(dw c),.slice (some ⟨2,d,e,0,1⟩) a a,.slice none 0 0,.bool false,.ptr (some ⟨1,0,0,0,5⟩),f]],6,true,false,0,0,0,b⟩
theorem PQ(g s ab r u b a l j n c:Nat)(m k:List J)(p:Int)(v h:J)(e t i d:ac)(f:bj)(o:bm)(w:(ab=ab/\s+b=m.length/\b<b+1/\(b+1+(b+1)/4+512)*1<=281474976710656/\b+1<4611686018427387904)/\bR 5 80 (Code.loop (br 129 0)) [(0,.ptr (ba 0))] (T.af 16 [(0,{aQ:=[.agg [(dw g),.slice (some {id:=2,ab:=ab+1,idx:=s,fld:=0,es:=1}) (b+1) (b+1),v,.bool true,.ptr (some ⟨1,0,0,0,5⟩),h]],es:=6,exact:=true,ro:=false,ab:=0,eb:=0,eS:=0,ty:=f}),(1,e),(2,⟨m++[.int .u8 p],1,false,false,ab+1,r,if r=ab then m.length else min u m.length,some (5,0)⟩),(3,t),(4,d),(11,ac.aj [.int .u8 p] 1 true)]) (.exit 0) [(0,.ptr (ba 0))] (T.af 40 [(0,bB 0 g 1 (.slice (some ⟨2,a,n,0,1⟩) c c) (.slice none 0 0) true h f),(1,e),(2,bL k 1 a l j bZ),(3,i),(4,d)])/\((c:Int)=6->bU (T.af 64 [(0,(mu g ab a n c h f)),(1,e),(2,(j5 ab a l j k)),(3,i),(4,d)]) ⟨0,0,0,0,6⟩ (Av)/\∀(q:T),bV (T.af 64 [(0,(mu g ab a n c h f)),(1,e),(2,(j5 ab a l j k)),(3,i),(4,d)]) ⟨0,0,0,0,6⟩ (Av) q->bk 5 (q.Y) (o (.tuple []) q))/\(¬(c:Int)=6->o (.tuple []) (T.af 46 [(0,⟨[.agg [(dw g),.slice (some ⟨2,a,n,0,1⟩) c c,.slice none 0 0,.bool true,.ptr (some ⟨1,0,0,0,5⟩),h]],6,true,false,0,0,0,f⟩),(1,e),(2,(j5 ab a l j k)),(3,i),(4,d)]))) :
 bC 129 [.ptr (ba 0),.int .u8 p] (T.of [bB 0 g 1 (.slice (some ⟨2,ab,s,0,1⟩) b b) v true h f,e,bL m 1 ab r u bZ,t,d]) o :=
 bI nJ (ag 7 (.ak (.keep [0]) (.ak (.loop [(0,.ptr (ba 0))] (T.af 40 [(0,bB 0 g 1 (.slice (some ⟨2,a,n,0,1⟩) c c) (.slice none 0 0) true h f),(1,e),(2,bL k 1 a l j bZ),(3,i),(4,d)]) (.exit 0)) (.aq 5005 .nil .nil)))) w
abbrev lp(e d c a:Nat)(b:List J):ac:=⟨b,1,false,false,d,c,a,some (5,0)⟩
abbrev qv(b:Nat)(a:List J):J:=J.agg [.int .i8 4,.int .i32 0,.int .u8 0,.int .i64 0,.int .i64 0,.str (strOf (List.take b a))]
theorem PR(j w ab v y c b q o r d a n m e:Nat)(k p f:List J)(t:Int)(z l:J)(h x g:ac)(i:bj)(s:bm)(A:(ab=ab/\w+c=k.length/\c<c+1/\(c+1+(c+1)/4+512)*1<=281474976710656/\c+1<4611686018427387904)/\bR 5 80 (Code.loop (br 129 0)) [(0,.ptr (ba 0))] (T.af 16 [(0,{aQ:=[.agg [(dw j),.slice (some {id:=2,ab:=ab+1,idx:=w,fld:=0,es:=1}) (c+1) (c+1),z,.bool true,.ptr (some ⟨1,0,0,0,5⟩),l]],es:=6,exact:=true,ro:=false,ab:=0,eb:=0,eS:=0,ty:=i}),(1,h),(2,⟨k++[.int .u8 t],1,false,false,ab+1,v,if v=ab then k.length else min y k.length,some (5,0)⟩),(3,x),(4,g),(11,ac.aj [.int .u8 t] 1 true)]) (.exit 0) [(0,.ptr (ba 0))] (T.af 40 [(0,bB 0 j 1 (.slice (some ⟨2,b,r,0,1⟩) d d) (.slice (some ⟨3,a,0,0,1⟩) e e) true l i),(1,h),(2,bL p 1 b q o bZ),(3,bL f 1 a n m bZ),(4,g)])/\((d:Int)=6->a=a/\0+e<=f.length/\(∃k,List.take e (List.drop (aT.idx ⟨3,a,0,0,1⟩) (ac.aQ (lp ab a n m f)))=aG k)/\bU (T.af 64 [(0,(mu j ab b r d l i)),(1,h),(2,(j5 ab b q o p)),(3,(lp ab a n m f)),(4,g)]) ⟨0,0,0,0,6⟩ ((qv e f))/\∀(u:T),bV (T.af 64 [(0,(mu j ab b r d l i)),(1,h),(2,(j5 ab b q o p)),(3,(lp ab a n m f)),(4,g)]) ⟨0,0,0,0,6⟩ ((qv e f)) u->bk 5 (u.Y) (s (.tuple []) u))/\(¬(d:Int)=6->s (.tuple []) (T.af 46 [(0,⟨[.agg [(dw j),.slice (some ⟨2,b,r,0,1⟩) d d,.slice (some ⟨3,a,0,0,1⟩) e e,.bool true,.ptr (some ⟨1,0,0,0,5⟩),l]],6,true,false,0,0,0,i⟩),(1,h),(2,(j5 ab b q o p)),(3,(lp ab a n m f)),(4,g)]))) :
 bC 129 [.ptr (ba 0),.int .u8 t] (T.of [bB 0 j 1 (.slice (some ⟨2,ab,w,0,1⟩) c c) z true l i,h,bL k 1 ab v y bZ,x,g]) s :=
 bI nJ (ag 7 (.ak (.keep [0]) (.ak (.loop [(0,.ptr (ba 0))] (T.af 40 [(0,bB 0 j 1 (.slice (some ⟨2,b,r,0,1⟩) d d) (.slice (some ⟨3,a,0,0,1⟩) e e) true l i),(1,h),(2,bL p 1 b q o bZ),(3,bL f 1 a n m bZ),(4,g)]) (.exit 0)) (.aq 5005 (ag 6004 .nil) .nil)))) A
theorem PS(j x ab w z c b r p s d a n m e:Nat)(k q f:List J)(u:Int)(A l:J)(h y o g:ac)(i:bj)(t:bm)(B:(ab=ab/\x+c=k.length/\c<c+1/\(c+1+(c+1)/4+512)*1<=281474976710656/\c+1<4611686018427387904)/\bR 5 80 (Code.loop (br 129 0)) [(0,.ptr (ba 0))] (T.af 16 [(0,{aQ:=[.agg [(dw j),.slice (some {id:=2,ab:=ab+1,idx:=x,fld:=0,es:=1}) (c+1) (c+1),A,.bool true,.ptr (some ⟨1,0,0,0,5⟩),l]],es:=6,exact:=true,ro:=false,ab:=0,eb:=0,eS:=0,ty:=i}),(1,h),(2,⟨k++[.int .u8 u],1,false,false,ab+1,w,if w=ab then k.length else min z k.length,some (5,0)⟩),(3,y),(4,g),(11,ac.aj [.int .u8 u] 1 true)]) (.exit 0) [(0,.ptr (ba 0))] (T.af 40 [(0,bB 0 j 1 (.slice (some ⟨2,b,s,0,1⟩) d d) (.slice (some ⟨30,a,0,0,1⟩) e e) true l i),(1,h),(2,bL q 1 b r p bZ),(3,o),(4,g),(30,bL f 1 a n m bZ)])/\((d:Int)=6->a=a/\0+e<=f.length/\(∃k,List.take e (List.drop (aT.idx ⟨30,a,0,0,1⟩) (ac.aQ (lp ab a n m f)))=aG k)/\bU (T.af 64 [(0,(mu j ab b s d l i)),(1,h),(2,(j5 ab b r p q)),(3,o),(4,g),(30,(lp ab a n m f))]) ⟨0,0,0,0,6⟩ ((qv e f))/\∀(v:T),bV (T.af 64 [(0,(mu j ab b s d l i)),(1,h),(2,(j5 ab b r p q)),(3,o),(4,g),(30,(lp ab a n m f))]) ⟨0,0,0,0,6⟩ ((qv e f)) v->bk 5 (v.Y) (t (.tuple []) v))/\(¬(d:Int)=6->t (.tuple []) (T.af 46 [(0,⟨[.agg [(dw j),.slice (some ⟨2,b,s,0,1⟩) d d,.slice (some ⟨30,a,0,0,1⟩) e e,.bool true,.ptr (some ⟨1,0,0,0,5⟩),l]],6,true,false,0,0,0,i⟩),(1,h),(2,(j5 ab b r p q)),(3,o),(4,g),(30,(lp ab a n m f))]))) :
 bC 129 [.ptr (ba 0),.int .u8 u] (T.of [bB 0 j 1 (.slice (some ⟨2,ab,x,0,1⟩) c c) A true l i,h,bL k 1 ab w z bZ,y,g]) t :=
 bI nJ (ag 7 (.ak (.keep [0]) (.ak (.loop [(0,.ptr (ba 0))] (T.af 40 [(0,bB 0 j 1 (.slice (some ⟨2,b,s,0,1⟩) d d) (.slice (some ⟨30,a,0,0,1⟩) e e) true l i),(1,h),(2,bL q 1 b r p bZ),(3,o),(4,g),(30,bL f 1 a n m bZ)]) (.exit 0)) (.aq 5005 (ag 6004 .nil) .nil)))) B
theorem PT(h:Nat)(a:Int)(i:J)(f b e d:ac)(g:bj)(c:bm)(j:(List.isPrefixOf [UInt8.ofNat (Int.toNat a)] (Array.toList #[27,91,50,48,49,126])=true->c (.tuple []) (T.af 37 [(0,⟨[.agg [(dw h),.slice (cX 12) 1 1,.slice none 0 0,.bool true,.ptr (some ⟨1,0,0,0,5⟩),i]],6,true,false,0,0,0,g⟩),(1,f),(2,b),(3,e),(4,d),(11,ac.aj [.int .u8 a] 1 true),(12,ac.aj [.int .u8 a] 1 false (some (5,0)))]))/\(List.isPrefixOf [UInt8.ofNat (Int.toNat a)] (Array.toList #[27,91,50,48,49,126])=false->c (.tuple []) (T.af 83 [(0,⟨[.agg [(dw h),.slice (some ⟨12,0,1,0,1⟩) 0 0,.slice (cX 49) 1 1,.bool true,.ptr (some ⟨1,0,0,0,5⟩),i]],6,true,false,0,0,0,g⟩),(1,f),(2,b),(3,e),(4,d),(11,ac.aj [.int .u8 a] 1 true),(12,ac.aj [.int .u8 a] 1 false (some (5,0))),(48,ac.aj [.int .u8 a] 1 true),(49,ac.aj [.int .u8 a] 1 false (some (5,0)))]))) :
 bC 129 [.ptr (ba 0),.int .u8 a] (T.of [bB 0 h 1 (.slice none 0 0) (.slice none 0 0) true i g,f,b,e,d]) c :=
 bI nJ (.ak (.rounds 300) (.aq 1012 .nil .nil)) j
theorem PU(k c e m a:Nat)(d:List J)(b:Int)(l:J)(i f h:ac)(j:bj)(g:bm)(n:(List.isPrefixOf [UInt8.ofNat (Int.toNat b)] (Array.toList #[27,91,50,48,49,126])=true->g (.tuple []) (T.af 37 [(0,⟨[.agg [(dw k),.slice (cX 12) 1 1,.slice (some ⟨3,c,0,0,1⟩) a a,.bool true,.ptr (some ⟨1,0,0,0,5⟩),l]],6,true,false,0,0,0,j⟩),(1,i),(2,f),(3,(jp c e m d)),(4,h),(11,ac.aj [.int .u8 b] 1 true),(12,ac.aj [.int .u8 b] 1 false (some (5,0)))]))/\(List.isPrefixOf [UInt8.ofNat (Int.toNat b)] (Array.toList #[27,91,50,48,49,126])=false->((a:Int)<65536->(c=c/\0+a=d.length/\a<a+1/\(a+1+(a+1)/4+512)*1<=281474976710656/\a+1<4611686018427387904)/\g (.tuple []) (T.af 83 [(0,{aQ:=[.agg [(dw k),.slice (some ⟨12,0,1,0,1⟩) 0 0,.slice (some {id:=3,ab:=c+1,idx:=0,fld:=0,es:=1}) (a+1) (a+1),.bool true,.ptr (some ⟨1,0,0,0,5⟩),l]],es:=6,exact:=true,ro:=false,ab:=0,eb:=0,eS:=0,ty:=j}),(1,i),(2,f),(3,⟨d++[.int .u8 b],1,false,false,c+1,e,if e=c then d.length else min m d.length,some (5,0)⟩),(4,h),(11,ac.aj [.int .u8 b] 1 true),(12,ac.aj [.int .u8 b] 1 false (some (5,0))),(48,ac.aj [.int .u8 b] 1 true)]))/\(¬(a:Int)<65536->g (.tuple []) (T.af 67 [(0,⟨[.agg [(dw k),.slice (some ⟨12,0,1,0,1⟩) 0 0,.slice (some ⟨3,c,0,0,1⟩) a a,.bool true,.ptr (some ⟨1,0,0,0,5⟩),l]],6,true,false,0,0,0,j⟩),(1,i),(2,f),(3,(jp c e m d)),(4,h),(11,ac.aj [.int .u8 b] 1 true),(12,ac.aj [.int .u8 b] 1 false (some (5,0)))])))) :
 bC 129 [.ptr (ba 0),.int .u8 b] (T.of [bB 0 k 1 (.slice none 0 0) (.slice (some ⟨3,c,0,0,1⟩) a a) true l j,i,f,bL d 1 c e m bZ,h]) g :=
 bI nJ (.ak (.rounds 300) (.aq 1012 .nil (.aq 2005 (ag 3012 .nil) .nil))) n
abbrev hO(f kv off n:Nat)(pv ov:J)(dty:bj):ac:=bB 0 f 1 (.slice (some ⟨2,kv,off,0,1⟩) n n) pv true ov dty
abbrev fb:a8:=[(0,.ptr (some ⟨0,0,0,0,6⟩))]
theorem Aw{D:Nat->Prop}{f kv off n:Nat}{pv ov:J}{dty:bj}(aN:D 0)(aa:D 1)(h2:D 2)(ae:bQ D pv)(a:bQ D ov):∀e∈(hO f kv off n pv ov dty).aQ,bQ D e:=by intro e he;rw [cC.1 he];simp only [bQ,dI];exact⟨⟨⟨aN,trivial⟩,trivial⟩,h2,ae,trivial,aa,a,trivial⟩
theorem F7{r:Nat->Nat}{f kv off n:Nat}{pv ov:J}{dty:bj}(aN:r 0=0)(aa:r 1=1)(h2:r 2=2)(a:ov.aK r=ov):(hO f kv off n pv ov dty).aK r=hO f kv off n (pv.aK r) ov dty:=by simp [ac.aK,ac.aj,J.aK,J.fD,aT.aK,aN,aa,h2,a]
def jq:Nat->Prop:=λi=>i=0\/i=1\/i=2\/i=3\/i=4
theorem qw{X ai:Bytes}{off:Nat}(h:X.drop off=ai):List.take ai.length (List.drop off (aG X))=aG ai:=by
 have:List.drop off (aG X)=aG (X.drop off):=by simp [aG,List.map_drop]
 rw [this,h,<-e1,jH]
theorem ww{X r:Bytes}{b:UInt8}{off:Nat}(h:X.drop off=b::r):(aG X)[off]? =some (.int .u8 (b.toNat:Int)):=by
 have aa:X[off]? =some b:=by have:=dW (λl=>l[0]?) h;simpa [n7]using this
 simp [aG,aa]
theorem Ax{X r:Bytes}{b:UInt8}{off:Nat}(h:X.drop off=b::r):aL (aG X) off=(b.toNat:Int):=by unfold aL;rw [ww h]
theorem Ay{X r:Bytes}{b:UInt8}{off:Nat}(h:X.drop off=b::r):X.drop (off+1)=r:=by rw [<-pj,h];rfl
theorem s3{X k:Bytes}{off:Nat}(h:X.drop off=k)(a:off<=X.length):off+k.length=X.length:=by rw [<-h,ep];omega
theorem wx(p:Bytes)(b:UInt8):aG p++[J.int .u8 (b.toNat:Int)]=aG (p++[b]):=by simp [aG]
theorem s4(n:Nat)(p:Bytes):shift n [] p=([],p):=by cases n<;>rfl
theorem Az{K:List Nat}{ov:J}(h:bQ jq ov)(a:∀i,jq i->i∈K):bQ (Go.bh.bO K) ov:=bQ.mono a h
section
variable(f kv ca b8:Nat)(X:Bytes)(aV P O:ac)(ov:J)(dty:bj)
abbrev qx(off n pv pm a:Nat)(aw:Bytes):List (Nat×ac):=[(0,hO f kv off n (.slice (some ⟨3,pv,0,0,1⟩) aw.length aw.length) ov dty),(1,aV),(2,bL (aG X) 1 kv ca b8 bZ),(3,bL (aG aw) 1 pv pm a bZ),(4,O)]
theorem AA{K:Nat}(t:5<=K){h:T}{j off n pv pm b:Nat}{aw:Bytes}(a:j=3)(d:cj aV)(g:cj P)(c:cj O)(co:bQ jq ov)
 (e0:h.get 0=some (hO f kv off n (.slice (some ⟨j,pv,0,0,1⟩) aw.length aw.length) ov dty)) (aI:h.get 1=some aV) (aO:h.get 2=some (bL (aG X) 1 kv ca b8 bZ)) (m:h.get 3=h.get 3) (o:h.get 4=some O) (p:h.get j=some (bL (aG aw) 1 pv pm b bZ)) :
 b5 5 80 fb h fb (T.rows K (qx f kv ca b8 X aV O ov dty off n pv pm b aw)):=by
 have u:Nat.ble 5 j=true\/j=3:=by first|exact .inr a|exact .inl (Nat.ble_eq.mpr a)
 have s:∀i,jq i->(λk=>if k=3 then j else k) i=i:=by intro i ah;have:i=0\/i=1\/i=2\/i=3\/i=4:=ah;simp only;split<;>omega
 refine b5.move (K:=K) (l:=qx f kv ca b8 X aV O ov dty off n pv pm b aw) (λk=>if k=3 then j else k) ?_ ?_ ?_ ?_ ?_ ?_ rfl ?_ ?_
 .have q:=F7 (r:=λk=>if k=3 then j else k) (f:=f) (kv:=kv) (off:=off) (n:=n) (pv:= .slice (some ⟨3,pv,0,0,1⟩) aw.length aw.length) (dty:=dty) an an an (J.uU s co);simp only [eF,jE,q,d.aK,g.aK,c.aK,(lh (jV X) 1 kv ca b8 bZ).aK,(lh (jV aw) 1 pv pm b bZ).aK];simp [e0,aI,aO,m,o,p,J.aK,aT.aK]
 .simp [hY];omega
 .simp;omega
 .subst a;rfl
 .subst a;rfl
 .simp [J.aK,aT.aK]
 .exact a7.cons (by show(0:Nat)∈_;simp) a7.nil
 .exact a7.cons (Aw (by show(0:Nat)∈_;simp) (by show(1:Nat)∈_;simp) (by show(2:Nat)∈_;simp) (by show(3:Nat)∈_;simp) (Az co (by intro i ah;have:i=0\/i=1\/i=2\/i=3\/i=4:=ah;simp;omega))) (a7.cons (λe he=>(d e he).dh _) (a7.cons (λe he=>(jV X e he).dh _) (a7.cons (λe he=>(jV aw e he).dh _) (a7.cons (λe he=>(c e he).dh _) a7.nil))))
theorem PV(x:cj aV)(w:cj P)(v:cj O)(co:bQ jq ov):∀(a:Nat)(ai aw:Bytes)(off pv pm c:Nat),ai.length<=a->X.drop off=ai->off<=X.length->aw.length<=65536-> ∃l k j,
 dl 5 80 (br 129 0) fb (T.rows 5 (qx f kv ca b8 X aV O ov dty off ai.length pv pm c aw)) (.exit 0) fb
  (T.rows 40 (qx f kv ca b8 X aV O ov dty (X.length- (shift a ai aw).1.length) (shift a ai aw).1.length l k j (shift a ai aw).2)):=by
 intro a
 have fin:∀(a:Nat)(ai aw:Bytes)(off pv pm c:Nat),X.drop off=ai->off<=X.length->shift a ai aw=(ai,aw)->(ai≠[]->ai.isPrefixOf c6=true)-> ∃l k j,
  dl 5 80 (br 129 0) fb (T.rows 5 (qx f kv ca b8 X aV O ov dty off ai.length pv pm c aw)) (.exit 0) fb
   (T.rows 40 (qx f kv ca b8 X aV O ov dty (X.length- (shift a ai aw).1.length) (shift a ai aw).1.length l k j (shift a ai aw).2)):=by
  intro a ai aw off pv pm c d g hs ae;have z:=s3 d g
  obtain⟨e,i,aa,s,rfl,rfl,e0,aI,aO,o,p,q⟩:=F5 f off kv ca b8 ai.length pv pm c aw.length (aG X) (aG aw) ov aV O dty (λe i aa=>e=.exit 0/\i=fb/\aa.get 0=some (hO f kv off ai.length (.slice (some ⟨3,pv,0,0,1⟩) aw.length aw.length) ov dty)/\aa.get 1=some aV/\aa.get 2=some (bL (aG X) 1 kv ca b8 bZ)/\aa.get 3=aa.get 3/\aa.get 4=some O/\aa.get 3=some (bL (aG aw) 1 pv pm c bZ)) (by
   delta jp gO wq dw
   rw [qw d,hb];refine⟨λh=>⟨rfl,by rw [e1];omega,⟨ai,rfl⟩,λ_=>⟨rfl,rfl,rfl,rfl,rfl,rfl,rfl,rfl⟩,λh2=> ?_⟩,λ_=>⟨rfl,rfl,rfl,rfl,rfl,rfl,rfl,rfl⟩⟩;have C:ai≠[]:=by rintro rfl;simp at h
   have:=ae C;rw [show Array.toList #[(27:UInt8),91,50,48,49,126]=c6 from rfl,this]at h2
   cases h2)
  refine⟨pv,pm,c,?_⟩;rw [hs];simp only;rw [show X.length-ai.length=off by omega];exact(bX.last an s).post (AA f kv ca b8 X aV P O ov dty aA aA x w v co e0 aI aO o p q)
 induction a with
 |zero =>
  intro ai aw off pv pm c y d g ae;have B:ai=[]:=mI V;subst B;exact fin 0 [] aw off pv pm c d g (s4 _ _) (λh=>absurd rfl h)
 |succ a ih =>
  intro ai aw off pv pm c y d g ae;cases ai with
  |nil=>exact fin (a+1) [] aw off pv pm c d g (s4 _ _) (λh=>absurd rfl h)
  |cons b r =>
   cases m:(b::r).isPrefixOf c6 with
   |true=>exact fin (a+1) (b::r) aw off pv pm c d g (by simp only [shift,m,dy]) (λ_=>m)
   |false =>
    have z:=s3 d g;simp only [b']at z y;have E:shift (a+1) (b::r) aw=shift a r (if aw.length<65536 then aw++[b]else aw):=by simp only [shift,m];rfl
    rw [E]
    obtain⟨e,i,aa,s,rfl,rfl,n,u,t,e0,aI,aO,o,p,q⟩:=F5 f off kv ca b8 (b::r).length pv pm c aw.length (aG X) (aG aw) ov aV O dty (λe i aa=>e=.normal/\i=fb/\∃n u t,aa.get 0=some (hO f kv (off+1) r.length (.slice (some ⟨3,n,0,0,1⟩) (if aw.length<65536 then aw++[b]else aw).length (if aw.length<65536 then aw++[b]else aw).length) ov dty)/\aa.get 1=some aV/\aa.get 2=some (bL (aG X) 1 kv ca b8 bZ)/\aa.get 3=aa.get 3/\aa.get 4=some O/\aa.get 3=some (bL (aG (if aw.length<65536 then aw++[b]else aw)) 1 n u t bZ)) (by
     delta jp gO wq dw
     rw [qw d,hb,show off+0=off from rfl,Ax d,ww d];have G:=e1 aw;refine⟨λh=>⟨rfl,by rw [e1];simp only [b'];omega,⟨b::r,rfl⟩,λh2=> ?_,λ_=>⟨λH=>⟨⟨V,h⟩,rfl,rfl,⟨rfl,V,V,V,V⟩,⟨V,V,Nat.le_refl _⟩,rfl,rfl,?_⟩,λF=>⟨⟨V,V,Nat.le_refl _⟩,rfl,rfl,?_⟩⟩⟩,λh=>by simp only [b']at h;omega⟩
     .rw [show Array.toList #[(27:UInt8),91,50,48,49,126]=c6 from rfl,m]at h2;cases h2
     .rw [aE (show aw.length<65536 by omega),<-wx,dt];exact⟨_,_,_,rfl,rfl,rfl,rfl,rfl,rfl⟩
     .rw [ap (show ¬aw.length<65536 by omega)]
      exact⟨_,_,_,rfl,rfl,rfl,rfl,rfl,rfl⟩)
    have D:(if aw.length<65536 then aw++[b]else aw).length<=65536:=by
     split
     .rw [dt];simp only [b',dx];omega
     .exact ae
    obtain⟨l,k,j,A⟩:=ih r _ (off+1) n u t V (Ay d) V D;exact⟨l,k,j,bX.step (s.post (AA f kv ca b8 X aV P O ov dty aA aA x w v co e0 aI aO o p q)) A⟩
abbrev o1(off n pv pm a:Nat)(aw:Bytes):List (Nat×ac):=[(0,hO f kv off n (.slice (some ⟨30,pv,0,0,1⟩) aw.length aw.length) ov dty),(1,aV),(2,bL (aG X) 1 kv ca b8 bZ),(3,P),(4,O),(30,bL (aG aw) 1 pv pm a bZ)]
theorem AB{K:Nat}(t:40<=K){h:T}{j off n pv pm a:Nat}{aw:Bytes}(b:5<=j)(g:cj aV)(d:cj P)(c:cj O)(co:bQ jq ov)
 (e0:h.get 0=some (hO f kv off n (.slice (some ⟨j,pv,0,0,1⟩) aw.length aw.length) ov dty)) (aI:h.get 1=some aV) (aO:h.get 2=some (bL (aG X) 1 kv ca b8 bZ)) (m:h.get 3=some P) (o:h.get 4=some O) (p:h.get j=some (bL (aG aw) 1 pv pm a bZ)) :
 b5 5 80 fb h fb (T.rows K (o1 f kv ca b8 X aV P O ov dty off n pv pm a aw)):=by
 have u:Nat.ble 5 j=true\/j=3:=by first|exact .inr b|exact .inl (Nat.ble_eq.mpr b)
 have s:∀i,jq i->(λk=>if k=30 then j else k) i=i:=by intro i ah;have:i=0\/i=1\/i=2\/i=3\/i=4:=ah;simp only;split<;>omega
 refine b5.move (K:=K) (l:=o1 f kv ca b8 X aV P O ov dty off n pv pm a aw) (λk=>if k=30 then j else k) ?_ ?_ ?_ ?_ ?_ ?_ rfl ?_ ?_
 .have q:=F7 (r:=λk=>if k=30 then j else k) (f:=f) (kv:=kv) (off:=off) (n:=n) (pv:= .slice (some ⟨30,pv,0,0,1⟩) aw.length aw.length) (dty:=dty) an an an (J.uU s co);simp only [eF,jE,q,g.aK,d.aK,c.aK,(lh (jV X) 1 kv ca b8 bZ).aK,(lh (jV aw) 1 pv pm a bZ).aK];simp [e0,aI,aO,m,o,p,J.aK,aT.aK]
 .simp [hY];omega
 .simp;omega
 .rfl
 .simp [Nat.blt,b]
 .simp [J.aK,aT.aK]
 .exact a7.cons (by show(0:Nat)∈_;simp) a7.nil
 .exact a7.cons (Aw (by show(0:Nat)∈_;simp) (by show(1:Nat)∈_;simp) (by show(2:Nat)∈_;simp) (by show(30:Nat)∈_;simp) (Az co (by intro i ah;have:i=0\/i=1\/i=2\/i=3\/i=4:=ah;simp;omega))) (a7.cons (λe he=>(g e he).dh _) (a7.cons (λe he=>(jV X e he).dh _) (a7.cons (λe he=>(d e he).dh _) (a7.cons (λe he=>(c e he).dh _) (a7.cons (λe he=>(jV aw e he).dh _) a7.nil)))))
theorem PW(x:cj aV)(w:cj P)(v:cj O)(co:bQ jq ov):∀(a:Nat)(ai aw:Bytes)(off pv pm c:Nat),ai.length<=a->X.drop off=ai->off<=X.length->aw.length<=65536-> ∃l k j,
 dl 5 80 (br 129 0) fb (T.rows 40 (o1 f kv ca b8 X aV P O ov dty off ai.length pv pm c aw)) (.exit 0) fb
  (T.rows 40 (o1 f kv ca b8 X aV P O ov dty (X.length- (shift a ai aw).1.length) (shift a ai aw).1.length l k j (shift a ai aw).2)):=by
 intro a
 have fin:∀(a:Nat)(ai aw:Bytes)(off pv pm c:Nat),X.drop off=ai->off<=X.length->shift a ai aw=(ai,aw)->(ai≠[]->ai.isPrefixOf c6=true)-> ∃l k j,
  dl 5 80 (br 129 0) fb (T.rows 40 (o1 f kv ca b8 X aV P O ov dty off ai.length pv pm c aw)) (.exit 0) fb
   (T.rows 40 (o1 f kv ca b8 X aV P O ov dty (X.length- (shift a ai aw).1.length) (shift a ai aw).1.length l k j (shift a ai aw).2)):=by
  intro a ai aw off pv pm c d g hs ae;have z:=s3 d g
  obtain⟨e,i,aa,s,rfl,rfl,e0,aI,aO,o,p,q⟩:=F6 f off kv ca b8 ai.length pv pm c aw.length (aG X) (aG aw) ov aV P O dty (λe i aa=>e=.exit 0/\i=fb/\aa.get 0=some (hO f kv off ai.length (.slice (some ⟨30,pv,0,0,1⟩) aw.length aw.length) ov dty)/\aa.get 1=some aV/\aa.get 2=some (bL (aG X) 1 kv ca b8 bZ)/\aa.get 3=some P/\aa.get 4=some O/\aa.get 30=some (bL (aG aw) 1 pv pm c bZ)) (by
   delta jp gO wu dw
   rw [qw d,hb];refine⟨λh=>⟨rfl,by rw [e1];omega,⟨ai,rfl⟩,λ_=>⟨rfl,rfl,rfl,rfl,rfl,rfl,rfl,rfl⟩,λh2=> ?_⟩,λ_=>⟨rfl,rfl,rfl,rfl,rfl,rfl,rfl,rfl⟩⟩;have C:ai≠[]:=by rintro rfl;simp at h
   have:=ae C;rw [show Array.toList #[(27:UInt8),91,50,48,49,126]=c6 from rfl,this]at h2
   cases h2)
  refine⟨pv,pm,c,?_⟩;rw [hs];simp only;rw [show X.length-ai.length=off by omega];exact(bX.last an s).post (AB f kv ca b8 X aV P O ov dty aA aA x w v co e0 aI aO o p q)
 induction a with
 |zero =>
  intro ai aw off pv pm c y d g ae;have B:ai=[]:=mI V;subst B;exact fin 0 [] aw off pv pm c d g (s4 _ _) (λh=>absurd rfl h)
 |succ a ih =>
  intro ai aw off pv pm c y d g ae;cases ai with
  |nil=>exact fin (a+1) [] aw off pv pm c d g (s4 _ _) (λh=>absurd rfl h)
  |cons b r =>
   cases m:(b::r).isPrefixOf c6 with
   |true=>exact fin (a+1) (b::r) aw off pv pm c d g (by simp only [shift,m,dy]) (λ_=>m)
   |false =>
    have z:=s3 d g;simp only [b']at z y;have E:shift (a+1) (b::r) aw=shift a r (if aw.length<65536 then aw++[b]else aw):=by simp only [shift,m];rfl
    rw [E]
    obtain⟨e,i,aa,s,rfl,rfl,n,u,t,e0,aI,aO,o,p,q⟩:=F6 f off kv ca b8 (b::r).length pv pm c aw.length (aG X) (aG aw) ov aV P O dty (λe i aa=>e=.normal/\i=fb/\∃n u t,aa.get 0=some (hO f kv (off+1) r.length (.slice (some ⟨30,n,0,0,1⟩) (if aw.length<65536 then aw++[b]else aw).length (if aw.length<65536 then aw++[b]else aw).length) ov dty)/\aa.get 1=some aV/\aa.get 2=some (bL (aG X) 1 kv ca b8 bZ)/\aa.get 3=some P/\aa.get 4=some O/\aa.get 30=some (bL (aG (if aw.length<65536 then aw++[b]else aw)) 1 n u t bZ)) (by
     delta jp gO wu dw
     rw [qw d,hb,show off+0=off from rfl,Ax d,ww d];have G:=e1 aw;refine⟨λh=>⟨rfl,by rw [e1];simp only [b'];omega,⟨b::r,rfl⟩,λh2=> ?_,λ_=>⟨λH=>⟨⟨V,h⟩,rfl,rfl,⟨rfl,V,V,V,V⟩,⟨V,V,Nat.le_refl _⟩,rfl,rfl,?_⟩,λF=>⟨⟨V,V,Nat.le_refl _⟩,rfl,rfl,?_⟩⟩⟩,λh=>by simp only [b']at h;omega⟩
     .rw [show Array.toList #[(27:UInt8),91,50,48,49,126]=c6 from rfl,m]at h2;cases h2
     .rw [aE (show aw.length<65536 by omega),<-wx,dt];exact⟨_,_,_,rfl,rfl,rfl,rfl,rfl,rfl⟩
     .rw [ap (show ¬aw.length<65536 by omega)]
      exact⟨_,_,_,rfl,rfl,rfl,rfl,rfl,rfl⟩)
    have D:(if aw.length<65536 then aw++[b]else aw).length<=65536:=by
     split
     .rw [dt];simp only [b',dx];omega
     .exact ae
    obtain⟨l,k,j,A⟩:=ih r _ (off+1) n u t V (Ay d) V D;exact⟨l,k,j,bX.step (s.post (AB f kv ca b8 X aV P O ov dty aA aA x w v co e0 aI aO o p q)) A⟩
end
end Go.Proofs.YtddnafghiejcoaaGreatDoor
namespace Go.Keys
theorem F8:∀(n:Nat)(k p:Bytes),∃t,k=t++(shift n k p).1
 |0,k,p=>⟨[],rfl⟩
 |n+1,[],p=>⟨[],rfl⟩
 |n +1,b::r,p=>by
  simp only [shift];split
  .exact⟨[],rfl⟩
  .obtain⟨t,a⟩:=F8 n r (if p.length<65536 then p++[b]else p);exact⟨b::t,by rw [hA,<-a]⟩
theorem AC:∀(n:Nat)(k p:Bytes),p≠[]->(shift n k p).2≠[]
 |0,k,p,h=>h
 |n+1,[],p,h=>h
 |n +1,b::r,p,h=>by
  simp only [shift];split
  .exact h
  .refine AC n r _ ?_;split
   .simp
   .exact h
end Go.Keys
namespace Go.Proofs.YtddnafghiejcoaaGreatDoor
open Go.bh Go.Keys
set_option maxRecDepth 1000000
section
variable(f kv ca b8:Nat)(X:Bytes)(aV P O:ac)(ov:J)(dty:bj)
abbrev nK(off n:Nat):List (Nat×ac):=[(0,hO f kv off n (.slice none 0 0) ov dty),(1,aV),(2,bL (aG X) 1 kv ca b8 bZ),(3,P),(4,O)]
theorem F9{K:Nat}(j:5<=K){h:T}{off n:Nat}(c:cj aV)(b:cj P)(a:cj O)(co:bQ jq ov)
 (e0:h.get 0=some (hO f kv off n (.slice none 0 0) ov dty)) (aI:h.get 1=some aV) (aO:h.get 2=some (bL (aG X) 1 kv ca b8 bZ)) (d:h.get 3=some P) (g:h.get 4=some O) :
 b5 5 80 fb h fb (T.rows K (nK f kv ca b8 X aV P O ov dty off n)):=by
 refine b5.drop (K:=K) (l:=nK f kv ca b8 X aV P O ov dty off n) (by simp [e0,aI,aO,d,g]) (by simp [hY];omega) rfl rfl (a7.cons (by show(0:Nat)∈_;simp) a7.nil) ?_;exact a7.cons (Aw (by show(0:Nat)∈_;simp) (by show(1:Nat)∈_;simp) (by show(2:Nat)∈_;simp) trivial (Az co (by intro i ah;have:i=0\/i=1\/i=2\/i=3\/i=4:=ah;simp;omega))) (a7.cons (λe he=>(c e he).dh _) (a7.cons (λe he=>(jV X e he).dh _) (a7.cons (λe he=>(b e he).dh _) (a7.cons (λe he=>(a e he).dh _) a7.nil))))
theorem PX(l:cj aV)(k:cj P)(i:cj O)(co:bQ jq ov)(a:Nat)(ai:Bytes)(off:Nat)(t:ai.length<=a)(c:X.drop off=ai)(z:off<=X.length) :
 ((shift a ai []).2=[]->dl 5 80 (br 129 0) fb (T.rows 5 (nK f kv ca b8 X aV P O ov dty off ai.length)) (.exit 0) fb (T.rows 40 (nK f kv ca b8 X aV P O ov dty (X.length- (shift a ai []).1.length) (shift a ai []).1.length))) /\
 ((shift a ai []).2≠[]-> ∃s q p,dl 5 80 (br 129 0) fb (T.rows 5 (nK f kv ca b8 X aV P O ov dty off ai.length)) (.exit 0) fb (T.rows 40 (o1 f kv ca b8 X aV P O ov dty (X.length- (shift a ai []).1.length) (shift a ai []).1.length s q p (shift a ai []).2))):=by
 have x:=s3 c z
 have fin:shift a ai []=(ai,[])->(ai≠[]->ai.isPrefixOf c6=true)->dl 5 80 (br 129 0) fb (T.rows 5 (nK f kv ca b8 X aV P O ov dty off ai.length)) (.exit 0) fb (T.rows 40 (nK f kv ca b8 X aV P O ov dty (X.length- (shift a ai []).1.length) (shift a ai []).1.length)):=by
  intro hs ae
  obtain⟨e,d,aa,o,rfl,rfl,e0,aI,aO,m,n⟩:=F4 f off kv ca b8 ai.length (aG X) ov aV P O dty (λe d aa=>e=.exit 0/\d=fb/\aa.get 0=some (hO f kv off ai.length (.slice none 0 0) ov dty)/\aa.get 1=some aV/\aa.get 2=some (bL (aG X) 1 kv ca b8 bZ)/\aa.get 3=some P/\aa.get 4=some O) (by
   delta gO wo dw
   rw [qw c,hb];refine⟨λh=>⟨rfl,by rw [e1];omega,⟨ai,rfl⟩,λ_=>⟨rfl,rfl,rfl,rfl,rfl,rfl,rfl⟩,λh2=> ?_⟩,λ_=>⟨rfl,rfl,rfl,rfl,rfl,rfl,rfl⟩⟩;have y:ai≠[]:=by rintro rfl;simp at h
   have:=ae y;rw [show Array.toList #[(27:UInt8),91,50,48,49,126]=c6 from rfl,this]at h2
   cases h2)
  rw [hs];simp only;rw [show X.length-ai.length=off by omega];exact(bX.last an o).post (F9 f kv ca b8 X aV P O ov dty aA l k i co e0 aI aO m n)
 cases ai with
 |nil =>
  have hs:shift a [] []=([],[]):=s4 _ _;exact⟨λ_=>fin hs (λh=>absurd rfl h),λh=>absurd (by rw [hs]) h⟩
 |cons b r =>
  cases a with
  |zero=>simp at t
  |succ a =>
   cases g:(b::r).isPrefixOf c6 with
   |true =>
    have hs:shift (a+1) (b::r) []=(b::r,[]):=by simp only [shift,g,dy]
    exact⟨λ_=>fin hs (λ_=>g),λh=>absurd (by rw [hs]) h⟩
   |false =>
    have A:shift (a+1) (b::r) []=shift a r [b]:=by simp only [shift,g];rfl
    rw [A];simp only [b']at x t;refine⟨λh=>absurd h (AC _ _ _ an),λ_=> ?_⟩
    obtain⟨e,d,aa,o,rfl,rfl,j,w,e0,aI,aO,m,n,u⟩:=F4 f off kv ca b8 (b::r).length (aG X) ov aV P O dty (λe d aa=>e=.normal/\d=fb/\∃j,5<=j/\aa.get 0=some (hO f kv (off+1) r.length (.slice (some ⟨j,0,0,0,1⟩) ([b]:Bytes).length ([b]:Bytes).length) ov dty)/\aa.get 1=some aV/\aa.get 2=some (bL (aG X) 1 kv ca b8 bZ)/\aa.get 3=some P/\aa.get 4=some O/\aa.get j=some (bL (aG [b]) 1 0 0 0 bZ)) (by
     delta gO wo dw
     rw [qw c,hb,show off+0=off from rfl,Ax c,ww c];refine⟨λh=>⟨rfl,by rw [e1];simp only [b'];omega,⟨b::r,rfl⟩,λh2=> ?_,λ_=>⟨⟨V,h⟩,rfl,rfl,⟨V,V,Nat.le_refl _⟩,rfl,rfl,_, aA,rfl,rfl,rfl,rfl,rfl,rfl⟩⟩,λh=>by simp only [b']at h;omega⟩;rw [show Array.toList #[(27:UInt8),91,50,48,49,126]=c6 from rfl,g]at h2
     cases h2)
    obtain⟨s,q,p,v⟩:=PW f kv ca b8 X aV P O ov dty l k i co a r [b] (off+1) 0 0 0 V (Ay c) V an;exact⟨s,q,p,bX.step (o.post (AB f kv ca b8 X aV P O ov dty aA w l k i co e0 aI aO m n u)) v⟩
end
theorem kK{h:T}{f:Nat}{kv pv ov:J}{pas:Bool}{ty uty:bj}{ax ai aw:Bytes}{j0 j1 j2 j3:Int}{D aV K P O:ac}{ks:eE}{es:List aP}{a:bO}{k p:Nat}(c:Nat.ble 5 h.Y=true)
 (e0:h.get 0=some (bB 0 f 1 kv pv pas ov ty)) (aI:h.get 1=some (bJ ax j0 j1 j2 j3 uty)) (aO:h.get 2=some K\/a.k=2) (q:h.get 3=some P\/a.p=3) (d:h.get 4=some O) (b:gL h 0 k kv ks ai) (ae:gM h 0 p pv aw)
 (s:gN (T.of [D,aV,K,P,O]) 0 a.o ov es) (g:a.u=1/\(a.k=0\/a.k=2)/\(a.p=0\/a.p=3)/\(a.o=0\/a.o=4)) (t:k=0\/(k=2/\a.k=2)\/5<=k) (v:p=0\/(p=3/\a.p=3)\/5<=p) (r:k=0\/p=0\/k≠p) (l:Nat.blt k h.Y=true) (m:Nat.blt p h.Y=true) :
 cU h 0 ⟨1,k,p,a.o⟩ f pas ks ai ax aw es/\Fr (T.of [D,aV,K,P,O]) h 0 a ⟨1,k,p,a.o⟩ where
 left:= {
  ex:=by
   refine⟨kv,pv,ov,ty,e0,b,ae,s.keep λaz=> ?_⟩;rcases g.2.2.2 with h|h
   .exact absurd h az
   .rw [h,d,T.dG];rfl
  gB:=⟨j0,j1,j2,j3,uty,aI⟩
  lt:=by have:=g.2.2.2;have c:=hC c;have l:=eH.mp l;have m:=eH.mp m;show 0<h.Y/\1<h.Y/\k<h.Y/\p<h.Y/\a.o<h.Y;omega
  ne:=r}
 right := {
  Y:=hC c
  get :=λj i w n2 y z A=>by
   have i:j<5:=i;have:(j=2/\a.k≠2)\/(j=3/\a.p≠3)\/j=4:= V;rw [T.dG];rcases this with ⟨rfl,b⟩|⟨rfl,b⟩|rfl
   .rcases aO with e|e
    .exact e
    .exact absurd e b
   .rcases q with e|e
    .exact e
    .exact absurd e b
   .exact d
  ids:=λx n=>by
   show x=0\/x=a.u\/x=a.k\/x=a.p\/x=a.o\/5<=x;have n:x=1\/x=k\/x=p\/x=a.o:=n
   omega}
theorem s5(h:T):gM h 0 0 (.slice none 0 0) []:= .inl ⟨rfl,rfl,rfl⟩
theorem qy{h:T}{p ab m f:Nat}{l:Bytes}{v:J}(ae:p≠0)(a:l≠[])(b:v=.slice (some ⟨p,ab,0,0,1⟩) l.length l.length)(e:h.get p=some (bL (aG l) 1 ab m f bZ)):gM h 0 p v l :=
 .inr ⟨ae,a,ab,m,f,b,by simpa using e⟩
theorem kL{h:T}{k ab m f off n:Nat}{X junk l:Bytes}(b:k≠0)(a:X=junk++l)(c:off=junk.length)(az:n=l.length)(e:h.get k=some (bL (aG X) 1 ab m f bZ)):gL h 0 k (.slice (some ⟨k,ab,off,0,1⟩) n n) (.grown junk) l:=by subst az;subst c;subst a;exact⟨b,ab,m,f,rfl,e⟩
theorem PY{ai aw:Bytes}{c:UInt8}{S:Bytes×Bytes}(a:shift (ai.length+1) (ai++[c]) aw=S):Keys.cb ⟨.cb,ai,[],aw⟩ c=if S.1.length=6 then(⟨.ground,[],[],[]⟩,[{kind:=4,text:=S.2}])else(⟨.cb,S.1,[],S.2⟩,[]):=by unfold Keys.cb;simp only [a];rfl
def s6(s:bq)(c:UInt8):Prop:=s.nx=.cb/\s.ax=[]/\s.ai.length<6/\s.aw.length<=65536
theorem PZ{h:T}{o:Nat}{ov:J}{es:List aP}(aa:gN h 0 o ov es)(a:o=0\/o=4):bQ jq ov:=by
 rcases aa with ⟨rfl,_⟩|⟨_,_,ab,m,f,rfl,_⟩
 .trivial
 .show jq o;unfold jq;omega
abbrev AD(L:T)(a:bO)(es:List aP)(R:bq×List aP)(v:J)(ad:T):Prop:=v=.tuple []/\∃aC,bS ad 0 aC R.1 (es++R.2)/\Fr L ad 0 a aC
theorem F'(a b c d e:ac):T.rows 40 [(0,a),(1,b),(2,c),(3,d),(4,e)]=T.af 40 [(0,a),(1,b),(2,c),(3,d),(4,e)]:= ar
theorem P0(a b c d e f:ac):T.rows 40 [(0,a),(1,b),(2,c),(3,d),(4,e),(30,f)]=T.af 40 [(0,a),(1,b),(2,c),(3,d),(4,e),(30,f)]:= ar
theorem nL{h L:T}{a I:bO}{ks:eE}{k p:Bytes}{es:List aP}{R:bq×List aP}(b:cU h 0 I (b1 .cb) true ks k [] p es/\Fr L h 0 a I)(d:l9 .cb ks k)(c:R=(⟨.cb,k,[],p⟩,[])):AD L a es R (.tuple []) h:=by subst c;exact⟨rfl,I,by rw [fV];exact⟨ks,b.1,d⟩,b.2⟩
theorem AE{h L:T}{a I:bO}{ks:eE}{k t:Bytes}{es:List aP}{R:bq×List aP}{b3:J}(c:Nat.ble 5 h.Y=true)(b:cU h 0 I (b1 .cb) false ks k [] [] es/\Fr L h 0 a I)(he:b3=bi {kind:=4,text:=t})(e:es.length<2^30)(d:R=(⟨.ground,[],[],[]⟩,[{kind:=4,text:=t}])) :
 bU h ⟨0,0,0,0,6⟩ b3/\∀ad,bV h ⟨0,0,0,0,6⟩ b3 ad->_root_.cond (Nat.ble 5 ad.Y) (AD L a es R (.tuple []) ad) False:=by
 subst d;exact oP rfl (hC c) b he e an λad aC g b6=>⟨rfl,aC,se g,b6⟩
theorem P1{H:T}{d:Nat}{I:bO}{s:bq}{es:List aP}{c:UInt8}(g:bS H d I s es)(em:es.length<2^30-8)(dg:s6 s c):∃H',bu 129 [.ptr (some ⟨d,0,0,0,6⟩),.int .u8 c.toNat] H (.tuple []) H' /\
 ∃aC,bS H' d aC (Keys.cb s c).1 (es++(Keys.cb s c).2)/\Fr H H' d I aC:=by
 obtain⟨ks,g,hs⟩:=g;refine g.D0 (Q:=λh d I=>bS h d I (Keys.cb s c).1 (es++(Keys.cb s c).2)) (λa dp=>by rw [cC.1 dp];exact ci.int _ _) (ci.of rfl) (λad H' r d I d5 d2 c5 q=>q.l' d5 d2 c5) ?_;intro kv pv ov ty uty j0 j1 j2 j3 K P O M gs j d7 R N;obtain⟨W,ae,e⟩:=kH gs;obtain⟨nx,ai,ax,aw⟩:=s;obtain⟨aa,h2,d4,c9⟩:=dg;simp only at aa h2 d4 c9 hs gs W ae e⊢;subst aa h2;simp only [show decide (gE.cb=gE.cb)=true from rfl]at ae e W gs⊢;have co:=PZ e j.2.2.2;have S:cj (bJ [] j0 j1 j2 j3 uty):=ny _ _ _ _ _ _;have d9:=c.toNat_lt;cases n:shift (ai.length+1) (ai++[c]) aw with
 |mk f b =>
 have y:=PY n
 suffices d1:∃v ad,bu 129 [.ptr (some ⟨0,0,0,0,6⟩),.int .u8 c.toNat] (T.of [bB 0 (b1 .cb) 1 kv pv true ov ty,bJ [] j0 j1 j2 j3 uty,K,P,O]) v ad /\
  AD (T.of [bB 0 (b1 .cb) 1 kv pv true ov ty,bJ [] j0 j1 j2 j3 uty,K,P,O]) M es (Keys.cb ⟨.cb,ai,[],aw⟩ c) v ad by
  obtain⟨v,ad,d0,rfl,q⟩:=d1;exact⟨ad,d0,q⟩
 cases ks with
 |one=>exact hs.elim
 |nil =>
  obtain⟨rfl,rfl,d3⟩:=W;have aI:UInt8.ofNat (Int.toNat (c.toNat:Int))=c:= an;have d6:shift 1 [c] aw=if [c].isPrefixOf c6 then([c],aw)else([],if aw.length<65536 then aw++[c]else aw):=by simp only [shift]
  have n:shift 1 [c] aw=(f,b):=n;rw [d6]at n;have pre: [c].isPrefixOf c6=true->f=[c]/\b=aw:=λu=>by rw [u]at n;simpa [eq_comm]using n
  have ce: [c].isPrefixOf c6=false->f=[]/\b=if aw.length<65536 then aw++[c]else aw:=λu=>by rw [u]at n;simpa [eq_comm]using n
  rcases ae with ⟨rfl,rfl,G⟩|⟨G,Z,L⟩
  .refine PT (b1 .cb) c.toNat ov (bJ [] j0 j1 j2 j3 uty) K P O ty _ ?_
   delta dw
   rw [aI,show Array.toList #[(27:UInt8),91,50,48,49,126]=c6 from rfl];refine⟨λu=> ?_,λu=> ?_⟩
   .obtain⟨rfl,rfl⟩:=pre u;exact nL (kK (k:=12) (p:=0) rfl rfl rfl (.inl rfl) (.inl rfl) rfl (kL (junk:=[]) (X:=[c]) aA rfl rfl rfl rfl) (s5 _) e j (.inr (.inr aA)) (.inl rfl) (.inr (.inl rfl)) rfl rfl) trivial y
   .obtain⟨rfl,rfl⟩:=ce u;exact nL (kK (k:=12) (p:=49) rfl rfl rfl (.inl rfl) (.inl rfl) rfl (kL (junk:=[c]) (X:=[c]) aA rfl rfl rfl rfl) (qy (l:=[c]) aA an rfl rfl) e j (.inr (.inr aA)) (.inr (.inr aA)) (.inr (.inr aA)) rfl rfl) trivial y
  .have o:M.p=3:= V;rw [o]at G L;obtain⟨B,pm,F,rfl,z⟩:=L;rw [T.dG]at z;simp only [fe,hj,a6,eg,dx]at z;subst z;refine PU (b1 .cb) B pm F aw.length (aG aw) c.toNat ov (bJ [] j0 j1 j2 j3 uty) K O ty _ ?_
   delta jp dw
   rw [aI,show Array.toList #[(27:UInt8),91,50,48,49,126]=c6 from rfl];have C:=e1 aw;refine⟨λu=> ?_,λu=>⟨λc5=>⟨⟨rfl,V,V,V,V⟩,?_⟩,λeq=> ?_⟩⟩
   .obtain⟨rfl,rfl⟩:=pre u;exact nL (kK (k:=12) (p:=3) rfl rfl rfl (.inl rfl) (.inr o) rfl (kL (junk:=[]) (X:=[c]) aA rfl rfl rfl rfl) (qy aA Z rfl rfl) e j (.inr (.inr aA)) (.inr (.inl ⟨rfl,o⟩)) (.inr (.inr aA)) rfl rfl) trivial y
   .obtain⟨rfl,rfl⟩:=ce u;rw [aE (show aw.length<65536 by omega)]at y;exact nL (kK (k:=12) (p:=3) rfl rfl rfl (.inl rfl) (.inr o) rfl (kL (junk:=[c]) (X:=[c]) aA rfl rfl rfl rfl) (qy (l:=aw++[c]) aA an (by rw [dt];rfl) (by rw [<-wx];rfl)) e j (.inr (.inr aA)) (.inr (.inl ⟨rfl,o⟩)) (.inr (.inr aA)) rfl rfl) trivial y
   .obtain⟨rfl,rfl⟩:=ce u;rw [ap (show ¬aw.length<65536 by omega)]at y;exact nL (kK (k:=12) (p:=3) rfl rfl rfl (.inl rfl) (.inr o) rfl (kL (junk:=[c]) (X:=[c]) aA rfl rfl rfl rfl) (qy aA Z rfl rfl) e j (.inr (.inr aA)) (.inr (.inl ⟨rfl,o⟩)) (.inr (.inr aA)) rfl rfl) trivial y
 |grown junk =>
  obtain⟨d3,ab,m,w,rfl,a5⟩:=W;have i:M.k=2:= V;rw [i,T.dG]at a5;simp only [fe,hj,a6]at a5;subst a5;rw [i]at ae e⊢;have U:aG (junk++ai)++[J.int .u8 (c.toNat:Int)]=aG (junk++(ai++[c])):=by rw [wx,ik]
  generalize a9:junk++(ai++[c])=X at U;have c4:X.drop junk.length=ai++[c]:=by rw [<-a9];simp
  have d8:X.length=junk.length+ai.length+1:=by rw [<-a9];simp;omega
  have bn:(ai++[c]).length=ai.length+1:= an;have ex:(aG (junk++ai)).length=junk.length+ai.length:=by rw [e1,dt]
  obtain⟨t,bv⟩:=F8 (ai.length+1) (ai++[c]) aw;rw [n]at bv;simp only at bv;have A:X=(junk++t)++f:=by rw [<-a9,bv,ik]
  have D:X.length-f.length=(junk++t).length:=by rw [A];simp only [dt];omega
  have am:ab=ab/\junk.length+ai.length=(aG (junk++ai)).length/\ai.length<ai.length+1/\(ai.length+1+(ai.length+1)/4+512)*1<=281474976710656/\ai.length+1<4611686018427387904:=⟨rfl,V,V,V,V⟩
  have m6:(f.length:Int)=6->Keys.cb ⟨.cb,ai,[],aw⟩ c=(⟨.ground,[],[],[]⟩,[{kind:=4,text:=b}]):=λh=>by rw [y,aE (show f.length=6 by omega)]
  have m7:¬(f.length:Int)=6->Keys.cb ⟨.cb,ai,[],aw⟩ c=(⟨.cb,f,[],b⟩,[]):=λh=>by rw [y,ap (show ¬f.length=6 by omega)]
  rcases ae with ⟨rfl,rfl,G⟩|⟨G,Z,L⟩
  ·
    obtain⟨b2,l2⟩:=PX (b1 .cb) (ab+1) m (if m=ab then(aG (junk++ai)).length else min w (aG (junk++ai)).length) X (bJ [] j0 j1 j2 j3 uty) P O ov ty S R N co (ai.length+1) (ai++[c]) junk.length V c4 V;rw [n]at b2 l2;simp only at b2 l2
    have c3:∀h:T,h.get 0=some (hO (b1 .cb) (ab+1) junk.length (ai++[c]).length (.slice none 0 0) ov ty)->h.get 1=some (bJ [] j0 j1 j2 j3 uty)->h.get 2=some (bL (aG X) 1 (ab+1) m (if m=ab then(aG (junk++ai)).length else min w (aG (junk++ai)).length) bZ)->h.get 3=some P->h.get 4=some O->b5 5 80 fb h fb (T.rows 5 (nK (b1 .cb) (ab+1) m (if m=ab then(aG (junk++ai)).length else min w (aG (junk++ai)).length) X (bJ [] j0 j1 j2 j3 uty) P O ov ty junk.length (ai++[c]).length)) :=
     λh a0 ao a2 a3 a4=>F9 _ _ _ _ _ _ _ _ _ _ (Nat.le_refl _) S R N co a0 ao a2 a3 a4
    by_cases E:b=[]
    .have x:=b2 E;rw [F']at x;subst E;refine PQ (b1 .cb) junk.length ab m w ai.length (ab+1) m (if m=ab then(aG (junk++ai)).length else min w (aG (junk++ai)).length) (X.length-f.length) f.length (aG (junk++ai)) (aG X) c.toNat (.slice none 0 0) ov (bJ [] j0 j1 j2 j3 uty) P P O ty _ ?_
     delta j5 dw Av mu
     refine⟨am,?_,λh=> ?_,λh=> ?_⟩
     .rw [U,<-bn];exact cZ.dJ (x.pre (c3 _ rfl rfl rfl rfl rfl))
     .rw [m6 h];exact AE rfl (kK (k:=2) (p:=0) rfl rfl rfl (.inr i) (.inl rfl) rfl (kL aA A D rfl rfl) (s5 _) e j (.inr (.inl ⟨rfl,i⟩)) (.inl rfl) (.inr (.inl rfl)) rfl rfl) rfl V rfl
     .rw [m7 h];exact nL (kK (k:=2) (p:=0) rfl rfl rfl (.inr i) (.inl rfl) rfl (kL aA A D rfl rfl) (s5 _) e j (.inr (.inl ⟨rfl,i⟩)) (.inl rfl) (.inr (.inl rfl)) rfl rfl) trivial rfl
    .obtain⟨c2,c0,ct,x⟩:=l2 E;rw [P0]at x;have C:=e1 b;have el:List.take b.length (List.drop 0 (aG b))=aG b:=by rw [oa,<-C,jH]
     have av:List.take b.length (aG b)=aG b:=by rw [<-C,jH]
     refine PS (b1 .cb) junk.length ab m w ai.length (ab+1) m (if m=ab then(aG (junk++ai)).length else min w (aG (junk++ai)).length) (X.length-f.length) f.length c2 c0 ct b.length (aG (junk++ai)) (aG X) (aG b) c.toNat (.slice none 0 0) ov (bJ [] j0 j1 j2 j3 uty) P P O ty _ ?_
     delta lp j5 dw qv mu
     refine⟨am,?_,λh=>⟨rfl,V,⟨b,el⟩,?_⟩,λh=> ?_⟩
     .rw [U,<-bn];exact cZ.dJ (x.pre (c3 _ rfl rfl rfl rfl rfl))
     .rw [m6 h,av,hb];exact AE rfl (kK (k:=2) (p:=0) rfl rfl rfl (.inr i) (.inl rfl) rfl (kL aA A D rfl rfl) (s5 _) e j (.inr (.inl ⟨rfl,i⟩)) (.inl rfl) (.inr (.inl rfl)) rfl rfl) rfl V rfl
     .rw [m7 h];exact nL (kK (k:=2) (p:=30) rfl rfl rfl (.inr i) (.inl rfl) rfl (kL aA A D rfl rfl) (qy aA E rfl rfl) e j (.inr (.inl ⟨rfl,i⟩)) (.inr (.inr aA)) (.inr (.inr aA)) rfl rfl) trivial rfl
  .have o:M.p=3:= V;rw [o]at G L;obtain⟨B,pm,F,rfl,z⟩:=L;rw [T.dG]at z;simp only [fe,hj,a6,eg,dx]at z;subst z;simp only [dx]at e⊢
   have E:b≠[]:=by have:=AC (ai.length+1) (ai++[c]) aw Z;rw [n]at this;exact this
   obtain⟨c2,c0,ct,x⟩:=PV (b1 .cb) (ab+1) m (if m=ab then(aG (junk++ai)).length else min w (aG (junk++ai)).length) X (bJ [] j0 j1 j2 j3 uty) (bL (aG aw) 1 B pm F bZ) O ov ty S R N co (ai.length+1) (ai++[c]) aw junk.length B pm F V c4 V c9;rw [n]at x;simp only at x;rw [F']at x;have C:=e1 b;have el:List.take b.length (List.drop 0 (aG b))=aG b:=by rw [oa,<-C,jH]
   have av:List.take b.length (aG b)=aG b:=by rw [<-C,jH]
   refine PR (b1 .cb) junk.length ab m w ai.length (ab+1) m (if m=ab then(aG (junk++ai)).length else min w (aG (junk++ai)).length) (X.length-f.length) f.length c2 c0 ct b.length (aG (junk++ai)) (aG X) (aG b) c.toNat (.slice (some ⟨3,B,0,0,1⟩) aw.length aw.length) ov (bJ [] j0 j1 j2 j3 uty) (bL (aG aw) 1 B pm F bZ) O ty _ ?_
   delta lp j5 dw qv mu
   refine⟨am,?_,λh=>⟨rfl,V,⟨b,el⟩,?_⟩,λh=> ?_⟩
   .rw [U,<-bn];exact cZ.dJ (x.pre (AA _ _ _ _ _ _ (bL (aG aw) 1 B pm F bZ) _ _ _ (Nat.le_refl _) rfl S R N co rfl rfl rfl rfl rfl rfl))
   .rw [m6 h,av,hb];exact AE rfl (kK (k:=2) (p:=0) rfl rfl rfl (.inr i) (.inr o) rfl (kL aA A D rfl rfl) (s5 _) e j (.inr (.inl ⟨rfl,i⟩)) (.inl rfl) (.inr (.inl rfl)) rfl rfl) rfl V rfl
   .rw [m7 h];exact nL (kK (k:=2) (p:=3) rfl rfl rfl (.inr i) (.inr o) rfl (kL aA A D rfl rfl) (qy aA E rfl rfl) e j (.inr (.inl ⟨rfl,i⟩)) (.inr (.inl ⟨rfl,o⟩)) (.inr (.inr aA)) rfl rfl) trivial rfl
theorem P3:∀args h a,hv (2^30-8) s6 Keys.cb args h=some a->a.cx Tryz.prog ck 129 args h:=nA λH d I s es c g e f b=>P1 g e b
noncomputable def P4:dB:=((FY.add 87 (hv (2^30-8) s0 Keys.sequence)).add 129 (hv (2^30-8) s6 Keys.cb))
theorem nM:dv Tryz.prog ck P4:=(FZ.add PN).add P3
abbrev j6(a:T):T:=(T.mk (a.Y+4+6) (T.ay (T.mk (a.Y+1+3) (T.ay (T.mk (a.Y+1) (T.ay a))))))
theorem Ga(b:T)(f d j h g c m a i:Nat)(k:bW->a8->T->Prop)(o:aW f (b.Y) (((a:Int)<(c:Int)->aW f (b.Y+1) ((0<=(a:Int)/\(a:Int)<(c:Int))/\a1 env.D 5 ⟨j,h,g+Int.toNat (a:Int),0,1⟩ (aY b 4)=some (.int .u8 (i:Int))/\aW f (b.Y+4) (a1 env.D 66 ⟨d,0,0,0,6⟩ (aY b 10)=some (.func (.func 30) [.ptr (ba d)] [])/\cF (2^30-4) ji (j6 b) ⟨d,0,0,0,6⟩ (i:Int)/\∀(l:T),cG ground (j6 b) ⟨d,0,0,0,6⟩ (i:Int) l->aW f (l.Y) ((-9223372036854775808<=(a:Int)+1/\(a:Int)+1<=9223372036854775807)/\k .normal [(0,.ptr (ba d)),(13,.slice (some ⟨j,h,g,0,1⟩) c m),(14,.int .i64 (c:Int)),(15,.int .i64 ((a:Int)+1))] (aY l 2)))))/\(¬(a:Int)<(c:Int)->k (.exit 0) [(0,.ptr (ba d)),(13,.slice (some ⟨j,h,g,0,1⟩) c m),(14,.int .i64 (c:Int)),(15,.int .i64 (a:Int))] (aY b 1)))) :
 ∃e n aa,bR f 34 (br 26 0) [(0,.ptr (ba d)),(13,.slice (some ⟨j,h,g,0,1⟩) c m),(14,.int .i64 c),(15,.int .i64 a)] b e n aa/\k e n aa :=
 di cP mixed nM (hs:= .aq 5000 (ag 6000 (.ak (.val 6001 (.int .u8 (i:Int))) (.ak (.val 7003 (.func (.func 30) [.ptr (ba d)] [])) (ag 8000 .nil)))) .nil) (keep:=[0,13,14,15]) ar o
theorem P5(b:T)(f d j h g c m a i:Nat)(k:bW->a8->T->Prop)(o:aW f (b.Y) (((a:Int)<(c:Int)->aW f (b.Y+1) ((0<=(a:Int)/\(a:Int)<(c:Int))/\a1 env.D 5 ⟨j,h,g+Int.toNat (a:Int),0,1⟩ (aY b 4)=some (.int .u8 (i:Int))/\aW f (b.Y+4) (a1 env.D 66 ⟨d,0,0,0,6⟩ (aY b 10)=some (.func (.func 59) [.ptr (ba d)] [])/\cF (2^30-8) sj (j6 b) ⟨d,0,0,0,6⟩ (i:Int)/\∀(l:T),cG cH (j6 b) ⟨d,0,0,0,6⟩ (i:Int) l->aW f (l.Y) ((-9223372036854775808<=(a:Int)+1/\(a:Int)+1<=9223372036854775807)/\k .normal [(0,.ptr (ba d)),(13,.slice (some ⟨j,h,g,0,1⟩) c m),(14,.int .i64 (c:Int)),(15,.int .i64 ((a:Int)+1))] (aY l 2)))))/\(¬(a:Int)<(c:Int)->k (.exit 0) [(0,.ptr (ba d)),(13,.slice (some ⟨j,h,g,0,1⟩) c m),(14,.int .i64 (c:Int)),(15,.int .i64 (a:Int))] (aY b 1)))) :
 ∃e n aa,bR f 34 (br 26 0) [(0,.ptr (ba d)),(13,.slice (some ⟨j,h,g,0,1⟩) c m),(14,.int .i64 c),(15,.int .i64 a)] b e n aa/\k e n aa :=
 di cP mixed nM (hs:= .aq 5000 (ag 6000 (.ak (.val 6001 (.int .u8 (i:Int))) (.ak (.val 7003 (.func (.func 59) [.ptr (ba d)] [])) (ag 8000 .nil)))) .nil) (keep:=[0,13,14,15]) ar o
theorem P6(b:T)(f d j h g c m a i:Nat)(k:bW->a8->T->Prop)(o:aW f (b.Y) (((a:Int)<(c:Int)->aW f (b.Y+1) ((0<=(a:Int)/\(a:Int)<(c:Int))/\a1 env.D 5 ⟨j,h,g+Int.toNat (a:Int),0,1⟩ (aY b 4)=some (.int .u8 (i:Int))/\aW f (b.Y+4) (a1 env.D 66 ⟨d,0,0,0,6⟩ (aY b 10)=some (.func (.func 90) [.ptr (ba d)] [])/\cF (2^30-8) sF (j6 b) ⟨d,0,0,0,6⟩ (i:Int)/\∀(l:T),cG cd (j6 b) ⟨d,0,0,0,6⟩ (i:Int) l->aW f (l.Y) ((-9223372036854775808<=(a:Int)+1/\(a:Int)+1<=9223372036854775807)/\k .normal [(0,.ptr (ba d)),(13,.slice (some ⟨j,h,g,0,1⟩) c m),(14,.int .i64 (c:Int)),(15,.int .i64 ((a:Int)+1))] (aY l 2)))))/\(¬(a:Int)<(c:Int)->k (.exit 0) [(0,.ptr (ba d)),(13,.slice (some ⟨j,h,g,0,1⟩) c m),(14,.int .i64 (c:Int)),(15,.int .i64 (a:Int))] (aY b 1)))) :
 ∃e n aa,bR f 34 (br 26 0) [(0,.ptr (ba d)),(13,.slice (some ⟨j,h,g,0,1⟩) c m),(14,.int .i64 c),(15,.int .i64 a)] b e n aa/\k e n aa :=
 di cP mixed nM (hs:= .aq 5000 (ag 6000 (.ak (.val 6001 (.int .u8 (i:Int))) (.ak (.val 7003 (.func (.func 90) [.ptr (ba d)] [])) (ag 8000 .nil)))) .nil) (keep:=[0,13,14,15]) ar o
theorem P7(b:T)(f d j h g c m a i:Nat)(k:bW->a8->T->Prop)(o:aW f (b.Y) (((a:Int)<(c:Int)->aW f (b.Y+1) ((0<=(a:Int)/\(a:Int)<(c:Int))/\a1 env.D 5 ⟨j,h,g+Int.toNat (a:Int),0,1⟩ (aY b 4)=some (.int .u8 (i:Int))/\aW f (b.Y+4) (a1 env.D 66 ⟨d,0,0,0,6⟩ (aY b 10)=some (.func (.func 87) [.ptr (ba d)] [])/\cF (2^30-8) s0 (j6 b) ⟨d,0,0,0,6⟩ (i:Int)/\∀(l:T),cG sequence (j6 b) ⟨d,0,0,0,6⟩ (i:Int) l->aW f (l.Y) ((-9223372036854775808<=(a:Int)+1/\(a:Int)+1<=9223372036854775807)/\k .normal [(0,.ptr (ba d)),(13,.slice (some ⟨j,h,g,0,1⟩) c m),(14,.int .i64 (c:Int)),(15,.int .i64 ((a:Int)+1))] (aY l 2)))))/\(¬(a:Int)<(c:Int)->k (.exit 0) [(0,.ptr (ba d)),(13,.slice (some ⟨j,h,g,0,1⟩) c m),(14,.int .i64 (c:Int)),(15,.int .i64 (a:Int))] (aY b 1)))) :
 ∃e n aa,bR f 34 (br 26 0) [(0,.ptr (ba d)),(13,.slice (some ⟨j,h,g,0,1⟩) c m),(14,.int .i64 c),(15,.int .i64 a)] b e n aa/\k e n aa :=
 di cP mixed nM (hs:= .aq 5000 (ag 6000 (.ak (.val 6001 (.int .u8 (i:Int))) (.ak (.val 7003 (.func (.func 87) [.ptr (ba d)] [])) (ag 8000 .nil)))) .nil) (keep:=[0,13,14,15]) ar o
theorem P8(b:T)(f d j h g c m a i:Nat)(k:bW->a8->T->Prop)(o:aW f (b.Y) (((a:Int)<(c:Int)->aW f (b.Y+1) ((0<=(a:Int)/\(a:Int)<(c:Int))/\a1 env.D 5 ⟨j,h,g+Int.toNat (a:Int),0,1⟩ (aY b 4)=some (.int .u8 (i:Int))/\aW f (b.Y+4) (a1 env.D 66 ⟨d,0,0,0,6⟩ (aY b 10)=some (.func (.func 88) [.ptr (ba d)] [])/\cF (2^30-8) singleR (j6 b) ⟨d,0,0,0,6⟩ (i:Int)/\∀(l:T),cG single (j6 b) ⟨d,0,0,0,6⟩ (i:Int) l->aW f (l.Y) ((-9223372036854775808<=(a:Int)+1/\(a:Int)+1<=9223372036854775807)/\k .normal [(0,.ptr (ba d)),(13,.slice (some ⟨j,h,g,0,1⟩) c m),(14,.int .i64 (c:Int)),(15,.int .i64 ((a:Int)+1))] (aY l 2)))))/\(¬(a:Int)<(c:Int)->k (.exit 0) [(0,.ptr (ba d)),(13,.slice (some ⟨j,h,g,0,1⟩) c m),(14,.int .i64 (c:Int)),(15,.int .i64 (a:Int))] (aY b 1)))) :
 ∃e n aa,bR f 34 (br 26 0) [(0,.ptr (ba d)),(13,.slice (some ⟨j,h,g,0,1⟩) c m),(14,.int .i64 c),(15,.int .i64 a)] b e n aa/\k e n aa :=
 di cP mixed nM (hs:= .aq 5000 (ag 6000 (.ak (.val 6001 (.int .u8 (i:Int))) (.ak (.val 7003 (.func (.func 88) [.ptr (ba d)] [])) (ag 8000 .nil)))) .nil) (keep:=[0,13,14,15]) ar o
theorem P9(b:T)(f d j h g c m a i:Nat)(k:bW->a8->T->Prop)(o:aW f (b.Y) (((a:Int)<(c:Int)->aW f (b.Y+1) ((0<=(a:Int)/\(a:Int)<(c:Int))/\a1 env.D 5 ⟨j,h,g+Int.toNat (a:Int),0,1⟩ (aY b 4)=some (.int .u8 (i:Int))/\aW f (b.Y+4) (a1 env.D 66 ⟨d,0,0,0,6⟩ (aY b 10)=some (.func (.func 129) [.ptr (ba d)] [])/\cF (2^30-8) s6 (j6 b) ⟨d,0,0,0,6⟩ (i:Int)/\∀(l:T),cG cb (j6 b) ⟨d,0,0,0,6⟩ (i:Int) l->aW f (l.Y) ((-9223372036854775808<=(a:Int)+1/\(a:Int)+1<=9223372036854775807)/\k .normal [(0,.ptr (ba d)),(13,.slice (some ⟨j,h,g,0,1⟩) c m),(14,.int .i64 (c:Int)),(15,.int .i64 ((a:Int)+1))] (aY l 2)))))/\(¬(a:Int)<(c:Int)->k (.exit 0) [(0,.ptr (ba d)),(13,.slice (some ⟨j,h,g,0,1⟩) c m),(14,.int .i64 (c:Int)),(15,.int .i64 (a:Int))] (aY b 1)))) :
 ∃e n aa,bR f 34 (br 26 0) [(0,.ptr (ba d)),(13,.slice (some ⟨j,h,g,0,1⟩) c m),(14,.int .i64 c),(15,.int .i64 a)] b e n aa/\k e n aa :=
 di cP mixed nM (hs:= .aq 5000 (ag 6000 (.ak (.val 6001 (.int .u8 (i:Int))) (.ak (.val 7003 (.func (.func 129) [.ptr (ba d)] [])) (ag 8000 .nil)))) .nil) (keep:=[0,13,14,15]) ar o
theorem P'(a:T)(b g:Nat)(f:J)(d:bW->a8->T->Prop)(h:aW b (a.Y) (d (.exit 0) [(0,.ptr (ba g)),(13,f),(14,.int .i64 0),(15,.int .i64 0)] (aY a 1))) :
 ∃e c aa,bR b 34 (br 26 0) [(0,.ptr (ba g)),(13,f),(14,.int .i64 0),(15,.int .i64 0)] a e c aa/\d e c aa :=
 di cP mixed nM (hs:= .nil) (keep:=[0,13,14,15]) ar h
theorem Qa(a f b e:T)(c d g:Nat)(h:Option aT)(i k:J)(j:bm)(l:aW (a.Y) (a.Y) (aW (a.Y) (a.Y+1) (aW (a.Y) (a.Y+3) (bd env cr (a.Y+6) (bf [(12,.ptr (some ⟨c,0,0,5,6⟩))]) (aY a 7) (Op.store 56 (Operand.tmp 12) (Operand.const (Value.slice none 0 0)))=some (J.tuple [],f)/\aW (a.Y) (f.Y) (bR (a.Y) 34 (Code.loop (br 26 0)) [(0,.ptr (ba c)),(13,.slice h d g),(14,.int .i64 (d:Int)),(15,.int .i64 0)] (aY f 3) (.exit 0) [(0,.ptr (ba c)),(13,.slice h d g),(14,.int .i64 (d:Int)),(15,k)] b/\aW (a.Y) (b.Y) (a1 env.D 56 ⟨c,0,0,5,6⟩ (aY b 5)=some i/\aW (a.Y) (b.Y+5) (bd env cr (b.Y+8) (bf [(32,.ptr (some ⟨c,0,0,5,6⟩))]) (aY b 9) (Op.store 56 (Operand.tmp 32) (Operand.const (Value.slice none 0 0)))=some (J.tuple [],e)/\aW (a.Y) (e.Y) (bk (a.Y) (e.Y+2) (j i (aY e 2)))))))))) :
 bC 26 [.ptr (ba c),.slice h d g] a j :=
 bI nM (.ak (.act 3003 (.tuple []) λx=>f) (.ak (.keep [0,13,14,15]) (.ak (.loop [(0,.ptr (ba c)),(13,.slice h d g),(14,.int .i64 (d:Int)),(15,k)] b (.exit 0)) (.ak (.val 9003 i) (.ak (.act 10003 (.tuple []) λx=>e) .nil))))) l
theorem Qb{h:T}{d f u:Nat}{kv pv ov:J}{pas:Bool}{ty:bj}(e:h.get d=some (bB d f u kv pv pas ov ty)):a1 (a'.D env) 66 ⟨d,0,0,0,6⟩ h=some (.func (.func f) [.ptr (some ⟨d,0,0,0,6⟩)] []):=by have a:(a'.D env 66).map (λd=>d.kind.isAgg)=some false:= ar;obtain⟨x,aa,h2⟩:=b4.1 a;unfold a1;rw [aa,e];simp [ac.elem?,ac.b0,ft,h2,ac.aj]
theorem Gb{h:T}{d f u:Nat}{kv pv ov:J}{pas:Bool}{ty:bj}(e:h.get d=some (bB d f u kv pv pas ov ty)):a1 (a'.D env) 56 ⟨d,0,0,5,6⟩ h=some ov:=by have a:(a'.D env 56).map (λd=>d.kind.isAgg)=some false:= ar;obtain⟨x,aa,h2⟩:=b4.1 a;unfold a1;rw [aa,e];simp [ac.elem?,ac.b0,ft,h2,ac.aj]
theorem wy{h:T}{d f u:Nat}{kv pv ov:J}{pas:Bool}{ty:bj}(e:h.get d=some (bB d f u kv pv pas ov ty)):eA (a'.D env) 56 ⟨d,0,0,5,6⟩ (.slice none 0 0) h=some (h.set d (bB d f u kv pv pas (.slice none 0 0) ty)):=by have a:(a'.D env 56).map (λd=>(d.kind.isAgg,d.size))=some (false,1):= ar;obtain⟨x,aa,h2⟩:=b4.1 a;simp only [bo]at h2;unfold eA;rw [aa,e];simp [J.fits,h2.1,h2.2,ac.aj,kn,J.cells,gk]
theorem Gc{h:T}{q v i:Nat}{b:ac}{c:Int}(e:h.get q=some b)(he:b.elem? v i=some (.int .u8 c)):a1 (a'.D env) 5 ⟨q,v,i,0,1⟩ h=some (.int .u8 c):=by have a:(a'.D env 5).map (λd=>d.kind.isAgg)=some false:= ar;obtain⟨x,aa,h2⟩:=b4.1 a;unfold a1;rw [aa,e];simp only [he,ft,h2,ew,ey,dy]
structure nN(H:T)(q bv bw:Nat)(aU:Bytes):Prop where
 ex:∃b,H.get q=some b/\∀(j:Nat)(h:j<aU.length),b.elem? bv (bw+j)=some (.int .u8 aU[j].toNat)
theorem nN.keep{H H':T}{q bv bw:Nat}{aU:Bytes}(h:nN H q bv bw aU)(e:H'.get q=H.get q):nN H' q bv bw aU:=by obtain⟨b,aa,h2⟩:=h.ex;exact⟨b,by rw [e];exact aa,h2⟩
structure iF(q d:Nat)(I:bO):Prop where
 d:q≠d
 u:q≠I.u
 k:q≠I.k
 p:q≠I.p
 o:q≠I.o
theorem iF.b6{h ad:T}{q d:Nat}{I aC:bO}(o:iF q d I)(b6:Fr h ad d I aC)(a:q<h.Y):iF q d aC where
 d:=o.d
 u e:=by have:=b6.ids q (.inl e);have:=o.d;have:=o.u;have:=o.k;have:=o.p;have:=o.o;omega
 k e:=by have:=b6.ids q (.inr (.inl e));have:=o.d;have:=o.u;have:=o.k;have:=o.p;have:=o.o;omega
 p e:=by have:=b6.ids q (.inr (.inr (.inl e)));have:=o.d;have:=o.u;have:=o.k;have:=o.p;have:=o.o;omega
 o e:=by have:=b6.ids q (.inr (.inr (.inr e)));have:=o.d;have:=o.u;have:=o.k;have:=o.p;have:=o.o;omega
theorem iF.get{h ad:T}{q d:Nat}{I aC:bO}(o:iF q d I)(b6:Fr h ad d I aC)(a:q<h.Y):ad.get q=h.get q:=b6.get q a o.d o.u o.k o.p o.o
theorem mv{h:T}{d:Nat}{I:bO}{s:bq}{es:List aP}{k:Nat}(g:bS h d I s es):bS ⟨h.Y+k,h.ay⟩ d I s es:=by obtain⟨ks,g,hs⟩:=g;refine⟨ks,⟨g.ex,g.gB,?_,g.ne⟩,hs⟩;have:=g.lt;show d<h.Y+k/\I.u<h.Y+k/\I.k<h.Y+k/\I.p<h.Y+k/\I.o<h.Y+k;omega
theorem AF{h ad:T}{d:Nat}{I aC:bO}{k:Nat}(b6:Fr h ad d I aC):Fr h ⟨ad.Y+k,ad.ay⟩ d I aC where
 Y:=by have:=b6.Y;show h.Y<=ad.Y+k;omega
 get:=b6.get
 ids:=b6.ids
theorem Gd{h ad:T}{d:Nat}{I aC:bO}{k:Nat}(b6:Fr ⟨h.Y+k,h.ay⟩ ad d I aC):Fr h ad d I aC where
 Y:=by have:h.Y+k<=ad.Y:=b6.Y;omega
 get j b:=b6.get j (by show j<h.Y+k;omega)
 ids x a:=by have:x=d\/x=I.u\/x=I.k\/x=I.p\/x=I.o\/h.Y+k<=x:=b6.ids x a;omega
abbrev ie(d q bv bw n m j:Nat):a8:=[(0,.ptr (some ⟨d,0,0,0,6⟩)),(13,.slice (some ⟨q,bv,bw,0,1⟩) n m),(14,.int .i64 (n:Nat)),(15,.int .i64 (j:Nat))]
theorem Qc{a b:Nat}(h:a<=b):(Nat.ble a b&&true)=true:=by rw [Nat.ble_eq.mpr h];rfl
theorem aR{a b:Nat}{p:Prop}(h:a<=b)(k:p):_root_.cond (Nat.ble a b&&true) p False:=by rw [Qc h];exact k
theorem qz{H:T}{B d q bv bw n m j c N:Nat}{R:bq->UInt8->Prop}{F:bq->UInt8->bq×List aP}{g:J}{a:bW->a8->T->Prop}(b:B<=H.Y)(f:j<n)(az:n<2^62)(aa:T)(aI:aa=⟨H.Y+10,H.ay⟩)
 (cD:a1 (a'.D env) 5 ⟨q,bv,bw+Int.toNat (j:Int),0,1⟩ ⟨H.Y+4,H.ay⟩=some (.int .u8 (c:Int))) (e:a1 (a'.D env) 66 ⟨d,0,0,0,6⟩ ⟨H.Y+10,H.ay⟩=some g)
 (pre:cF N R ⟨H.Y+10,H.ay⟩ ⟨d,0,0,0,6⟩ (c:Int)) (post:∀h,cG F ⟨H.Y+10,H.ay⟩ ⟨d,0,0,0,6⟩ (c:Int) h->a .normal (ie d q bv bw n m (j+1)) ⟨h.Y+2,h.ay⟩) (X:Prop) :
 _root_.cond (Nat.ble B H.Y&&true) (((j:Int)<(n:Int)->_root_.cond (Nat.ble B (H.Y+1)&&true) ((0<=(j:Int)/\(j:Int)<(n:Int))/\a1 (a'.D env) 5 ⟨q,bv,bw+Int.toNat (j:Int),0,1⟩ ⟨H.Y+4,H.ay⟩=some (.int .u8 (c:Int))/\_root_.cond (Nat.ble B (H.Y+4)&&true) (a1 (a'.D env) 66 ⟨d,0,0,0,6⟩ ⟨H.Y+10,H.ay⟩=some g/\cF N R aa ⟨d,0,0,0,6⟩ (c:Int) /\
  ∀h,cG F aa ⟨d,0,0,0,6⟩ (c:Int) h->_root_.cond (Nat.ble B h.Y&&true) ((-9223372036854775808<=(j:Int)+1/\(j:Int)+1<=9223372036854775807)/\a .normal [(0,.ptr (some ⟨d,0,0,0,6⟩)),(13,.slice (some ⟨q,bv,bw,0,1⟩) n m),(14,.int .i64 (n:Nat)),(15,.int .i64 ((j:Int)+1))] ⟨h.Y+2,h.ay⟩) False) False) False)/\(¬(j:Int)<(n:Int)->X)) False:=by
 subst aI;refine aR b ⟨λ_=>aR V ⟨⟨V,V⟩,cD,aR V ⟨e,pre,λh t=> ?_⟩⟩,λh=>absurd V h⟩;have i:H.Y+10<=h.Y:=t.Y;exact aR V ⟨⟨V,V⟩,by rw [show((j:Int)+1)=((j+1:Nat):Int)by omega];exact post h t⟩
theorem Qd{H:T}{B d q bv bw m j:Nat}{I:bO}{s:bq}{es:List aP}{aU:Bytes}(v:B<=H.Y)(g:bS H d I s es)(a:Keys.Good s)(P:es.length<2^30-8)(K:nN H q bv bw aU)(p:j<aU.length)(az:aU.length<2^62) :
 ∃H' aC,bR B 34 (br 26 0) (ie d q bv bw aU.length m j) H .normal (ie d q bv bw aU.length m (j+1)) H'/\bS H' d aC (Keys.step s aU[j]).1 (es++(Keys.step s aU[j]).2)/\Fr H H' d I aC:=by
 have al:=aU[j].toNat_lt;obtain⟨b,L,M⟩:=K.ex;have cD:a1 (a'.D env) 5 ⟨q,bv,bw+Int.toNat (j:Int),0,1⟩ ⟨H.Y+4,H.ay⟩=some (.int .u8 (aU[j].toNat:Int)):=Gc L (by rw [show bw+Int.toNat (j:Int)=bw+j by simp];exact M j p)
 have O:∃kv pv ov ty,H.get d=some (bB d (b1 s.nx) I.u kv pv (decide (s.nx=.cb)) ov ty):=by obtain⟨ks,A,_⟩:=g;obtain⟨kv,pv,ov,ty,e,_⟩:=A.ex;exact⟨kv,pv,ov,ty,e⟩
 obtain⟨kv,pv,ov,ty,y⟩:=O;have i:=Qb (h:=⟨H.Y+10,H.ay⟩) y
 have x:s.ax.length<=4:=by
  obtain⟨nx,ai,ax,aw⟩:=s;cases nx with
  |cd=>have:=a.2.2.2.1;simp only at this⊢; omega
  |ground=>have:=a.2.1;simp only at this;simp [this]
  |cH=>have:=a.2.1;simp only at this;simp [this]
  |sequence=>have:=a.1;simp only at this;simp [this]
  |single=>have:=a.1;simp only at this;simp [this]
  |cb=>have:=a.1;simp only at this;simp [this]
 have key:∀{N:Nat}{R:bq->UInt8->Prop}{F:bq->UInt8->bq×List aP},es.length<N->R s aU[j]->F s aU[j]=Keys.step s aU[j] ->
  cF N R ⟨H.Y+10,H.ay⟩ ⟨d,0,0,0,6⟩ (aU[j].toNat:Int)/\∀h,cG F ⟨H.Y+10,H.ay⟩ ⟨d,0,0,0,6⟩ (aU[j].toNat:Int) h->bW.normal=.normal/\ie d q bv bw aU.length m (j+1)=ie d q bv bw aU.length m (j+1)/\∃aC,bS ⟨h.Y+2,h.ay⟩ d aC (Keys.step s aU[j]).1 (es++(Keys.step s aU[j]).2)/\Fr H ⟨h.Y+2,h.ay⟩ d I aC:=by
  intro N R F E G C;refine⟨⟨rfl,⟨I,s,es,mv g,E,x,by rw [qh];exact G⟩,V⟩,λh t=>⟨rfl,rfl,?_⟩⟩;obtain⟨aC,w,z⟩:=t.all I s es (mv g) x;rw [qh,C]at w;exact⟨aC,mv w,AF (Gd z)⟩
 have fin:∀{e:bW}{k:a8}{aa:T},bR B 34 (br 26 0) (ie d q bv bw aU.length m j) H e k aa->(e=.normal/\k=ie d q bv bw aU.length m (j+1)/\∃aC,bS aa d aC (Keys.step s aU[j]).1 (es++(Keys.step s aU[j]).2)/\Fr H aa d I aC) ->
  ∃H' aC,bR B 34 (br 26 0) (ie d q bv bw aU.length m j) H .normal (ie d q bv bw aU.length m (j+1)) H'/\bS H' d aC (Keys.step s aU[j]).1 (es++(Keys.step s aU[j]).2)/\Fr H H' d I aC:=by
  rintro e k aa f ⟨rfl,rfl,aC,q⟩;exact⟨aa,aC,f,q⟩
 let r:bW->a8->T->Prop:=λe k aa=>e=.normal/\k=ie d q bv bw aU.length m (j+1)/\∃aC,bS aa d aC (Keys.step s aU[j]).1 (es++(Keys.step s aU[j]).2)/\Fr H aa d I aC
 cases c:s.nx with
 |ground =>
  rw [c]at i;obtain⟨nx,ai,ax,aw⟩:=s;simp only at c;subst c;obtain⟨n,o⟩:=key (N:=2^30-4) (R:=ji) (F:=Keys.ground) V ⟨a.2.1,rfl⟩ rfl;obtain⟨e,k,aa,f,l⟩:=Ga H B d q bv bw aU.length m j aU[j].toNat r (qz v p az _ rfl cD i n o _);exact fin f l
 |cH =>
  rw [c]at i;obtain⟨nx,ai,ax,aw⟩:=s;simp only at c;subst c;obtain⟨n,o⟩:=key (N:=2^30-8) (R:=sj) (F:=Keys.cH) V ⟨a.2.1,rfl⟩ rfl;obtain⟨e,k,aa,f,l⟩:=P5 H B d q bv bw aU.length m j aU[j].toNat r (qz v p az _ rfl cD i n o _);exact fin f l
 |cd =>
  rw [c]at i;obtain⟨nx,ai,ax,aw⟩:=s;simp only at c;subst c;obtain⟨n,o⟩:=key (N:=2^30-8) (R:=sF) (F:=Keys.cd) V ⟨rfl,a.2.1,a.2.2.1,a.2.2.2.1,a.2.2.2.2⟩ rfl;obtain⟨e,k,aa,f,l⟩:=P6 H B d q bv bw aU.length m j aU[j].toNat r (qz v p az _ rfl cD i n o _);exact fin f l
 |sequence =>
  rw [c]at i;obtain⟨nx,ai,ax,aw⟩:=s;simp only at c;subst c;obtain⟨n,o⟩:=key (N:=2^30-8) (R:=s0) (F:=Keys.sequence) V ⟨rfl,a.1,a.2.2.1,a.2.2.2⟩ rfl;obtain⟨e,k,aa,f,l⟩:=P7 H B d q bv bw aU.length m j aU[j].toNat r (qz v p az _ rfl cD i n o _);exact fin f l
 |single =>
  rw [c]at i;obtain⟨nx,ai,ax,aw⟩:=s;simp only at c;subst c;obtain⟨n,o⟩:=key (N:=2^30-8) (R:=singleR) (F:=Keys.single) V ⟨a.1,rfl⟩ rfl;obtain⟨e,k,aa,f,l⟩:=P8 H B d q bv bw aU.length m j aU[j].toNat r (qz v p az _ rfl cD i n o _);exact fin f l
 |cb =>
  rw [c]at i;obtain⟨nx,ai,ax,aw⟩:=s;simp only at c;subst c;obtain⟨n,o⟩:=key (N:=2^30-8) (R:=s6) (F:=Keys.cb) V ⟨rfl,a.1,a.2.1,a.2.2.2⟩ rfl;obtain⟨e,k,aa,f,l⟩:=P9 H B d q bv bw aU.length m j aU[j].toNat r (qz v p az _ rfl cD i n o _);exact fin f l
theorem Qe{B d q bv bw m:Nat}{aU:Bytes}(az:aU.length<2^28):∀(k j:Nat)(H:T)(I:bO)(s:bq)(es:List aP),aU.length-j<=k->j<=aU.length->B<=H.Y->bS H d I s es->Keys.Good s->es.length+2* (aU.length-j)<2^30-8->nN H q bv bw aU->q<H.Y->iF q d I ->
 ∃H' aC,dl B 34 (br 26 0) (ie d q bv bw aU.length m j) H (.exit 0) (ie d q bv bw aU.length m aU.length) H'/\bS H' d aC (bY s (aU.drop j)).1 (es++(bY s (aU.drop j)).2)/\Fr H H' d I aC:=by
 intro k
 have fin:∀(H:T)(I:bO)(s:bq)(es:List aP),B<=H.Y->bS H d I s es-> ∃H' aC,dl B 34 (br 26 0) (ie d q bv bw aU.length m aU.length) H (.exit 0) (ie d q bv bw aU.length m aU.length) H'/\bS H' d aC (bY s (aU.drop aU.length)).1 (es++(bY s (aU.drop aU.length)).2)/\Fr H H' d I aC:=by
  intro H I s es a g;obtain⟨e,o,aa,n,rfl,rfl,rfl⟩:=Ga H B d q bv bw aU.length m aU.length 0 (λe o aa=>e=.exit 0/\o=ie d q bv bw aU.length m aU.length/\aa=⟨H.Y+1,H.ay⟩) (aR a ⟨λh=> V,λ_=>⟨rfl,rfl,rfl⟩⟩);refine⟨_,I,bX.last an n,?_,?_⟩
  .rw [lO];simp only [bY,fV];exact mv g
  .exact⟨by show H.Y<=H.Y+1;omega,λj _ _ _ _ _ _=>rfl,λx C=> V⟩
 induction k with
 |zero =>
  intro j H I s es y w a g c v f l i;obtain rfl:j=aU.length:= V;exact fin H I s es a g
 |succ k ih =>
  intro j H I s es y w a g c v f l i;by_cases al:j<aU.length
  .obtain⟨H1,r,n,g1,b⟩:=Qd (m:=m) a g c V f al V;have h2:=Dl s aU[j];have A:=b.Y;obtain⟨p,t,z,g2,u⟩:=ih (j+1) H1 r _ _ V V V g1 (Dj _ c) (by rw [dt];omega) (f.keep (i.get b l)) V (i.b6 b l);refine⟨p,t,bX.step n z,?_,b.trans u⟩;rw [iS al];simp only [bY];rw [<-ik];exact g2
  .obtain rfl:j=aU.length:= V;exact fin H I s es a g
def nO(H:T)(v:J)(es:List aP)(o:Nat):Prop :=
 (v=.slice none 0 0/\es=[])\/(es≠[]/\o<H.Y/\∃ab m f,v=.slice (some ⟨o,ab,0,0,6⟩) es.length es.length/\H.get o=some (bL (es.map bi) 6 ab m f ek))
theorem bS.clear{H:T}{d:Nat}{I:bO}{s:bq}{es:List aP}(g:bS H d I s es):∃f kv pv pas ov ty,H.get d=some (bB d f I.u kv pv pas ov ty)/\gN H d I.o ov es/\I.u≠d /\
 ∀k,bS ((⟨H.Y+k,H.ay⟩:T).set d (bB d f I.u kv pv pas (.slice none 0 0) ty)) d ⟨I.u,I.k,I.p,d⟩ s []/\Fr H ((⟨H.Y+k,H.ay⟩:T).set d (bB d f I.u kv pv pas (.slice none 0 0) ty)) d I ⟨I.u,I.k,I.p,d⟩:=by
 obtain⟨ks,g,hs⟩:=g;obtain⟨kv,pv,ov,ty,e,c,ae,i⟩:=g.ex;obtain⟨j0,j1,j2,j3,uty,hu⟩:=g.gB
 have a:I.u≠d:=by intro h;rw [h,e]at hu;simp [ac.aj]at hu
 refine⟨_,kv,pv,_,ov,ty,e,i,a,λk=>⟨⟨ks,⟨⟨kv,pv,.slice none 0 0,ty,?_,?_,?_,.inl ⟨rfl,rfl,rfl⟩⟩,⟨j0,j1,j2,j3,uty,?_⟩,?_,g.ne⟩,hs⟩,?_,?_,?_⟩⟩
 .exact T.eT _ _ _
 .exact c.keep λaz=>T.eO _ _ (ki az)
 .exact ae.keep λaz=>T.eO _ _ (ki az)
 .show((⟨H.Y+k,H.ay⟩:T).set d _).get I.u=_;rw [T.eO _ _ (ki a)];exact hu
 .have:=g.lt;show d<H.Y+k/\I.u<H.Y+k/\I.k<H.Y+k/\I.p<H.Y+k/\d<H.Y+k;omega
 .show H.Y<=H.Y+k;omega
 .intro j m l n2 n q r;exact T.eO _ _ (ki l)
 .intro x b;have b:x=I.u\/x=I.k\/x=I.p\/x=d:=b;omega
def Ge(H:T)(d:Nat)(I:bO)(o:Option aT)(aU:Bytes):Prop:=(o=none/\aU=[])\/ ∃q bv bw,o=some ⟨q,bv,bw,0,1⟩/\nN H q bv bw aU/\q<H.Y/\iF q d I
theorem lq{t:TypeId}{F:a8}{H H1:T}{a:aT}{nid k:Nat}(b:bf F (.tmp k)=.ptr (some a))(hs:eA (a'.D env) t a (.slice none 0 0) H=some H1):bd env cr nid (bf F) H (Op.store t (Operand.tmp k) (Operand.const (Value.slice none 0 0)))=some (.tuple [],H1):=by have al:bf F (Operand.const (Value.slice none 0 0))=.slice none 0 0:=rfl;simp only [bd,b,al,hs,ev]
theorem Qf{H:T}{d m:Nat}{I:bO}{s:bq}{es:List aP}{aU:Bytes}{o:Option aT}(g:bS H d I s es)(Z:Keys.Good s)(az:aU.length<2^28)(av:Ge H d I o aU) :
 ∃H' v aC l,bu 26 [.ptr (some ⟨d,0,0,0,6⟩),.slice o aU.length m] H v H'/\bS H' d aC (bY s aU).1 []/\Fr H H' d I aC/\nO H' v (bY s aU).2 l/\((bY s aU).2≠[]->iF l d aC/\(l=I.u\/l=I.k\/l=I.p\/H.Y<=l)):=by
 obtain⟨f,kv,pv,pas,ov,ty,X,d2,d4,a3⟩:=g.clear;obtain⟨g1,r⟩:=a3 7;generalize N:((⟨H.Y+7,H.ay⟩:T).set d (bB d f I.u kv pv pas (.slice none 0 0) ty))=H1 at g1 r;have c0:eA (a'.D env) 56 ⟨d,0,0,5,6⟩ (.slice none 0 0) ⟨H.Y+7,H.ay⟩=some H1:=by rw [<-N];exact wy X
 have dp:H1.Y=H.Y+7:=by rw [<-N];rfl
 have Q:bS ⟨H1.Y+3,H1.ay⟩ d ⟨I.u,I.k,I.p,d⟩ s []:=mv g1
 have b2:∃b a C,bR H.Y 34 (Code.loop (br 26 0)) [(0,.ptr (some ⟨d,0,0,0,6⟩)),(13,.slice o aU.length m),(14,.int .i64 aU.length),(15,.int .i64 0)] ⟨H1.Y+3,H1.ay⟩ (.exit 0) [(0,.ptr (some ⟨d,0,0,0,6⟩)),(13,.slice o aU.length m),(14,.int .i64 aU.length),(15,C)] b /\
  bS b d a (bY s aU).1 (bY s aU).2/\Fr H1 b d ⟨I.u,I.k,I.p,d⟩ a:=by
  rcases av with ⟨rfl,rfl⟩|⟨q,bv,bw,rfl,a0,R,w⟩
  .obtain⟨e,E,aa,ct,rfl,rfl,rfl⟩:=P' ⟨H1.Y+3,H1.ay⟩ H.Y d (.slice none 0 m) (λe E aa=>e=.exit 0/\E=[(0,.ptr (some ⟨d,0,0,0,6⟩)),(13,.slice none 0 m),(14,.int .i64 0),(15,.int .i64 0)]/\aa=⟨H1.Y+3+1,H1.ay⟩) (aR (by show H.Y<=H1.Y+3;omega) ⟨rfl,rfl,rfl⟩);refine⟨_,⟨I.u,I.k,I.p,d⟩,.int .i64 0,cZ.dJ (bX.last an ct),mv Q,?_⟩
   exact⟨by show H1.Y<=H1.Y+3+1;omega,λj _ _ _ _ _ _=>rfl,λx S=>by
    have S:x=I.u\/x=I.k\/x=I.p\/x=d:=S;show x=d\/x=I.u\/x=I.k\/x=I.p\/x=d\/_
    omega⟩
  .have a2:nN ⟨H1.Y+3,H1.ay⟩ q bv bw aU:=a0.keep (by show H1.get q=H.get q;exact w.get r R);have co:iF q d ⟨I.u,I.k,I.p,d⟩:=w.b6 r R;obtain⟨b,a,bn,g2,n⟩:=Qe (B:=H.Y) (m:=m) az aU.length 0 ⟨H1.Y+3,H1.ay⟩ ⟨I.u,I.k,I.p,d⟩ s [] V V (by show H.Y<=H1.Y+3;omega) Q Z (by simp only [dx];omega) a2 (by show q<H1.Y+3;omega) co;rw [oa,eg]at g2;exact⟨b,a,.int .i64 aU.length,cZ.dJ bn,g2,Gd n⟩
 obtain⟨b,a,C,am,g2,n⟩:=b2;obtain⟨f2,c4,c9,c5,W,dg,F,ce,d5,a4⟩:=g2.clear;obtain⟨g3,K⟩:=a4 9;generalize y:((⟨b.Y+9,b.ay⟩:T).set d (bB d f2 a.u c4 c9 c5 (.slice none 0 0) dg))=c at g3 K;have c2:eA (a'.D env) 56 ⟨d,0,0,5,6⟩ (.slice none 0 0) ⟨b.Y+9,b.ay⟩=some c:=by rw [<-y];exact wy F
 have d0:=n.Y;have d1:c.Y=b.Y+9:=by rw [<-y];rfl
 have P:Fr H ⟨c.Y+2,c.ay⟩ d I ⟨a.u,a.k,a.p,d⟩:=AF (r.trans (n.trans K))
 obtain⟨v,ad,O,c3,a9⟩:=Qa H H1 b c d aU.length m o W C (λv ad=>v=W/\ad=⟨c.Y+2,c.ay⟩) (by
  refine aR (Nat.le_refl _) (aR V (aR V ⟨lq rfl c0,aR V ⟨am,aR V ⟨Gb F,aR V ⟨lq rfl c2,aR V ?_⟩⟩⟩⟩));refine e2 V ?_
  exact⟨rfl,rfl⟩)
 subst c3 a9;have L:bS ⟨c.Y+2,c.ay⟩ d ⟨a.u,a.k,a.p,d⟩ (bY s aU).1 []:=mv g3;rcases ce with ⟨aa,h2,M⟩|⟨aa,h2,ab,U,G,M,i⟩
 .exact⟨_,_,_,0,O,L,P,.inl ⟨aa,h2⟩,λh=>absurd h2 h⟩
 .have d7:=(by obtain⟨ks,t,_⟩:=g2;exact t.lt:d<b.Y/\a.u<b.Y/\a.k<b.Y/\a.p<b.Y/\a.o<b.Y)
  have a5:(⟨c.Y+2,c.ay⟩:T).get a.o=some (bL ((bY s aU).2.map bi) 6 ab U G ek):=by rw [<-i];show c.get a.o=b.get a.o;rw [<-y,T.eO _ _ (ki aa)];rfl
  have w:iF a.o d ⟨a.u,a.k,a.p,d⟩:=by
   obtain⟨ks,t,_⟩:=g2;obtain⟨d6,d9,d8,el,e',z,A,d3⟩:=t.ex;obtain⟨j0,j1,j2,j3,uty,hu⟩:=t.gB;refine⟨aa,λh=> ?_,λh=> ?_,λh=> ?_,aa⟩
   .have h:a.o=a.u:=h;rw [h,hu]at i;simp [ac.aj]at i
   .have h:a.o=a.k:=h;cases ks with
    |nil=>exact aa (by rw [h];exact z.2.2)
    |one=>have:=z.2.2.1;rw [<-h,i]at this;simp [ac.aj]at this
    |grown junk=>obtain⟨_,_,_,_,_,this⟩:=z;rw [<-h,i]at this;simp at this
   .have h:a.o=a.p:=h;rcases A with ⟨_,_,A⟩|⟨_,_,_,_,_,_,this⟩
    .exact aa (by rw [h];exact A)
    .rw [<-h,i]at this;simp at this
  refine⟨_,_,_,a.o,O,L,P,.inr ⟨h2,by show a.o<c.Y+2;omega,ab,U,G,M,a5⟩,λ_=>⟨w,?_⟩⟩;have hid:a.o=d\/a.o=I.u\/a.o=I.k\/a.o=I.p\/a.o=d\/H1.Y<=a.o:=n.ids a.o (.inr (.inr (.inr rfl)));omega
theorem Qg(a:bm)(b:a (.ptr (ba 3)) (T.af 17 [(3,(ac.aj ([.agg [.func (.func 30) [.ptr (ba 3)] [],.slice none 0 0,.slice none 0 0,.bool false,.ptr (some ⟨7,0,0,0,5⟩),.slice none 0 0]]) 6 true (some (68,6)))),(7,ac.aj [.agg [.int .u8 0,.int .u8 0,.int .u8 0,.int .u8 0,.int .i64 0]] 5 true (some (97,5)))])) :
 bC 14 [] (⟨0,.nil⟩) a :=
 bI bT (he 1000 .nil) b
theorem Qh(c d e f:Int)(a:Nat)(g:bj)(b:bm)(h:((a:Int)=0->b (.slice none 0 0) (T.af 12 [(0,⟨[.agg [.int .u8 c,.int .u8 d,.int .u8 e,.int .u8 f,.int .i64 (a:Int)]],5,true,false,0,0,0,g⟩)]))/\(¬(a:Int)=0->b (.slice (cX 15) 1 1) (T.af 17 [(0,(fE c d e f g)),(15,ac.aj [.int .i32 65533] 1 true)]))) :
 bC 57 [.ptr (some ⟨0,0,0,0,5⟩)] (T.of [fk c d e f a g]) b :=
 bI bT (.aq 1007 .nil .nil) h
theorem Qi(H:T):∃H' d I,bu 14 [] H (.ptr (some ⟨d,0,0,0,6⟩)) H'/\bS H' d I ⟨.ground,[],[],[]⟩ []/\H.Y<=d/\H.Y<=I.u/\I.k=d/\I.p=d/\I.o=d/\H.Y<=H'.Y/\∀j,j<H.Y->H'.get j=H.get j:=by
 obtain⟨v,aa,l,rfl,e,f,az⟩:=Qg (λv aa=>v=.ptr (some ⟨3,0,0,0,6⟩)/\aa.get 3=some (bB 3 (b1 .ground) 7 (.slice none 0 0) (.slice none 0 0) false (.slice none 0 0) (some (68,6)))/\aa.get 7=some (fk 0 0 0 0 0 (some (97,5)))/\aa.Y=17) ⟨rfl,rfl,rfl,rfl⟩;have n:bu 14 [] (T.of []) (.ptr (some ⟨3,0,0,0,6⟩)) aa:=l;obtain⟨H',m,q,c,s⟩:=n.place an (λb g=>by cases g) trivial (H:=H) [] lN (λj a=>by cases a) rfl (λi b h=>by simp at h);have r:∀i,cK [] H.Y i=H.Y+i:=λi=>by rw [la an];simp
 have g3:=c 3 _ e;have g7:=c 7 _ f;rw [r,(ny _ _ _ _ _ _).aK]at g7;rw [r]at g3
 have e0:(bB 3 (b1 .ground) 7 (.slice none 0 0) (.slice none 0 0) false (.slice none 0 0) (some (68,6))).aK (cK [] H.Y)=bB (H.Y+3) (b1 .ground) (H.Y+7) (.slice none 0 0) (.slice none 0 0) false (.slice none 0 0) (some (68,6)):=by simp [ac.aK,ac.aj,J.aK,J.fD,aT.aK,r]
 rw [e0]at g3;have t:H'.Y=H.Y+17:=by rw [q,az];simp
 refine⟨H',H.Y+3,⟨H.Y+7,H.Y+3,H.Y+3,H.Y+3⟩,?_,⟨.nil,⟨⟨_,_,_,_,g3,⟨rfl,rfl,rfl⟩,.inl ⟨rfl,rfl,rfl⟩,.inl ⟨rfl,rfl,rfl⟩⟩,⟨0,0,0,0,_,g7⟩,?_,.inl rfl⟩,trivial⟩,V,by show H.Y<=H.Y+7;omega,rfl,rfl,rfl,V,λj a=>s j a an⟩
 .simpa [J.aK,aT.aK,r]using m
 .show H.Y+3<H'.Y/\H.Y+7<H'.Y/\H.Y+3<H'.Y/\H.Y+3<H'.Y/\H.Y+3<H'.Y;omega
theorem AG{h:T}{d k:Nat}{v:J}{ks:eE}{l:Bytes}(a:gL h d k v ks l):∃o,v=.slice o l.length l.length:=by
 cases ks with
 |nil=>obtain⟨rfl,rfl,_⟩:=a;exact⟨none,rfl⟩
 |one=>obtain⟨_,rfl,_,rfl⟩:=a;exact⟨_,rfl⟩
 |grown j=>obtain⟨_,_,_,_,rfl,_⟩:=a;exact⟨_,rfl⟩
theorem Qj{h:T}{d k:Nat}{v:J}{l:Bytes}(ae:gM h d k v l):∃o,v=.slice o l.length l.length:=by
 rcases ae with ⟨rfl,rfl,_⟩|⟨_,_,_,_,_,rfl,_⟩
 .exact⟨none,rfl⟩
 .exact⟨_,rfl⟩
theorem Qk{f:FuncId}{args:List J}{h ad:T}{v:J}(k:bu f args h v ad):bu f args h .undef ad:=by intro aM aS j ef φ w c i g d;obtain⟨a,b⟩:=k aM aS j ef φ w c i g d;exact⟨a,b.mono λe aZ ⟨m,n,cq,cn,ei,hE,lg,l⟩=>⟨m,n,cq,cn,by simp only [aB],hE,lg,l⟩⟩
structure Ql(h:T)(a:aT):Prop where
 at':a=⟨a.id,0,0,0,5⟩
 lt:a.id<h.Y
 ex:∃ax j0 j1 j2 j3 ty,h.get a.id=some (bJ ax j0 j1 j2 j3 ty)
structure Qm(h:T)(a:aT)(ad:T):Prop where
 all:∀ax j0 j1 j2 j3 ty,h.get a.id=some (bJ ax j0 j1 j2 j3 ty)-> ∃i0 i1 i2 i3,ad.get a.id=some (bJ [] i0 i1 i2 i3 ty)
 get:∀j,j<h.Y->j≠a.id->ad.get j=h.get j
 Y:h.Y<=ad.Y
def AH:List J->T->Option dm:=λargs h=>match args with
 |[.ptr (some a)]=>some (.some .undef [Ql h a] (Qm h a))
 |_=>none
theorem Gf{H:T}{u:Nat}{ax:Bytes}{j0 j1 j2 j3:Int}{ty:bj}(hu:u<H.Y)(ag:H.get u=some (bJ ax j0 j1 j2 j3 ty)):∃H' i0 i1 i2 i3,bu 57 [.ptr (some ⟨u,0,0,0,5⟩)] H .undef H'/\H'.get u=some (bJ [] i0 i1 i2 i3 ty)/\(∀j,j<H.Y->j≠u->H'.get j=H.get j)/\H.Y<=H'.Y:=by
 obtain⟨v,aa,d,f,k⟩:=Qh (bF ax 0 j0) (bF ax 1 j1) (bF ax 2 j2) (bF ax 3 j3) ax.length ty (λv aa=>aa.get 0=some (fk (bF ax 0 j0) (bF ax 1 j1) (bF ax 2 j2) (bF ax 3 j3) 0 ty)/\1<=aa.Y) ⟨λh=>⟨by rw [h];rfl,by show 1<=12;decide⟩,λ_=>⟨rfl,by show 1<=17;decide⟩⟩
 obtain⟨H',e,n,g,m⟩:=d.place k (λb c=>by rw [cC.1 c];exact(ny _ _ _ _ _ _).dh _) (by exact⟨by show 0<1;decide,trivial⟩) (H:=H) [u] an (λj a=>by rw [cC.1 a];exact hu) rfl (λi b h=>by
  have ah:i=0:=by have:=(dT.1 h).1;simpa using this
  subst ah;simp only [fe,a6]at h;subst h;rw [(ny _ _ _ _ _ _).aK]
  exact ag)
 refine⟨H',bF ax 0 j0,bF ax 1 j1,bF ax 2 j2,bF ax 3 j3,?_,?_,λj a l=>m j a (by simpa using l),V⟩
 .have:=Qk e;simpa [J.aK,aT.aK,cK]using this
 .have:=g 0 _ f;rw [(ny _ _ _ _ _ _).aK]at this;exact this
theorem Qn{h h2:Bytes}{j0 j1 j2 j3 i0 i1 i2 i3:Int}{ty a:bj}(e:bJ h j0 j1 j2 j3 ty=bJ h2 i0 i1 i2 i3 a):ty=a:=by simp only [ac.aj,ac.mk.injEq]at e;exact e.2.2.2.2.2.2.2
theorem Qo:∀args h a,AH args h=some a->a.cx Tryz.prog ck 57 args h:=by
 intro args h a e;unfold AH at e;split at e<;>first|(cases e;done)|skip
 rename_i a;simp only [a6]at e;subst e;intro ae;obtain⟨ax,j0,j1,j2,j3,ty,ag⟩:=ae.head.ex;obtain⟨H',i0,i1,i2,i3,b,g1,g2,g3⟩:=Gf ae.head.lt ag;rw [<-ae.head.at']at b;refine⟨H',b,⟨λd f g i j k c=> ?_,g2,g3⟩⟩;rw [ag]at c;have:=Qn (qT c);subst this;exact⟨i0,i1,i2,i3,g1⟩
noncomputable def Qp:dB:=vr.add 57 AH
theorem AI:dv Tryz.prog ck Qp:=r2.add Qo
theorem Qq(a:T)(c:Nat)(b:bm)(d:aW (a.Y) (a.Y) (aW (a.Y) (a.Y+1) (a1 env.D 4 ⟨c,0,0,3,6⟩ (aY a 17)=some (J.bool true)/\aW (a.Y) (a.Y+17) (bk (a.Y) (a.Y+18) (b (.slice none 0 0) (T.mk (a.Y+17+1) (T.ay (T.mk (a.Y+1+16) (T.ay (aY a 1)))))))))) :
 bC 27 [.ptr (ba c)] a b :=
 bI AI (.ak (.val 1006 (.bool true)) .nil) d
theorem Qr(a:T)(b:Nat)(d:Option aT)(c:bm)(e:aW (a.Y) (a.Y) (aW (a.Y) (a.Y+1) (a1 env.D 4 ⟨b,0,0,3,6⟩ (aY a 17)=some (J.bool false)/\a1 env.D 34 ⟨b,0,0,1,6⟩ (aY a 17)=some (J.slice d 0 0)/\aW (a.Y) (a.Y+17) (bk (a.Y) (a.Y+18) (c (.slice none 0 0) (T.mk (a.Y+17+1) (T.ay (T.mk (a.Y+1+16) (T.ay (aY a 1)))))))))) :
 bC 27 [.ptr (ba b)] a c :=
 bI AI (.ak (.val 1006 (.bool false)) (.ak (.val 1012 (.slice d 0 0)) .nil)) e
abbrev wz(a:T):T:=(T.mk (a.Y+2) (T.ay a))
abbrev wA(a:T)(c:Nat)(b:J):ch:=(.ak (.val 13003 b) (.ak (.act 14003 (.tuple []) λc=>a) .nil))
abbrev Gg(a:Nat):J:=J.agg [.int .i8 1,.int .i32 (a:Int),.int .u8 2,.int .i64 0,.int .i64 0,.str []]
theorem wB(a k e b c:T)(f n j d:Nat)(o m:Option aT)(i:Bytes)(g:J)(l:bm)(p:aW (a.Y) (a.Y) (aW (a.Y) (a.Y+1) (a1 env.D 4 ⟨f,0,0,3,6⟩ (aY a 17)=some (J.bool false)/\a1 env.D 34 ⟨f,0,0,1,6⟩ (aY a 17)=some (J.slice o (j+1) (j+1))/\aW (a.Y) (a.Y+17) (bd env cr (a.Y+20) (bf [(23,.ptr (some ⟨f,0,0,5,6⟩))]) (aY a 21) (Op.store 56 (Operand.tmp 23) (Operand.const (Value.slice none 0 0)))=some (J.tuple [],k)/\aW (a.Y) (k.Y) (a1 env.D 64 ⟨f,0,0,4,6⟩ (aY k 5)=some (J.ptr (some ⟨n,0,0,0,5⟩))/\bM 57 [.ptr (some ⟨n,0,0,0,5⟩)] (aY k 5) J.undef e/\aW (a.Y) (e.Y) (a1 env.D 34 ⟨f,0,0,1,6⟩ (aY e 6)=some (J.slice m (j+1) (j+1))/\er env (e.Y+4) (bf [(32,.slice m (j+1) (j+1))]) (aY e 6) (Op.convert 34 9 (Operand.tmp 32))=some (J.str i,(aY e 6))/\aW (a.Y) (e.Y+6) (aW (a.Y) (e.Y+7) ((i=[(27:UInt8)]->aW (a.Y) (e.Y+9) (bM 58 [.ptr (ba f),oS] (aY e 12) (.tuple []) b/\aW (a.Y) (b.Y) (a1 env.D 56 ⟨f,0,0,5,6⟩ (aY b 5)=some g/\aW (a.Y) (b.Y+5) (bd env cr (b.Y+8) (bf [(59,.ptr (some ⟨f,0,0,5,6⟩))]) (aY b 9) (Op.store 56 (Operand.tmp 59) (Operand.const (Value.slice none 0 0)))=some (J.tuple [],c)/\aW (a.Y) (c.Y) (bk (a.Y) (c.Y+2) (l g (wz c)))))))/\(¬i=[(27:UInt8)]->aW (a.Y) (e.Y+9) ((i=[(27:UInt8),(91:UInt8)]->aW (a.Y) (e.Y+11) (c8 env.D 9 (.str i) (.int .i64 1)=some (.int .u8 (d:Int))/\(-2147483648<=(d:Int)/\(d:Int)<=2147483647)/\bM 58 [.ptr (ba f),(Gg d)] (aY e 17) (.tuple []) b/\aW (a.Y) (b.Y) (a1 env.D 56 ⟨f,0,0,5,6⟩ (aY b 5)=some g/\aW (a.Y) (b.Y+5) (bd env cr (b.Y+8) (bf [(59,.ptr (some ⟨f,0,0,5,6⟩))]) (aY b 9) (Op.store 56 (Operand.tmp 59) (Operand.const (Value.slice none 0 0)))=some (J.tuple [],c)/\aW (a.Y) (c.Y) (bk (a.Y) (c.Y+2) (l g (wz c)))))))/\(¬i=[(27:UInt8),(91:UInt8)]->aW (a.Y) (e.Y+11) ((i=[(27:UInt8),(79:UInt8)]->aW (a.Y) (e.Y+13) (c8 env.D 9 (.str i) (.int .i64 1)=some (.int .u8 (d:Int))/\(-2147483648<=(d:Int)/\(d:Int)<=2147483647)/\bM 58 [.ptr (ba f),(Gg d)] (aY e 19) (.tuple []) b/\aW (a.Y) (b.Y) (a1 env.D 56 ⟨f,0,0,5,6⟩ (aY b 5)=some g/\aW (a.Y) (b.Y+5) (bd env cr (b.Y+8) (bf [(59,.ptr (some ⟨f,0,0,5,6⟩))]) (aY b 9) (Op.store 56 (Operand.tmp 59) (Operand.const (Value.slice none 0 0)))=some (J.tuple [],c)/\aW (a.Y) (c.Y) (bk (a.Y) (c.Y+2) (l g (wz c)))))))/\(¬i=[(27:UInt8),(79:UInt8)]->aW (a.Y) (e.Y+13) (bM 58 [.ptr (ba f),.agg [.int .i8 7,.int .i32 0,.int .u8 0,.int .i64 0,.int .i64 0,.str i]] (aY e 17) (.tuple []) b/\aW (a.Y) (b.Y) (a1 env.D 56 ⟨f,0,0,5,6⟩ (aY b 5)=some g/\aW (a.Y) (b.Y+5) (bd env cr (b.Y+8) (bf [(59,.ptr (some ⟨f,0,0,5,6⟩))]) (aY b 9) (Op.store 56 (Operand.tmp 59) (Operand.const (Value.slice none 0 0)))=some (J.tuple [],c)/\aW (a.Y) (c.Y) (bk (a.Y) (c.Y+2) (l g (wz c))))))))))))))))))) :
 bC 27 [.ptr (ba f)] a l :=
 bI AI (.ak (.val 1006 (.bool false)) (.ak (.val 1012 (.slice o (j+1) (j+1))) (.ak (.act 3003 (.tuple []) λd=>k) (.ak (.val 4003 (.ptr (some ⟨n,0,0,0,5⟩))) (.ak (.act 4004 J.undef λd=>e) (.ak (.val 5003 (.slice m (j+1) (j+1))) (.ak (.x2 5004 (.str i) λh=>h) (.aq 8000 (.ak (.act 9002 (.tuple []) λd=>b) (wA c d g)) (.aq 10000 (.ak (.val 12002 (.int .u8 (d:Int))) (ag 12003 (.ak (.act 12005 (.tuple []) λd=>b) (wA c d g)))) (.aq 11000 (.ak (.val 12002 (.int .u8 (d:Int))) (ag 12003 (.ak (.act 12005 (.tuple []) λd=>b) (wA c d g)))) (.ak (.act 7003 (.tuple []) λd=>b) (wA c d g)))))))))))) p
theorem Gh{h:T}{d f u:Nat}{kv pv ov:J}{pas:Bool}{ty:bj}(e:h.get d=some (bB d f u kv pv pas ov ty)):a1 (a'.D env) 4 ⟨d,0,0,3,6⟩ h=some (.bool pas):=by have a:(a'.D env 4).map (λd=>d.kind.isAgg)=some false:= ar;obtain⟨x,aa,h2⟩:=b4.1 a;unfold a1;rw [aa,e];simp [ac.elem?,ac.b0,ft,h2,ac.aj]
theorem Gi{h:T}{d f u:Nat}{kv pv ov:J}{pas:Bool}{ty:bj}(e:h.get d=some (bB d f u kv pv pas ov ty)):a1 (a'.D env) 34 ⟨d,0,0,1,6⟩ h=some kv:=by have a:(a'.D env 34).map (λd=>d.kind.isAgg)=some false:= ar;obtain⟨x,aa,h2⟩:=b4.1 a;unfold a1;rw [aa,e];simp [ac.elem?,ac.b0,ft,h2,ac.aj]
theorem Qs{h:T}{d f u:Nat}{kv pv ov:J}{pas:Bool}{ty:bj}(e:h.get d=some (bB d f u kv pv pas ov ty)):a1 (a'.D env) 64 ⟨d,0,0,4,6⟩ h=some (.ptr (some ⟨u,0,0,0,5⟩)):=by have a:(a'.D env 64).map (λd=>d.kind.isAgg)=some false:= ar;obtain⟨x,aa,h2⟩:=b4.1 a;unfold a1;rw [aa,e];simp [ac.elem?,ac.b0,ft,h2,ac.aj]
theorem Qt{H:T}{d k:Nat}{v:J}{ks:eE}{l:Bytes}(b:gL H d k v ks l)(c:l≠[]):∃a,v=.slice (some a) l.length l.length/\dF 1 (.slice (some a) l.length l.length) H=some (aG l):=by
 cases ks with
 |nil=>exact absurd b.2.1 c
 |one =>
  obtain⟨_,rfl,ag,rfl⟩:=b;refine⟨_,rfl,?_⟩;simp only [dF,dy,ag];rfl
 |grown j =>
  obtain⟨_,ab,m,f,rfl,ag⟩:=b;refine⟨_,rfl,?_⟩;have az:l.length≠0:=λh=>c (mG.1 h)
  simp only [dF,dy,ag];rw [ap az,aE ⟨by simp [ac.b0,aG],by simp [aG]⟩];simp only [aG,kj];rw [List.drop_left' an,kX an]
theorem wC{F:a8}{nid k n c:Nat}{H:T}{a:aT}{l:Bytes}(f:bf F (.tmp k)=.slice (some a) n c)(e:dF 1 (.slice (some a) n c) H=some (aG l)):er env nid (bf F) H (Op.convert 34 9 (Operand.tmp k))=some (.str l,H):=by have aa:(a'.D env 34).map (λd=>d.kind)=some (.slice 5):= ar;have h2:(a'.D env 9).map (λd=>d.kind)=some .string:= ar;have b:(a'.D env 5).map (λd=>d.kind)=some (.int .u8):= ar;obtain⟨j,d1,g⟩:=b4.1 aa;obtain⟨m,d2,h⟩:=b4.1 h2;obtain⟨o,d3,i⟩:=b4.1 b;simp only [er,f,oh,d1,d2,g,h,d3,i,e,rP,ev]
theorem Qu{H a:T}{d:Nat}{I:bO}{f:Nat}{pas:Bool}{ks:eE}{ai ax aw:Bytes}{es:List aP}{k:Nat}(g:cU H d I f pas ks ai ax aw es)(b:I.u≠d)(hu:∃i0 i1 i2 i3 ty,a.get I.u=some (bJ [] i0 i1 i2 i3 ty))(ag:∀j,j<H.Y+k->j≠I.u->a.get j=H.get j)(az:H.Y+k<=a.Y)(l:I.k≠d->I.k≠I.u)(m:I.p≠d->I.p≠I.u)(no:I.o≠d->I.o≠I.u):cU a d I f pas ks ai [] aw es:=by obtain⟨kv,pv,ov,ty,e,c,ae,i⟩:=g.ex;have n:=g.lt;refine⟨⟨kv,pv,ov,ty,?_,c.keep λh=>ag _ V (l h),ae.keep λh=>ag _ V (m h),i.keep λh=>ag _ V (no h)⟩,hu,V,g.ne⟩;rw [ag d V (ki b)];exact e
theorem cU.apart{H:T}{d:Nat}{I:bO}{f:Nat}{pas:Bool}{ks:eE}{ai ax aw:Bytes}{es:List aP}(g:cU H d I f pas ks ai ax aw es):I.u≠d/\(I.k≠d->I.k≠I.u)/\(I.p≠d->I.p≠I.u)/\(I.o≠d->I.o≠I.u):=by
 obtain⟨kv,pv,ov,ty,e,a,ae,b⟩:=g.ex;obtain⟨j0,j1,j2,j3,uty,hu⟩:=g.gB;refine⟨λh=> ?_,λaa h=> ?_,λaa h=> ?_,λaa h=> ?_⟩
 .rw [h,e]at hu;simp [ac.aj]at hu
 .cases ks with
  |nil=>exact aa a.2.2
  |one=>have:=a.2.2.1;rw [h,hu]at this;simp [ac.aj]at this
  |grown junk=>obtain⟨_,_,_,_,_,this⟩:=a;rw [h,hu]at this;simp [ac.aj]at this
 .rcases ae with ⟨_,_,ae⟩|⟨_,_,_,_,_,_,this⟩
  .exact aa ae
  .rw [h,hu]at this;simp [ac.aj]at this
 .rcases b with ⟨_,_,ae⟩|⟨_,_,_,_,_,_,this⟩
  .exact aa ae
  .rw [h,hu]at this;simp [ac.aj]at this
theorem cU.Y{h:T}{d:Nat}{I:bO}{f:Nat}{pas:Bool}{ks:eE}{ai ax aw:Bytes}{es:List aP}{k:Nat}(g:cU h d I f pas ks ai ax aw es):cU ⟨h.Y+k,h.ay⟩ d I f pas ks ai ax aw es:=by refine⟨g.ex,g.gB,?_,g.ne⟩;have:=g.lt;show d<h.Y+k/\I.u<h.Y+k/\I.k<h.Y+k/\I.p<h.Y+k/\I.o<h.Y+k;omega
structure s7(H:T)(d:Nat)(I aC:bO)(o:Nat):Prop where
 off:iF o d aC
 of:o=I.u\/o=I.k\/o=I.p\/o=I.o\/H.Y<=o
theorem Qv{e:T}{d:Nat}{c:bO}{s:bq}{es:List aP}{f2:Nat}{t x m:J}{w:Bool}{y:bj}{a b:Nat}(g2:bS e d c s es)(C:e.get d=some (bB d f2 c.u t x w m y))(A:gN e d c.o m es) :
 ∀(f:T),((⟨e.Y+a,e.ay⟩:T).set d (bB d f2 c.u t x w (.slice none 0 0) y))=f->nO ⟨f.Y+b,f.ay⟩ m es c.o/\(es≠[]->iF c.o d ⟨c.u,c.k,c.p,d⟩):=by
 intro f r;have D:f.Y=e.Y+a:=by rw [<-r];rfl
 rcases A with ⟨aa,h2,q⟩|⟨aa,h2,ab,v,n,q,g⟩
 .exact⟨.inl ⟨aa,h2⟩,λh=>absurd h2 h⟩
 .have G:=(by obtain⟨ks,i,_⟩:=g2;exact i.lt:d<e.Y/\c.u<e.Y/\c.k<e.Y/\c.p<e.Y/\c.o<e.Y)
  have z:(⟨f.Y+b,f.ay⟩:T).get c.o=some (bL (es.map bi) 6 ab v n ek):=by rw [<-g];show f.get c.o=e.get c.o;rw [<-r,T.eO _ _ (ki aa)];rfl
  have B:iF c.o d ⟨c.u,c.k,c.p,d⟩:=by
   obtain⟨ks,i,_⟩:=g2;obtain⟨F,I,H,K,e',j,l,E⟩:=i.ex;obtain⟨j0,j1,j2,j3,uty,hu⟩:=i.gB;refine⟨aa,λh=> ?_,λh=> ?_,λh=> ?_,aa⟩
   .have h:c.o=c.u:=h;rw [h,hu]at g;simp [ac.aj]at g
   .have h:c.o=c.k:=h;cases ks with
    |nil=>exact aa (by rw [h];exact j.2.2)
    |one=>have:=j.2.2.1;rw [<-h,g]at this;simp [ac.aj]at this
    |grown junk=>obtain⟨_,_,_,_,_,this⟩:=j;rw [<-h,g]at this;simp at this
   .have h:c.o=c.p:=h;rcases l with ⟨_,_,l⟩|⟨_,_,_,_,_,_,this⟩
    .exact aa (by rw [h];exact l)
    .rw [<-h,g]at this;simp at this
  exact⟨.inr ⟨h2,by show c.o<f.Y+b;omega,ab,v,n,q,z⟩,λ_=>B⟩
theorem Qw{H:T}{d:Nat}{I:bO}{s:bq}(g:bS H d I s [])(fn:Keys.Good s)(f1:s.ai.length<2^40) :
 ∃H' v aC l,bu 27 [.ptr (some ⟨d,0,0,0,6⟩)] H v H'/\bS H' d aC (flush s).1 []/\Fr H H' d I aC/\nO H' v (flush s).2 l/\((flush s).2≠[]->s7 H d I aC l):=by
 have a5:∀v ad,v=J.slice none 0 0/\ad=⟨H.Y+18,H.ay⟩->flush s=(s,[])->bu 27 [.ptr (some ⟨d,0,0,0,6⟩)] H v ad ->
  ∃H' v aC l,bu 27 [.ptr (some ⟨d,0,0,0,6⟩)] H v H'/\bS H' d aC (flush s).1 []/\Fr H H' d I aC/\nO H' v (flush s).2 l/\((flush s).2≠[]->s7 H d I aC l):=by
  rintro v ad ⟨rfl,rfl⟩ G n;refine⟨_,_,I,0,n,by rw [G];exact mv g,⟨by show H.Y<=H.Y+18;omega,λj _ _ _ _ _ _=>rfl,λx g0=> V⟩,.inl ⟨rfl,by rw [G]⟩,λh=>absurd (by rw [G]) h⟩
 obtain⟨ks,ct,hs⟩:=id g;obtain⟨kv,pv,ov,ty,e,bn,ae,f6⟩:=ct.ex;by_cases t:s.nx=.cb
 .have bv:=Gh (h:=⟨H.Y+17,H.ay⟩) e;rw [gj t]at bv;obtain⟨v,ad,n,X⟩:=Qq H d (λv ad=>v=J.slice none 0 0/\ad=⟨H.Y+18,H.ay⟩) (aR (Nat.le_refl _) (aR V ⟨bv,aR V (e2 V ⟨rfl,rfl⟩)⟩));exact a5 v ad X (by unfold flush;rw [aE (.inl t)]) n
 have A:=Gh (h:=⟨H.Y+17,H.ay⟩) e;rw [gi t]at A;have z:=Gi (h:=⟨H.Y+17,H.ay⟩) e;by_cases r:s.ai=[]
 .obtain⟨C,Z⟩:=AG bn;rw [Z,r]at z;obtain⟨v,ad,n,X⟩:=Qr H d C (λv ad=>v=J.slice none 0 0/\ad=⟨H.Y+18,H.ay⟩) (aR (Nat.le_refl _) (aR V ⟨A,z,aR V (e2 V ⟨rfl,rfl⟩)⟩));exact a5 v ad X (by unfold flush;rw [aE (.inr r)]) n
 obtain⟨B,U⟩:∃B,s.ai.length=B+1:=⟨s.ai.length-1,by have:s.ai.length≠0:=λh=>r (mG.1 h);omega⟩
 obtain⟨f,d5,eq,el,hm,e0,ce,f7,gs,c4⟩:=g.clear;obtain⟨g1,av⟩:=c4 21;generalize a4:((⟨H.Y+21,H.ay⟩:T).set d (bB d f I.u d5 eq el (.slice none 0 0) e0))=H1 at g1 av;have P:eA (a'.D env) 56 ⟨d,0,0,5,6⟩ (.slice none 0 0) ⟨H.Y+21,H.ay⟩=some H1:=by rw [<-a4];exact wy ce
 have f2:H1.Y=H.Y+21:=by rw [<-a4];rfl
 obtain⟨d4,E,go⟩:=id g1;obtain⟨g5,ip,hu,it,aI,f0,gc,f8⟩:=E.ex;obtain⟨j0,j1,j2,j3,uty,d1⟩:=E.gB;have L:=E.apart;have d7:=E.lt;have O:=Qs (h:=⟨H1.Y+5,H1.ay⟩) aI;obtain⟨q,i0,i1,i2,i3,N,d2,a9,W⟩:=Gf (H:=⟨H1.Y+5,H1.ay⟩) (u:=I.u) (by have:=d7.2.1;show I.u<H1.Y+5;exact iN this V) d1;have W:H1.Y+5<=q.Y:=W;have R:cU q d ⟨I.u,I.k,I.p,d⟩ (b1 s.nx) (decide (s.nx=.cb)) d4 s.ai [] s.aw []:=Qu E L.1 ⟨_,_,_,_,_,d2⟩ a9 W L.2.1 L.2.2.1 L.2.2.2;obtain⟨g6,is,hw,i4,aO,c9,ge,f9⟩:=R.ex;obtain⟨a,d3,F⟩:=Qt c9 r;have K:=Gi (h:=⟨q.Y+6,q.ay⟩) aO;obtain⟨C,Z⟩:=AG bn;rw [Z,U]at z;rw [d3,U]at K;rw [U]at F;rw [gi t]at R
 have tail:∀(m:Nat)(x:aP),∃i c v aC l,bu 58 [.ptr (some ⟨d,0,0,0,6⟩),bi x] ⟨q.Y+m,q.ay⟩ (.tuple []) i/\H.Y<=i.Y/\a1 (a'.D env) 56 ⟨d,0,0,5,6⟩ ⟨i.Y+5,i.ay⟩=some v/\eA (a'.D env) 56 ⟨d,0,0,5,6⟩ (.slice none 0 0) ⟨i.Y+9,i.ay⟩=some c/\H.Y<=c.Y /\
  bS ⟨c.Y+2,c.ay⟩ d aC ⟨.ground,[],[],s.aw⟩ []/\Fr H ⟨c.Y+2,c.ay⟩ d I aC/\nO ⟨c.Y+2,c.ay⟩ v [x] l/\s7 H d I aC l:=by
  intro m x;obtain⟨i,d0,w,c0,a0⟩:=D1 (R.Y (k:=m)) x an;have g3:bS i d w ⟨.ground,[],[],s.aw⟩ [x]:=⟨.nil,c0,trivial⟩
  have am:=a0.Y;have am:q.Y+m<=i.Y:=am;obtain⟨f3,d6,es,em,d9,fd,Q,dg,gt,c5⟩:=g3.clear;obtain⟨g4,a2⟩:=c5 9;have out:=λc=>Qv (a:=9) (b:=2) g3 Q dg c
  generalize S:((⟨i.Y+9,i.ay⟩:T).set d (bB d f3 w.u d6 es em (.slice none 0 0) fd))=c at g4 a2;have dp:eA (a'.D env) 56 ⟨d,0,0,5,6⟩ (.slice none 0 0) ⟨i.Y+9,i.ay⟩=some c:=by rw [<-S];exact wy Q
  obtain⟨d8,b2⟩:=out c S;have f4:c.Y=i.Y+9:=by rw [<-S];rfl
  have co:Fr H1 ⟨q.Y+m,q.ay⟩ d ⟨I.u,I.k,I.p,d⟩ ⟨I.u,I.k,I.p,d⟩:=by refine⟨by show H1.Y<=q.Y+m;omega,λj fs g7 n2 g8 g9 he=> ?_,λy g2=> V⟩;exact a9 j (by show j<H1.Y+5;omega) n2
  have a3:=av.trans (co.trans a0);refine⟨i,c,d9,⟨w.u,w.k,w.p,d⟩,w.o,d0,V,Gb Q,dp,V,mv g4,AF (a3.trans a2),d8,b2 an,?_⟩;have:=a3.ids w.o (.inr (.inr (.inr rfl)));have f5:=(b2 an).d;omega
 have done:∀(x:aP)(c:T)(v:J)(aC:bO)(l:Nat),flush s=(⟨.ground,[],[],s.aw⟩,[x])->bu 27 [.ptr (some ⟨d,0,0,0,6⟩)] H v ⟨c.Y+2,c.ay⟩->bS ⟨c.Y+2,c.ay⟩ d aC ⟨.ground,[],[],s.aw⟩ []->Fr H ⟨c.Y+2,c.ay⟩ d I aC->nO ⟨c.Y+2,c.ay⟩ v [x] l->s7 H d I aC l ->
  ∃H' v aC l,bu 27 [.ptr (some ⟨d,0,0,0,6⟩)] H v H'/\bS H' d aC (flush s).1 []/\Fr H H' d I aC/\nO H' v (flush s).2 l/\((flush s).2≠[]->s7 H d I aC l):=by
  intro x c v aC l G n cq cn ei hE;rw [G];exact⟨_,v,aC,l,n,cq,cn,ei,λ_=>hE⟩
 have M:∀{a b:Nat}{p:Prop},a<=b->p->_root_.cond (Nat.ble a b) p False:=λh k=>by rw [Nat.ble_eq.mpr h];exact k
 by_cases cs:s.ai=[27]
 .obtain⟨i,c,v,aC,l,t1,t2,t3,t4,t5,t6,t7,t8,t9⟩:=tail 12 (cY 4);obtain⟨v2,h2,n,rfl,rfl⟩:=wB H H1 q i c d I.u B 0 C (some a) s.ai v (λv2 h2=>v2=v/\h2=⟨c.Y+2,c.ay⟩) (aR (Nat.le_refl _) (aR V ⟨A,z,aR V ⟨lq rfl P,aR V ⟨O,⟨N⟩,aR V ⟨K,wC rfl F,aR V (aR V ⟨λ_=>aR V ⟨⟨t1⟩,aR t2 ⟨t3,aR V ⟨lq rfl t4,aR t5 (M V ⟨rfl,rfl⟩)⟩⟩⟩,λh=>absurd cs h⟩)⟩⟩⟩⟩));exact done _ _ _ _ _ (by unfold flush;rw [ap (by simp [t,r]),aE cs];rfl) n t6 t7 t8 t9
 by_cases c2:s.ai=[27,91]
 .obtain⟨i,c,v,aC,l,t1,t2,t3,t4,t5,t6,t7,t8,t9⟩:=tail 17 (dq 91 2);obtain⟨v2,h2,n,rfl,rfl⟩:=wB H H1 q i c d I.u B 91 C (some a) s.ai v (λv2 h2=>v2=v/\h2=⟨c.Y+2,c.ay⟩) (aR (Nat.le_refl _) (aR V ⟨A,z,aR V ⟨lq rfl P,aR V ⟨O,⟨N⟩,aR V ⟨K,wC rfl F,aR V (aR V ⟨λh=>absurd h cs,λ_=>aR V ⟨λ_=>aR V ⟨by rw [c2];kernel_rfl,⟨aA,aA⟩,⟨t1⟩,aR t2 ⟨t3,aR V ⟨lq rfl t4,aR t5 (M V ⟨rfl,rfl⟩)⟩⟩⟩,λh=>absurd c2 h⟩⟩)⟩⟩⟩⟩));exact done _ _ _ _ _ (by unfold flush;rw [ap (by simp [t,r]),ap cs,aE (.inl c2),c2];rfl) n t6 t7 t8 t9
 by_cases c3:s.ai=[27,79]
 .obtain⟨i,c,v,aC,l,t1,t2,t3,t4,t5,t6,t7,t8,t9⟩:=tail 19 (dq 79 2);obtain⟨v2,h2,n,rfl,rfl⟩:=wB H H1 q i c d I.u B 79 C (some a) s.ai v (λv2 h2=>v2=v/\h2=⟨c.Y+2,c.ay⟩) (aR (Nat.le_refl _) (aR V ⟨A,z,aR V ⟨lq rfl P,aR V ⟨O,⟨N⟩,aR V ⟨K,wC rfl F,aR V (aR V ⟨λh=>absurd h cs,λ_=>aR V ⟨λh=>absurd h c2,λ_=>aR V ⟨λ_=>aR V ⟨by rw [c3];kernel_rfl,⟨aA,aA⟩,⟨t1⟩,aR t2 ⟨t3,aR V ⟨lq rfl t4,aR t5 (M V ⟨rfl,rfl⟩)⟩⟩⟩,λh=>absurd c3 h⟩⟩⟩)⟩⟩⟩⟩));exact done _ _ _ _ _ (by unfold flush;rw [ap (by simp [t,r]),ap cs,aE (.inr c3),c3];rfl) n t6 t7 t8 t9
 .obtain⟨i,c,v,aC,l,t1,t2,t3,t4,t5,t6,t7,t8,t9⟩:=tail 17 (cQ s.ai);obtain⟨v2,h2,n,rfl,rfl⟩:=wB H H1 q i c d I.u B 0 C (some a) s.ai v (λv2 h2=>v2=v/\h2=⟨c.Y+2,c.ay⟩) (aR (Nat.le_refl _) (aR V ⟨A,z,aR V ⟨lq rfl P,aR V ⟨O,⟨N⟩,aR V ⟨K,wC rfl F,aR V (aR V ⟨λh=>absurd h cs,λ_=>aR V ⟨λh=>absurd h c2,λ_=>aR V ⟨λh=>absurd h c3,λ_=>aR V ⟨⟨t1⟩,aR t2 ⟨t3,aR V ⟨lq rfl t4,aR t5 (M V ⟨rfl,rfl⟩)⟩⟩⟩⟩⟩⟩)⟩⟩⟩⟩));exact done _ _ _ _ _ (by unfold flush;rw [ap (by simp [t,r]),ap cs,ap (by simp [c2,c3])];rfl) n t6 t7 t8 t9
theorem Qx{l:Bool}(e f:aP):iV (a'.D env) (a'.fC env) l BinOp.neq 42 (bi e) (bi f)=some (.bool (!decide (e=f))):=by
 obtain⟨ao,a2,a3,a4,a5,a⟩:=e;obtain⟨aH,b2,b,c,d,g⟩:=f;have k:iV (a'.D env) (a'.fC env) l BinOp.neq 42 (bi ⟨ao,a2,a3,a4,a5,a⟩) (bi ⟨aH,b2,b,c,d,g⟩)=some (.bool (!((ao == aH)&&((a2 == b2)&&((a3 == b)&&((a4 == c)&&((a5 == d)&&((a == g)&&true)))))))):= ar;rw [k]
 congr 3
 rw [Bool.eq_iff_iff];simp [aP.mk.injEq]
abbrev qA(av bv n j:Nat):a8:=[(0,.slice (some ⟨0,av,0,0,6⟩) n n),(1,.slice (some ⟨1,bv,0,0,6⟩) n n),(5,.int .i64 (j:Nat))]
theorem Gj{av bv n j K:Nat}{A B:ac}(a:cj A)(b:cj B)(aN:(T.af K [(0,A),(1,B)]).get 0=some A)(aa:(T.af K [(0,A),(1,B)]).get 1=some B):b5 2 26 (qA av bv n j) (T.af K [(0,A),(1,B)]) (qA av bv n j) (T.rows 2 [(0,A),(1,B)]):=by
 refine b5.drop (K:=2) (l:=[(0,A),(1,B)]) (by simp [aN,aa]) rfl rfl rfl ?_ ?_
 .exact a7.cons (show(0:Nat)∈ [0,1]by simp) (a7.cons (show(1:Nat)∈ [0,1]by simp) (a7.cons trivial a7.nil))
 .exact a7.cons (λe he=>(a e he).dh _) (a7.cons (λe he=>(b e he).dh _) a7.nil)
abbrev mZ:bq:=⟨.ground,[],[],[]⟩
structure bs(H H':T)(col bg:Nat->Nat)(L:List Nat):Prop where
 Y:H.Y<=H'.Y
 get:∀x,x<H.Y->col x ∉ L->H'.get x=H.get x
 col:∀x,x<H.Y->col x ∉ L->bg x=col x
theorem bs.trans{H H1 e:T}{c cs c2:Nat->Nat}{f g:List Nat}(a:bs H H1 c cs f)(b:bs H1 e cs c2 g):bs H e c c2 (f++g) where
 Y:=Nat.le_trans a.Y b.Y
 get x d h:=by simp only [eG,eR]at h;have az:=a.Y;rw [b.get x V (by rw [a.col x d h.1];exact h.2),a.get x d h.1]
 col x d h:=by simp only [eG,eR]at h;have az:=a.Y;rw [b.col x V (by rw [a.col x d h.1];exact h.2),a.col x d h.1]
theorem bs.sub{H H':T}{c d:Nat->Nat}{L M:List Nat}(a:bs H H' c d L)(h:∀x∈L,x∈M):bs H H' c d M where
 Y:=a.Y
 get x b k:=a.get x b λq=>k (h _ q)
 col x b k:=a.col x b λq=>k (h _ q)
theorem bs.refl(H:T)(c:Nat->Nat):bs H H c c []:=⟨Nat.le_refl _,λ_ _ _=>rfl,λ_ _ _=>rfl⟩
def fresh(H:T)(col:Nat->Nat):Nat->Nat:=λx=>if x<H.Y then col x else 8
theorem bs.fresh(H:T)(col:Nat->Nat)(k:Nat):bs H ⟨H.Y+k,H.ay⟩ col (fresh H col) [] where
 Y:=by show H.Y<=H.Y+k;omega
 get _ _ _:=rfl
 col x a _:=by unfold Proofs.YtddnafghiejcoaaGreatDoor.fresh;rw [aE a]
theorem gP{H:T}{col:Nat->Nat}{x:Nat}(h:H.Y<=x):fresh H col x=8:=by unfold fresh;rw [ap V]
def iG(d:Nat)(I:bO)(x:Nat):Prop:=x=d\/x=I.u\/x=I.k\/x=I.p\/x=I.o
structure gQ(H:T)(col:Nat->Nat)(c d:Nat)(I:bO)(s:bq):Prop where
 at':bS H d I s []
 col:∀x,iG d I x->col x=c
theorem gQ.lt{H:T}{col:Nat->Nat}{c d:Nat}{I:bO}{s:bq}(h:gQ H col c d I s):∀x,iG d I x->x<H.Y:=by obtain⟨ks,g,_⟩:=h.at';have:=g.lt;intro x a;unfold iG at a;omega
theorem gQ.aJ{H H':T}{col bg:Nat->Nat}{c d:Nat}{I:bO}{s:bq}{L:List Nat}(h:gQ H col c d I s)(m:bs H H' col bg L)(al:c ∉ L):gQ H' bg c d I s:=by
 have lt:=h.lt;have ag:∀x,iG d I x->H'.get x=H.get x:=λx a=>m.get x (lt x a) (by rw [h.col x a];exact al)
 refine⟨?_,λx a=>by rw [m.col x (lt x a) (by rw [h.col x a];exact al)];exact h.col x a⟩;obtain⟨ks,g,hs⟩:=h.at';obtain⟨kv,pv,ov,ty,e,b,ae,f⟩:=g.ex;obtain⟨j0,j1,j2,j3,uty,hu⟩:=g.gB;have i:=g.lt;have az:=m.Y;exact⟨ks,⟨⟨kv,pv,ov,ty,by rw [ag d (.inl rfl)];exact e,b.keep λ_=>ag _ (.inr (.inr (.inl rfl))),ae.keep λ_=>ag _ (.inr (.inr (.inr (.inl rfl)))),f.keep λ_=>ag _ (.inr (.inr (.inr (.inr rfl))))⟩,⟨j0,j1,j2,j3,uty,by rw [ag I.u (.inr (.inl rfl))];exact hu⟩,V,g.ne⟩,hs⟩
structure c1(H:T)(col:Nat->Nat)(c sz:Nat)(ty:bj)(v:J)(l:List J):Prop where
 ex:(v=.slice none 0 0/\l=[])\/(l≠[]/\∃o,o<H.Y/\col o=c/\∃ab m f,v=.slice (some ⟨o,ab,0,0,sz⟩) l.length l.length/\H.get o=some (bL l sz ab m f ty))
theorem c1.aJ{H H':T}{col bg:Nat->Nat}{c sz:Nat}{ty:bj}{v:J}{l:List J}{L:List Nat}(h:c1 H col c sz ty v l)(m:bs H H' col bg L)(al:c ∉ L):c1 H' bg c sz ty v l:=by
 rcases h.ex with h|⟨aa,o,h2,a,ab,e,f,b,d⟩
 .exact⟨.inl h⟩
 .have az:=m.Y;exact⟨.inr ⟨aa,o,V,by rw [m.col o h2 (by rw [a];exact al)];exact a,ab,e,f,b,by rw [m.get o h2 (by rw [a];exact al)];exact d⟩⟩
theorem c1.nil(H:T)(col:Nat->Nat)(c sz:Nat)(ty:bj):c1 H col c sz ty (.slice none 0 0) []:=⟨.inl ⟨rfl,rfl⟩⟩
theorem c1.fu{H:T}{col:Nat->Nat}{c sz nid t e jO:Nat}{v w:J}{l new:List J}(hs:nk env.D t e sz jO)(g:c1 H col c sz (some (e,0)) v l)(az:nid<H.Y)(r:col nid=8)(j:dF sz w H=some new)(i:((l.length+new.length)+(l.length+new.length)/4+512)*jO<=2^48)(p:l.length+new.length<2^62) :
 ∃s H' bg,eB env .append #[t,t] [v,w] nid H=some (s,H')/\c1 H' bg c sz (some (e,0)) s (l++new)/\bs H H' col bg [c,8]/\H'.Y=H.Y:=by
 by_cases d:new=[]
 .subst d;refine⟨v,H,col,?_,by rw [fV];exact g,(bs.refl H col).sub an,rfl⟩;rcases g.ex with ⟨rfl,rfl⟩|⟨aa,o,h2,k,ab,q,f,rfl,m⟩
  .exact CN (b:=ac.aj [] 1 true) hs j (by simpa using i) aA (λa n=>by cases n) (Nat.le_refl _) (λ_=>rfl)
  .exact CN hs j (by simpa using i) (by simpa using p) (λa n=>by cases n;exact⟨m,rfl,rfl⟩) (Nat.le_refl _) (λh=>by cases h)
 .rcases g.ex with ⟨rfl,rfl⟩|⟨aa,o,h2,k,ab,q,f,rfl,m⟩
  .refine⟨_,_,λx=>if x=nid then c else col x,KF hs j d (by simpa using i) (by simpa using p),⟨.inr ⟨by simpa using d,nid,az,an,0,0,0,rfl,T.eT _ _ _⟩⟩,⟨Nat.le_refl _,λx _ h=> ?_,λx _ h=> ?_⟩,rfl⟩
   .refine T.eO _ _ λe=> ?_
    subst e;rw [r]at h;simp at h
   .show(if x=nid then c else col x)=col x;rw [ap];intro e;subst e;rw [r]at h;simp at h
  .have u:0<new.length:=fS.2 d;refine⟨_,_,col,CM hs j d i p m ⟨rfl,rfl⟩ V rfl rfl rfl an (.inr rfl),⟨.inr ⟨by simp [aa],o,h2,k,ab+1,q,if q=ab then l.length else min f l.length,by rw [dt],T.eT _ _ _⟩⟩,⟨Nat.le_refl _,λx _ h=> ?_,λ_ _ _=>rfl⟩,rfl⟩;refine T.eO _ _ λe=> ?_
   subst e;rw [k]at h;simp at h
theorem Gk{H H':T}{col:Nat->Nat}{c d:Nat}{I aC:bO}{s f:bq}(g:gQ H col c d I s)(i:bS H' d aC f [])(b6:Fr H H' d I aC)(P:Prop)[Decidable P](o:Nat)(e:P->iF o d aC/\(iG d I o\/H.Y<=o)) :
 ∃bg,gQ H' bg c d aC f/\bs H H' col bg [c]/\(P->bg o=7):=by
 have n:=g.lt;refine⟨λx=>if x=o/\P then 7 else if x<H.Y then col x else c,⟨i,λx a=> ?_⟩,⟨b6.Y,λx a h=> ?_,λx a h=> ?_⟩,λb=>by simp [b]⟩
 .have j:¬(x=o/\P):=by rintro ⟨rfl,b⟩;have:=(e b).1;have cq:=this.d;have cn:=this.u;have ei:=this.k;have hE:=this.p;have lg:=this.o;unfold iG at a;omega
  show(if x=o/\P then 7 else if x<H.Y then col x else c)=c;rw [ap j];split
  .rename_i m
   have l:iG d I x:=by
    rcases a with a|a
    .exact .inl a
    .have:=b6.ids x a;unfold iG;omega
   exact g.col x l
  .rfl
 .have az:¬iG d I x:=λk=>h (by rw [g.col x k];simp)
  unfold iG at az;simp only [eR]at az;exact b6.get x a az.1 az.2.1 az.2.2.1 az.2.2.2.1 az.2.2.2.2
 .show(if x=o/\P then 7 else if x<H.Y then col x else c)=col x;rw [ap,aE a];rintro ⟨rfl,b⟩;rcases (e b).2 with k|k
  .exact h (by rw [g.col x k];simp)
  .omega
theorem Gl{H:T}{col:Nat->Nat}{c:Nat}{v:J}{es:List aP}{o:Nat}(h:nO H v es o)(al:es≠[]->col o=c):c1 H col c 6 ek v (es.map bi):=by
 rcases h with ⟨aa,h2⟩|⟨aa,h2,ab,m,f,a,b⟩
 .exact⟨.inl ⟨aa,by rw [h2];rfl⟩⟩
 .exact⟨.inr ⟨by simpa using aa,o,h2,al aa,ab,m,f,by rw [gy];exact a,b⟩⟩
theorem bs.pad(H:T)(col:Nat->Nat):bs H ⟨H.Y+1,H.ay⟩ col col []:=⟨by show H.Y<=H.Y+1;omega,λ_ _ _=>rfl,λ_ _ _=>rfl⟩
theorem Qy{f:FuncId}{args:List J}{h ad:T}{v:J}(k:bu f args h v ad):bu f args h v ⟨ad.Y+1,ad.ay⟩:=k.pad (by show ad.Y<=ad.Y+1;omega) (λ_ _=>rfl)
structure jr(H:T)(col:Nat->Nat)(c:Nat)(o:Option aT)(aU:Bytes):Prop where
 ex:(o=none/\aU=[])\/ ∃q bv bw,o=some ⟨q,bv,bw,0,1⟩/\nN H q bv bw aU/\q<H.Y/\col q=c
theorem jr.aJ{H H':T}{col bg:Nat->Nat}{c:Nat}{o:Option aT}{aU:Bytes}{L:List Nat}(h:jr H col c o aU)(m:bs H H' col bg L)(al:c ∉ L):jr H' bg c o aU:=by
 rcases h.ex with h|⟨q,bv,bw,aa,h2,b,a⟩
 .exact⟨.inl h⟩
 .have az:=m.Y;exact⟨.inr ⟨q,bv,bw,aa,h2.keep (m.get q b (by rw [a];exact al)),V,by rw [m.col q b (by rw [a];exact al)];exact a⟩⟩
theorem jr.aQ{H:T}{col:Nat->Nat}{c n:Nat}{o:Option aT}{aU:Bytes}(h:jr H col c o aU):dF 1 (.slice o aU.length n) H=some (aG aU):=by
 rcases h.ex with ⟨rfl,rfl⟩|⟨q,bv,bw,rfl,⟨b,aa,h2⟩,_⟩
 .rfl
 .have:=KG (sz:=1) (n:=aU.length) (c:=n) (f:=λj=> .int .u8 ((aU.getD j 0).toNat:Int)) (.inl rfl:lY (some ⟨q,bv,bw,0,1⟩) aU.length n q bv bw 1) aa (λj a=>by rw [h2 j a];simp [gf,a]);rw [this]
  congr 1
  apply pn;intro j;by_cases a:j<aU.length
  .simp [aG,a,gf]
  .simp [aG,a]
theorem gQ.new(H:T)(col:Nat->Nat)(c:Nat):∃H' d I bg,bu 14 [] H (.ptr (some ⟨d,0,0,0,6⟩)) H'/\gQ H' bg c d I mZ/\bs H H' col bg []:=by obtain⟨H',d,I,b,g,h,n2,i,j,k,e,f⟩:=Qi H;refine⟨H',d,I,λx=>if x<H.Y then col x else c,b,⟨g,λx a=> ?_⟩,⟨e,λx a _=>f x a,λx a _=>aE a⟩⟩;unfold iG at a;exact ap V
theorem gQ.flush{H:T}{col:Nat->Nat}{c d:Nat}{I:bO}{s:bq}(g:gQ H col c d I s)(b:Keys.Good s)(f:s.ai.length<2^40):∃H' v aC bg,bu 27 [.ptr (some ⟨d,0,0,0,6⟩)] H v H'/\gQ H' bg c d aC (Keys.flush s).1/\c1 H' bg 7 6 ek v ((Keys.flush s).2.map bi)/\bs H H' col bg [c]/\H.Y<H'.Y:=by
 obtain⟨H',v,aC,o,e,a,b6,he,i⟩:=Qw g.at' b f
 obtain⟨bg,cq,cn,ei⟩:=Gk g a b6 ((Keys.flush s).2≠[]) o (λh=>by
  have k:=i h;have j:=k.off.d;refine⟨k.off,?_⟩;have:=k.of;unfold iG
  omega)
 have az:=b6.Y;exact⟨_,v,aC,bg,Qy e,cq.aJ (bs.pad H' bg) an,(Gl he ei).aJ (bs.pad H' bg) an,(cn.trans (bs.pad H' bg)).sub an,by show H.Y<H'.Y+1;omega⟩
theorem gQ.feed{H:T}{col:Nat->Nat}{c c2 d m:Nat}{I:bO}{s:bq}{aU:Bytes}{o:Option aT}(g:gQ H col c d I s)(j:Keys.Good s)(az:aU.length<2^28)(l:jr H col c2 o aU)(al:c2≠c):∃H' v aC bg,bu 26 [.ptr (some ⟨d,0,0,0,6⟩),.slice o aU.length m] H v H'/\gQ H' bg c d aC (bY s aU).1/\c1 H' bg 7 6 ek v ((bY s aU).2.map bi)/\bs H H' col bg [c]:=by
 have n:Ge H d I o aU:=by
  rcases l.ex with h|⟨q,bv,bw,aa,h2,f,i⟩
  .exact .inl h
  .have a:∀x,iG d I x->q≠x:=λx t e=>al (by rw [<-i,e];exact g.col x t)
   exact .inr ⟨q,bv,bw,aa,h2,f,⟨a _ (.inl rfl),a _ (.inr (.inl rfl)),a _ (.inr (.inr (.inl rfl))),a _ (.inr (.inr (.inr (.inl rfl)))),a _ (.inr (.inr (.inr (.inr rfl))))⟩⟩
 obtain⟨H',v,aC,u,p,b,b6,he,r⟩:=Qf (m:=m) g.at' j az n
 obtain⟨bg,cq,cn,ei⟩:=Gk g b b6 ((bY s aU).2≠[]) u (λh=>by
  have k:=r h;have w:=k.1.d;refine⟨k.1,?_⟩;have:=k.2;unfold iG
  omega)
 exact⟨H',v,aC,bg,p,cq,Gl he ei,cn⟩
theorem AJ:nk env.D 56 42 6 48:=by have aa:(env.D 42).map (λx=>(x.size,x.bytes,x.mQ))=some (6,48,true):= ar;have h2:(env.D 56).map (λx=>x.kind)=some (.slice 42):= ar;obtain⟨x,b,k⟩:=b4.1 aa;obtain⟨d,a,c⟩:=b4.1 h2;simp only [bo]at k;exact⟨d,x,a,c,b,k.1,k.2.1,aA,k.2.2⟩
theorem Gm:nk env.D 34 5 1 1:=by have aa:(env.D 5).map (λx=>(x.size,x.bytes,x.mQ))=some (1,1,true):= ar;have h2:(env.D 34).map (λx=>x.kind)=some (.slice 5):= ar;obtain⟨x,b,k⟩:=b4.1 aa;obtain⟨d,a,c⟩:=b4.1 h2;simp only [bo]at k;exact⟨d,x,a,c,b,k.1,k.2.1,aA,k.2.2⟩
end Go.Proofs.YtddnafghiejcoaaGreatDoor
namespace Go.Keys
def zero:bq:=⟨.ground,[],[],[]⟩
theorem Gn(s:bq)(c:UInt8):bY s [c]=step s c:=by simp [bY]
open Go.Lib
theorem Qz(w:Bytes)(b:UInt8):number (w++[b])=10*number w+(b.toNat-48):=by unfold number;rw [List.foldl_append];rfl
theorem QA{w:Bytes}(h:w.all digit=true):splitAt 59 w=[w]:=by
 induction w with
 |nil=>rfl
 |cons b t ih =>
  simp only [hY,cS]at h;have a:¬b=59:=by rintro rfl;exact absurd h.1 aA
  rw [splitAt,ap a,ih h.2]
theorem QB(w:Bytes)(b:UInt8):(w++[b]).getLastD 0=b:= an
end Go.Keys
namespace Go.Proofs.YtddnafghiejcoaaGreatDoor
open Go.bh Go.Keys
set_option maxRecDepth 1000000
end Go.Proofs.YtddnafghiejcoaaGreatDoor
namespace Go.Keys
open Go.Lib
def Scalar(r:Nat):Prop:=r<55296\/(57343<r/\r<=1114111)
theorem j7{n:Nat}(h:n<256):(u8 n).toNat=n:=by unfold u8;rw [po];omega
theorem put_eq{r:Nat}(hs:Scalar r):put r=if r<128 then [u8 r]else if r<2048 then [u8 (192+r/64),u8 (128+r%64)]
 else if r<65536 then [u8 (224+r/4096),u8 (128+r/64%64),u8 (128+r%64)]
 else [u8 (240+r/262144),u8 (128+r/4096%64),u8 (128+r/64%64),u8 (128+r%64)]:=by
 unfold Scalar at hs;have e:(if 55296<=r/\r<=57343\/1114111<r then 65533 else r)=r:=ap V;unfold put;simp only [e]
theorem l8{r:Nat}(h:r<128):put r=[u8 r]:=by rw [put_eq (.inl V),aE h]
theorem qc{r:Nat}(aa:128<=r)(h:r<2048):put r=[u8 (192+r/64),u8 (128+r%64)]:=by rw [put_eq (.inl V),ap V,aE h]
theorem qd{r:Nat}(hs:Scalar r)(aa:2048<=r)(h:r<65536):put r=[u8 (224+r/4096),u8 (128+r/64%64),u8 (128+r%64)]:=by rw [put_eq hs,ap V,ap V,aE h]
theorem qe{r:Nat}(hs:Scalar r)(aa:65536<=r):put r=[u8 (240+r/262144),u8 (128+r/4096%64),u8 (128+r/64%64),u8 (128+r%64)]:=by rw [put_eq hs,ap V,ap V,ap V]
theorem AK{n:Nat}(h:n<128):lead n=(1,0,0):=by unfold lead;rw [aE h]
theorem Gp{n:Nat}(aa:194<=n)(h:n<=223):lead n=(2,128,191):=by unfold lead;rw [ap V,aE ⟨aa,h⟩]
theorem Gq{n:Nat}(aa:224<=n)(h:n<=239):lead n=(3,if n=224 then 160 else 128,if n=237 then 159 else 191):=by
 unfold lead;rw [ap V,ap V];by_cases a:n=224
 .rw [aE a,aE a,ap V]
 .rw [ap a,ap a];by_cases b:n=237
  .rw [aE b,aE b]
  .rw [ap b,ap b,aE V]
theorem Gr{n:Nat}(aa:240<=n)(h:n<=244):lead n=(4,if n=240 then 144 else 128,if n=244 then 143 else 191):=by
 unfold lead;rw [ap V,ap V,ap V,ap V,ap V];by_cases a:n=240
 .rw [aE a,aE a,ap V]
 .rw [ap a,ap a];by_cases b:n=244
  .rw [ap V,aE b,aE b]
  .rw [aE V,ap b]
structure AL(r:Nat):Prop where
 whole:first (put r)=(r,(put r).length,false)
 parts:∀k,0<k->k<(put r).length->(first ((put r).take k)).2.2=true
 QC:1<(put r).length-> ∀b∈put r,128<=b.toNat
theorem qB(i aD ah v:Nat)(l:Bytes):tail 0 i aD ah v l=(v,i,false):=by unfold tail;rfl
theorem tail_nil(k i aD ah v:Nat):tail (k+1) i aD ah v []=(65533,i,true):=rfl
theorem j8{k i aD ah v:Nat}{c:UInt8}{r:Bytes}(aa:aD<=c.toNat)(h2:c.toNat<=ah):tail (k+1) i aD ah v (c::r)=tail k (i+1) 128 191 (v*64+c.toNat%64) r:=by rw [tail,ap V]
theorem mw{b:UInt8}{r:Bytes}{k aD ah:Nat}(h:lead b.toNat=(k+2,aD,ah)):first (b::r)=tail (k+1) 1 aD ah (b.toNat%2^(7- (k+2))) r:=by simp only [first,h];rw [ap V,ap V];rfl
theorem chars{r:Nat}(hs:Scalar r):AL r:=by
 have i:=hs;unfold Scalar at i;by_cases aa:r<128
 .rw [show AL r=AL r from rfl];refine⟨?_,?_,?_⟩
  .rw [l8 aa];simp only [first,j7 (show r<256 by omega),AK aa];rfl
  .rw [l8 aa];intro k a b;simp only [b',dx]at b;omega
  .rw [l8 aa];intro a;simp at a
 by_cases h2:r<2048
 .have e:=qc V h2;have a0:(u8 (192+r/64)).toNat=192+r/64:=j7 V;have ao:(u8 (128+r%64)).toNat=128+r%64:=j7 V;have f:lead (u8 (192+r/64)).toNat=(0+2,128,191):=by rw [a0];exact Gp V V
  refine⟨?_,?_,?_⟩
  .rw [e,mw f,j8 V V,qB,a0,ao];simp only [b',dx,bo,h0,Nat.reduceAdd];omega
  .intro k c d;rw [e]at d⊢;simp only [b',dx]at d;obtain rfl:k=1:= V;show(first [_]).2.2=true;rw [mw f,tail_nil]
  .rw [e];intro _ b g;simp only [cM,kU,ea]at g;rcases g with rfl|rfl<;>omega
 by_cases h:r<65536
 .have e:=qd hs V h;have a0:(u8 (224+r/4096)).toNat=224+r/4096:=j7 V;have ao:(u8 (128+r/64%64)).toNat=128+r/64%64:=j7 V;have a2:(u8 (128+r%64)).toNat=128+r%64:=j7 V;have f:lead (u8 (224+r/4096)).toNat=(1+2,if 224+r/4096=224 then 160 else 128,if 224+r/4096=237 then 159 else 191):=by rw [a0];exact Gq V V
  refine⟨?_,?_,?_⟩
  .rw [e,mw f,j8 (by rw [ao];split<;>omega) (by rw [ao];split<;>omega),j8 V V,qB,a0,ao,a2];simp only [b',dx,bo,h0,Nat.reduceAdd];omega
  .intro k c d;rw [e]at d⊢;simp only [b',dx]at d;rcases (show k=1\/k=2 by omega)with rfl|rfl
   .show(first [_]).2.2=true;rw [mw f,tail_nil]
   .show(first [_,_]).2.2=true;rw [mw f,j8 (by rw [ao];split<;>omega) (by rw [ao];split<;>omega),tail_nil]
  .rw [e];intro _ b g;simp only [cM,kU,ea]at g;rcases g with rfl|rfl|rfl<;>omega
 .have e:=qe hs V;have a0:(u8 (240+r/262144)).toNat=240+r/262144:=j7 V;have ao:(u8 (128+r/4096%64)).toNat=128+r/4096%64:=j7 V;have a2:(u8 (128+r/64%64)).toNat=128+r/64%64:=j7 V;have a3:(u8 (128+r%64)).toNat=128+r%64:=j7 V;have f:lead (u8 (240+r/262144)).toNat=(2+2,if 240+r/262144=240 then 144 else 128,if 240+r/262144=244 then 143 else 191):=by rw [a0];exact Gr V V
  refine⟨?_,?_,?_⟩
  .rw [e,mw f,j8 (by rw [ao];split<;>omega) (by rw [ao];split<;>omega),j8 V V,j8 V V,qB,a0,ao,a2,a3];simp only [b',dx,bo,h0,Nat.reduceAdd];omega
  .intro k c d;rw [e]at d⊢;simp only [b',dx]at d;rcases (show k=1\/k=2\/k=3 by omega)with rfl|rfl|rfl
   .show(first [_]).2.2=true;rw [mw f,tail_nil]
   .show(first [_,_]).2.2=true;rw [mw f,j8 (by rw [ao];split<;>omega) (by rw [ao];split<;>omega),tail_nil]
   .show(first [_,_,_]).2.2=true;rw [mw f,j8 (by rw [ao];split<;>omega) (by rw [ao];split<;>omega),j8 V V,tail_nil]
  .rw [e];intro _ b g;simp only [cM,kU,ea]at g;rcases g with rfl|rfl|rfl|rfl<;>omega
theorem QD(r:Nat):put r≠[]:=by intro h;have:=Dg r;rw [h]at this;simp at this
theorem QE{r:Nat}(hs:Scalar r):dn (put r)=[r]:=by
 have h:=(chars hs).whole;unfold dn;cases ae:put r with
 |nil=>exact absurd ae (QD r)
 |cons b t =>
  rw [ae]at h;show gI (t.length+1) (b::t)=_;unfold gI;simp only [h];rw [show(b::t).drop (b::t).length=[]by simp];cases t.length<;>rfl
theorem Gs{r:Nat}(hs:Scalar r):valid (put r)=true:=by unfold valid;rw [QE hs];simp [eK]
theorem wD{k:Nat}{x:Bytes}(a:x≠[]):fj (k+1) x=if(first x).2.2 then([],x)else((first x).1::(fj k (x.drop (first x).2.1)).1,(fj k (x.drop (first x).2.1)).2):=by
 cases x with
 |nil=>exact absurd rfl a
 |cons b r=>rfl
theorem QF{r:Nat}(hs:Scalar r){h:Bytes}{c:UInt8}(e:put r=h++[c]):bG h c=([r],[]):=by have w:=(chars hs).whole;unfold bG;rw [wD an,<-e,w];simp [p8]
theorem rX{h:Bytes}{c:UInt8}(e:(first (h++[c])).2.2=true):bG h c=([],h++[c]):=by unfold bG;rw [wD an,aE e]
def nP(p:Bytes):Prop:=p=[]\/p=[27]
theorem Gt{p x:Bytes}(h:nP p)(a:x.head? ≠some 27):at' (p++x)=p.length:=by
 rcases h with rfl|rfl
 .cases x with
  |nil=>rfl
  |cons b r =>
   simp only [List.head?_cons,ne_eq,a6]at a;simp [at',a]
 .simp [at']
theorem wE(p x:Bytes):(p++x).drop p.length=x:= an
theorem AM{r:Nat}(hs:Scalar r){p h:Bytes}(ae:nP p){c:UInt8}(e:put r=h++[c])(a:(put r).head? ≠some 27){nx:gE}(no:bq->bq×List aP):eZ ⟨nx,p++h,h,[]⟩ c no=(zero,[dq r (2*p.length)]):=by
 have f:h.head? ≠some 27:=by
  cases h with
  |nil=>simp
  |cons b t=>rw [e]at a;simpa using a
 have d:at' (p++h)=p.length:=Gt ae f;unfold eZ;simp only [QF hs e,d];rw [ap an,aE (.inr (by rw [wE,<-e];exact Gs hs)),ik,wE,<-e,aE (Gs hs)];rfl
theorem s8{p h:Bytes}{c:UInt8}(e:(first (h++[c])).2.2=true){nx:gE}(no:bq->bq×List aP):eZ ⟨nx,p++h,h,[]⟩ c no=(⟨.cd,p++(h++[c]),h++[c],[]⟩,[]):=by unfold eZ;simp only [rX e];rw [aE an,ik]
theorem Gu{r:Nat}(hs:Scalar r){p:Bytes}(ae:nP p)(a:(put r).head? ≠some 27):∀(t h:Bytes),put r=h++t->h≠[]->t≠[]->bY ⟨.cd,p++h,h,[]⟩ t=(zero,[dq r (2*p.length)])
 |[],h,_,_,b=>absurd rfl b
 |[c],h,e,_,_=>by rw [Gn];show eZ ⟨.cd,p++h,h,[]⟩ c (λs1=>bad s1 c)=_;exact AM hs ae e a _
 |c ::d::t,h,e,aN,_=>by
  have aI:put r=(h++[c])++(d::t):=by rw [e];simp
  have o:(first (h++[c])).2.2=true:=by
   have:=(chars hs).parts (h++[c]).length an (by rw [aI];simp)
   rwa [aI,List.take_left]at this
  have e7:step ⟨.cd,p++h,h,[]⟩ c=(⟨.cd,p++(h++[c]),h++[c],[]⟩,[]):=by show eZ ⟨.cd,p++h,h,[]⟩ c (λs1=>bad s1 c)=_;exact s8 o _
  rw [bY,e7];simp only [eg];rw [Gu hs ae a (d::t) (h++[c]) aI an an]
theorem QG{r:Nat}(hs:Scalar r){p:Bytes}(ae:nP p)(k:32<=r)(j:r≠127){nx:gE}(no:bq->bq×List aP){c:UInt8}{t:Bytes}(e:put r=c::t) :
 bY (eZ ⟨nx,p,[],[]⟩ c no).1 t=(zero,if t=[]then []else [dq r (2*p.length)])/\(eZ ⟨nx,p,[],[]⟩ c no).2=(if t=[]then [dq r (2*p.length)]else [])/\32<=c.toNat/\c.toNat≠127/\(t≠[]->128<=c.toNat)/\(t=[]->c=u8 r/\r<128):=by
 have al : 32<=c.toNat/\c.toNat≠127/\(t≠[]->128<=c.toNat)/\(t=[]->c=u8 r/\r<128):=by
  by_cases a:t=[]
  .subst a
   have i:r<128:=by
    rcases gg r 128 with h|h
    .exact h
    .exfalso;have b:(put r).length=1:=by rw [e];rfl
     rcases gg r 2048 with h2|h2
     .rw [qc h h2]at b;simp at b
     .rcases gg r 65536 with f|f
      .rw [qd hs h2 f]at b;simp at b
      .rw [qe hs f]at b;simp at b
   rw [l8 i]at e;simp only [fT,h0]at e;subst e;rw [j7 V];exact⟨k,j,λh=>absurd rfl h,λ_=>⟨rfl,i⟩⟩
  .have aa:1<(put r).length:=by rw [e];simp only [b'];have:=fS.2 a;omega
   have:=(chars hs).QC aa c (by rw [e];simp);exact⟨V,V,λ_=>this,λh=>absurd h a⟩
 have g:(put r).head? ≠some 27:=by rw [e];intro q;simp only [List.head?_cons,a6]at q;subst q;exact absurd al.1 aA
 have d:p=p++[]:= an;refine⟨?_,?_,al⟩
 .by_cases a:t=[]
  .subst a;have:=AM hs ae (h:=[]) (by simpa using e) g (nx:=nx) no;rw [<-d]at this;rw [this];rfl
  .have o:(first ([]++[c])).2.2=true:=by have:=(chars hs).parts 1 aA (by rw [e];simp only [b'];have:=fS.2 a;omega);rw [e]at this;simpa using this
   have:=s8 (p:=p) (h:=[]) o (nx:=nx) no;rw [<-d]at this;rw [this,ap a];exact Gu hs ae g t _ (by simpa using e) an a
 .by_cases a:t=[]
  .subst a;have:=AM hs ae (h:=[]) (by simpa using e) g (nx:=nx) no;rw [<-d]at this;rw [this];rfl
  .have o:(first ([]++[c])).2.2=true:=by have:=(chars hs).parts 1 aA (by rw [e];simp only [b'];have:=fS.2 a;omega);rw [e]at this;simpa using this
   have:=s8 (p:=p) (h:=[]) o (nx:=nx) no;rw [<-d]at this;rw [this,ap a]
end Go.Keys
namespace Go.Proofs.YtddnafghiejcoaaGreatDoor
open Go.bh Go.Keys Go.Lib
set_option maxRecDepth 1000000
end Go.Proofs.YtddnafghiejcoaaGreatDoor
namespace Go.Proofs.YtddnafghiejcoaaGreatDoor
open Go.bh Go.Keys
set_option maxRecDepth 1000000
abbrev cV(k c m x y:Int)(t:Bytes):J:= .agg [.int .i8 k,.int .i32 c,.int .u8 m,.int .i64 x,.int .i64 y,.str t]
end Go.Proofs.YtddnafghiejcoaaGreatDoor
namespace Go.Keys
open Go.Lib
theorem QH{w:Bytes}(h:h' w=true):w.all digit=true/\number w=200:=by
 unfold h' at h;simp only [fI,cS,kh]at h;rcases h with h|⟨h,_⟩
 .subst h;decide
 .have e:∀w:Bytes,(w.dropWhile (· == 48)).all digit=true->w.all digit=true/\number w=number (w.dropWhile (· == 48)):=by
   intro w;induction w with
   |nil=>intro _;exact⟨rfl,rfl⟩
   |cons b r ih =>
    intro d;by_cases f:b=48
    .subst f;have aI:(48::r).dropWhile (· == (48:UInt8))=r.dropWhile (· == 48):=by simp [List.dropWhile]
     rw [aI]at d⊢;obtain⟨a,c⟩:=ih d;refine⟨by simp only [hY,a,Bool.and_true];decide,?_⟩;rw [<-c];rfl
    .have aI:(b::r).dropWhile (· == (48:UInt8))=b::r:=by rw [List.dropWhile_cons,ap (by simpa using f)]
     rw [aI]at d⊢;exact⟨d,rfl⟩
  have:=e w (by rw [h];decide);rw [h]at this;exact⟨this.1,by rw [this.2];decide⟩
theorem QI(s:Bytes):bY zero (27::s)=bY ⟨.cH,[27],[],[]⟩ s:=by rw [bY];show(_,[]++_)=_;rw [eg];rfl
end Go.Keys
namespace Go.Keys
def Div(x:Bytes):Prop:= ¬x <+: c6/\¬c6 <+: x
theorem wF{x:Bytes}(h:Div x)(t:Bytes):Div (x++t):=by
 refine⟨λq=>h.1 ((tF x t).trans q),λq=> ?_⟩;rcases List.prefix_append_right_inj x |>.1 (List.prefix_refl _)with _
 rcases Nat.le_total x.length c6.length with a|a
 .exact h.1 (List.prefix_of_prefix_length_le (tF x t) q a)
 .exact h.2 (List.prefix_of_prefix_length_le q (tF x t) a)
theorem QJ(P:Bytes)(b:UInt8)(M:Nat):(P++[b]).take M=if(P.take M).length<M then P.take M++[b]else P.take M:=by
 rw [kl];split
 .rename_i h;rw [qZ,kX (l:=[b]) (by simp;omega)]
 .rename_i h;rw [qZ,show M-P.length=0 by omega];simp
theorem QK(P x:Bytes):(P++x).drop P.length=x:= an
theorem Gv:∀(n:Nat)(k P:Bytes),k.length<=n->k.length<=6->(∀i,i<P.length->Div ((P++k).drop i)) ->
 ∃c,c++(shift n k (P.take 65536)).1=P++k/\(shift n k (P.take 65536)).2=c.take 65536/\(shift n k (P.take 65536)).1 <+: c6/\∀i,i<c.length->Div ((P++k).drop i)
 |0,k,P,h,_,a=>by have:k=[]:=mI V;subst this;exact⟨P,by simp [shift],by simp [shift],by simp [shift],a⟩
 |n+1,[],P,h,_,a=>⟨P,by simp [shift],by simp [shift],by simp [shift],a⟩
 |n + 1,b::r,P,h,d,a=>by
  rw [shift];split
  .rename_i ae;exact⟨P,rfl,rfl,kk.1 ae,a⟩
  .rename_i ae;rw [<-QJ];have e:P++b::r=(P++[b])++r:= an;rw [e]
   have hdiv:Div (b::r):=by refine⟨λq=>ae (kk.2 q),λq=> ?_⟩;have:=q.eq_of_length_le (by simpa [c6]using d);exact ae (kk.2 (by rw [this];exact List.prefix_refl _))
   refine Gv n r (P++[b]) (by simp only [b']at h;omega) (by simp only [b']at d;omega) λi ah=> ?_
   rw [<-e];simp only [dt,b',dx]at ah;rcases gg i P.length with aa|aa
   .exact a i aa
   .rw [show i=P.length by omega,QK];exact hdiv
structure lr(S P:Bytes)(s:bq):Prop where
 nx:s.nx=.cb
 ax:s.ax=[]
 all:S=P++s.ai
 aw:s.aw=P.take 65536
 short:s.ai.length<6
 pre:s.ai <+: c6
 div:∀i,i<P.length->Div (S.drop i)
def hP(t:Bytes):aP:=⟨4,0,0,0,0,t⟩
theorem QL{S P:Bytes}{s:bq}(h:lr S P s)(c:UInt8) :
 ((step s c).2=[]/\∃a,lr (S++[c]) a (step s c).1)\/(∃a,S++[c]=a++c6/\step s c=(zero,[hP (a.take 65536)])/\∀i,i<a.length->Div ((S++[c]).drop i)):=by
 obtain⟨nx,ai,ax,aw⟩:=s;obtain⟨aa,h2,b,d,g,j,l⟩:=h;simp only at aa h2 b d g j;subst aa h2 b d;have e:P++ai++[c]=P++(ai++[c]):= an
 have k:=Gv (ai.length+1) (ai++[c]) P an (by simp;omega) λi ah=>by rw [<-e,mJ (by simp;omega)];exact wF (l i ah) _
 obtain⟨a,ao,a2,a3,a4⟩:=k;show((cb _ c).2=[]/\∃a,lr _ a (cb _ c).1)\/(∃a,_/\cb _ c=_/\_);unfold cb;simp only;split
 .rename_i f;refine .inr ⟨a,?_,?_,?_⟩
  .rw [e,<-ao]
   congr 1
   exact a3.eq_of_length_le (by rw [f];decide)
  .rw [a2];rfl
  .rw [e];exact a4
 .rename_i f;have hlen:=a3.length_le;have m:c6.length=6:=rfl;refine .inl ⟨rfl,a,rfl,rfl,by rw [e,<-ao],a2,by show(shift _ _ _).1.length<6;omega,a3,by rw [e];exact a4⟩
theorem QM:Good zero:=⟨rfl,rfl,rfl⟩
end Go.Keys
namespace Go.Proofs.YtddnafghiejcoaaGreatDoor
open Go.bh Go.Keys
set_option maxRecDepth 1000000
open Go.Shelf
end Go.Proofs.YtddnafghiejcoaaGreatDoor
namespace Go.Keys
end Go.Keys
namespace Go.Proofs.YtddnafghiejcoaaGreatDoor
open Go.bh Go.Keys
set_option maxRecDepth 1000000
end Go.Proofs.YtddnafghiejcoaaGreatDoor
namespace Go.Keys
open Go.Lib
end Go.Keys
namespace Go.Proofs
open Go.Shelf
end Go.Proofs
namespace Go.Keys
end Go.Keys
namespace Go.Proofs.YtddnafghiejcoaaGreatDoor
open Go.bh Go.Keys Go.RowKit
set_option maxRecDepth 1000000
end Go.Proofs.YtddnafghiejcoaaGreatDoor
namespace Go.Proofs.YtddnafghiejcoaaGreatDoor
open Go.bh Go.Keys Go.Lib
set_option maxRecDepth 1000000
end Go.Proofs.YtddnafghiejcoaaGreatDoor
namespace Go.Proofs
open Go.Shelf
end Go.Proofs
namespace Go.Proofs.YtddnafghiejcoaaGreatDoor
open Go.bh Go.RowKit
set_option maxRecDepth 1000000
end Go.Proofs.YtddnafghiejcoaaGreatDoor
namespace Go.Proofs.YtddnafghiejcoaaGreatDoor
open Go.bh Go.Keys
set_option maxRecDepth 1000000
open Go.Lib
end Go.Proofs.YtddnafghiejcoaaGreatDoor
namespace Go.Proofs.YtddnafghiejcoaaGreatDoor
open Go.bh Go.Keys
set_option maxRecDepth 1000000
open Go.Lib
end Go.Proofs.YtddnafghiejcoaaGreatDoor
namespace Go.Proofs.YtddnafghiejcoaaGreatDoor
open Go.bh Go.Keys
set_option maxRecDepth 1000000
open Go.Lib
def wG(i:Nat):aP:=if i=13 then⟨2,1,0,0,0,[]⟩else if i=9 then⟨2,2,0,0,0,[]⟩else if i=0 then⟨1,32,4,0,0,[]⟩else if i<=26 then⟨1,96+i,4,0,0,[]⟩else⟨1,64+i,4,0,0,[]⟩
noncomputable def Gw(i:Nat):Bool:=match nd Tryz.prog env 100 62 [.int .u8 (i:Nat)] ⟨0,.nil⟩with
 |some (v,_)=>J.iW [v] [bi (wG i)]
 |none=>false
theorem QN:∀i:Fin 32,Gw i.val=true:=by decide+kernel
theorem QO{i:Nat}(ah:i<32)(H:T):bu 62 [.int .u8 (i:Nat)] H (bi (wG i)) H:=by
 have h:=QN ⟨i,ah⟩;unfold Gw at h;simp only at h;split at h
 .rename_i v ad b;have:=J.mX h;simp only [fT,h0]at this;subst this;rw [rI]at b;exact(bl.pP cP mixed b).bare (by intro a c;rw [cC.1 c];exact ci.int _ _) (ci.of rfl) H
 .cases h
abbrev o2(aD ah n c' cL off:Int):J:= .agg [.int .i64 aD,.int .i64 ah,.int .i64 n,.int .i64 c',.int .i64 cL,.int .i64 off]
abbrev js(c a e d b f:Int):J:=J.agg [.int .i64 c,.int .i64 a,.int .i64 e,.int .i64 d,.int .i64 b,.int .i64 f]
theorem Gx(a:Nat)(c:Bytes)(j i g f d k b:Int)(h:bW->a8->T->Prop)(m:((a:Int)<g->((a:Int)<(↑c.length:Int)->c8 env.D 9 (.str c) (.int .i64 (a:Int))=some (.int .u8 b)/\(-9223372036854775808<=b/\b<=9223372036854775807)/\((a:Int)=1->(b<f->h .ret [(0,.str c),(3,.ptr (ba 0)),(4,.int .i64 (a:Int)),(5,.int .i64 (a:Int))] (T.af 65 [(0,ac.aj [(js j i g f d k)] 6 true (some (120,6)))]))/\(¬b<f->(d<b->h .ret [(0,.str c),(3,.ptr (ba 0)),(4,.int .i64 (a:Int)),(5,.int .i64 (a:Int))] (T.af 65 [(0,ac.aj [(js j i g f d k)] 6 true (some (120,6)))]))/\(¬d<b->(-9223372036854775808<=(a:Int)+1/\(a:Int)+1<=9223372036854775807)/\h .normal [(0,.str c),(3,.ptr (ba 0)),(5,.int .i64 ((a:Int)+1))] (T.af 66 [(0,ac.aj [(js j i g f d k)] 6 true (some (120,6)))]))))/\(¬(a:Int)=1->(b<128->h .ret [(0,.str c),(3,.ptr (ba 0)),(4,.int .i64 (a:Int)),(5,.int .i64 (a:Int))] (T.af 59 [(0,ac.aj [(js j i g f d k)] 6 true (some (120,6)))]))/\(¬b<128->(191<b->h .ret [(0,.str c),(3,.ptr (ba 0)),(4,.int .i64 (a:Int)),(5,.int .i64 (a:Int))] (T.af 59 [(0,ac.aj [(js j i g f d k)] 6 true (some (120,6)))]))/\(¬191<b->(-9223372036854775808<=(a:Int)+1/\(a:Int)+1<=9223372036854775807)/\h .normal [(0,.str c),(3,.ptr (ba 0)),(5,.int .i64 ((a:Int)+1))] (T.af 60 [(0,ac.aj [(js j i g f d k)] 6 true (some (120,6)))])))))/\(¬(a:Int)<(↑c.length:Int)->h (.exit 0) [(0,.str c),(3,.ptr (ba 0)),(5,.int .i64 (a:Int))] (T.af 40 [(0,ac.aj [(js j i g f d k)] 6 true (some (120,6)))])))/\(¬(a:Int)<g->h (.exit 0) [(0,.str c),(3,.ptr (ba 0)),(5,.int .i64 (a:Int))] (T.af 40 [(0,ac.aj [(js j i g f d k)] 6 true (some (120,6)))]))) :
 ∃e l aa,bR 0 60 (br 80 0) [(0,.str c),(3,.ptr (ba 0)),(5,.int .i64 (a:Nat))] (T.af 30 [(0,ac.aj [o2 j i g f d k] 6 true (some (120,6)))]) e l aa/\h e l aa :=
 di cP mixed bT (hs:= .aq 4003 (.aq 4008 (.ak (.val 5002 (.int .u8 b)) (ag 5003 (.aq 7001 (.aq 9002 .nil (.aq 9006 .nil (ag 11001 .nil))) (.aq 9002 .nil (.aq 9006 .nil (ag 11001 .nil)))))) .nil) .nil) (keep:=[0,3,4,5]) ar m
abbrev nQ(c a e d b f:Int):T:=(T.af 22 [(0,ac.aj [(js c a e d b f)] 6 true (some (120,6)))])
theorem QP(b:Bytes)(d c h g f i a:Int)(j:T)(k:J)(e:bm)(l:((↑b.length:Int)=0->e (.int .i64 0) (nQ d c h g f i))/\(¬(↑b.length:Int)=0->c8 env.D 9 (.str b) (.int .i64 0)=some (.int .u8 a)/\(-9223372036854775808<=a/\a<=9223372036854775807)/\(a<d->e (.int .i64 0) (nQ d c h g f i))/\(¬a<d->c8 env.D 9 (.str b) (.int .i64 0)=some (.int .u8 a)/\(-9223372036854775808<=a/\a<=9223372036854775807)/\(c<a->e (.int .i64 0) (nQ d c h g f i))/\(¬c<a->bR 0 60 (Code.loop (br 80 0)) [(0,.str b),(3,.ptr (ba 0)),(5,.int .i64 1)] (nQ d c h g f i) (.exit 0) [(0,.str b),(3,.ptr (ba 0)),(5,k)] j/\e k (aY j 2))))) :
 bC 80 [.str b,o2 d c h g f i] (⟨0,.nil⟩) e :=
 bI bT (.aq 1002 .nil (.ak (.val 1005 (.int .u8 a)) (ag 1006 (.aq 1009 .nil (.ak (.val 1013 (.int .u8 a)) (ag 1014 (.aq 1017 .nil (.ak (.keep [0,3,5]) (.ak (.loop [(0,.str b),(3,.ptr (ba 0)),(5,k)] j (.exit 0)) .nil))))))))) l
theorem QQ(b:Bytes)(d c h g f i a:Int)(j:T)(l k:J)(e:bm)(m:((↑b.length:Int)=0->e (.int .i64 0) (nQ d c h g f i))/\(¬(↑b.length:Int)=0->c8 env.D 9 (.str b) (.int .i64 0)=some (.int .u8 a)/\(-9223372036854775808<=a/\a<=9223372036854775807)/\(a<d->e (.int .i64 0) (nQ d c h g f i))/\(¬a<d->c8 env.D 9 (.str b) (.int .i64 0)=some (.int .u8 a)/\(-9223372036854775808<=a/\a<=9223372036854775807)/\(c<a->e (.int .i64 0) (nQ d c h g f i))/\(¬c<a->bR 0 60 (Code.loop (br 80 0)) [(0,.str b),(3,.ptr (ba 0)),(5,.int .i64 1)] (nQ d c h g f i) .ret [(0,.str b),(3,.ptr (ba 0)),(4,k),(5,l)] j/\e k j)))) :
 bC 80 [.str b,o2 d c h g f i] (⟨0,.nil⟩) e :=
 bI bT (.aq 1002 .nil (.ak (.val 1005 (.int .u8 a)) (ag 1006 (.aq 1009 .nil (.ak (.val 1013 (.int .u8 a)) (ag 1014 (.aq 1017 .nil (.ak (.keep [0,3,5]) (.ak (.loop [(0,.str b),(3,.ptr (ba 0)),(4,k),(5,l)] j .ret) .nil))))))))) m
theorem Gy(c d:Nat)(f:Bytes)(b a:Int)(g:bW->a8->T->Prop)(i:((c:Int)<(d:Int)->(-9223372036854775808<=b*64/\b*64<=9223372036854775807)/\c8 env.D 9 (.str f) (.int .i64 (c:Int))=some (.int .u8 a)/\(-9223372036854775808<=a/\a<=9223372036854775807)/\(-9223372036854775808<=b*64+a/\b*64+a<=9223372036854775807)/\(-9223372036854775808<=b*64+a-128/\b*64+a-128<=9223372036854775807)/\(-9223372036854775808<=(c:Int)+1/\(c:Int)+1<=9223372036854775807)/\g .normal [(0,.str f),(6,.int .i64 (d:Int)),(7,.int .i64 (b*64+a-128)),(8,.int .i64 ((c:Int)+1))] (T.af 75 []))/\(¬(c:Int)<(d:Int)->g (.exit 2) [(0,.str f),(6,.int .i64 (d:Int)),(7,.int .i64 b),(8,.int .i64 (c:Int))] (T.af 63 []))) :
 ∃e h aa,bR 0 60 (br 52 1) [(0,.str f),(6,.int .i64 (d:Nat)),(7,.int .i64 b),(8,.int .i64 (c:Nat))] (T.af 60 []) e h aa/\g e h aa :=
 di cP mixed bT (hs:= .aq 13002 (ag 15001 (.ak (.val 15004 (.int .u8 a)) (ag 15005 (ag 15006 (ag 15007 (ag 14001 .nil)))))) .nil) (keep:=[0,6,7,8]) ar i
structure en where
 aD:Nat
 ah:Nat
 n:Nat
 c':Nat
 cL:Nat
 off:Nat
def en.v(r:en):J:=o2 r.aD r.ah r.n r.c' r.cL r.off
def da:List en:=[⟨0,127,1,0,0,0⟩,⟨194,223,2,128,191,192⟩,⟨224,224,3,160,191,224⟩,⟨225,236,3,128,191,224⟩,⟨238,239,3,128,191,224⟩,⟨237,237,3,128,159,224⟩,⟨240,240,4,144,191,240⟩,⟨241,243,4,128,191,240⟩,⟨244,244,4,128,143,240⟩]
def bP(s:Bytes)(k:Nat):Nat:=(s.getD k 0).toNat
def my(s:Bytes)(r:en)(k:Nat):Bool:=_root_.cond (Nat.beq k 1) (Nat.blt (bP s k) r.c' || Nat.blt r.cL (bP s k)) (Nat.blt (bP s k) 128 || Nat.blt 191 (bP s k))
def fo(s:Bytes)(r:en):Nat->Nat->Nat
 |0,k=>k
 |t+1,k=>if k<r.n/\k<s.length then if my s r k=true then k else fo s r t (k+1)else k
def db(s:Bytes)(r:en):Nat:=if s.length=0\/bP s 0<r.aD\/r.ah<bP s 0 then 0 else fo s r 4 1
theorem jt{s:Bytes}{k:Nat}(h:k<s.length):c8 (a'.D env) 9 (.str s) (.int .i64 (k:Nat))=some (.int .u8 (bP s k:Nat)):=by have a:(a'.D env 9).map (λd=>d.kind)=some .string:= ar;obtain⟨x,aa,h2⟩:=b4.1 a;unfold c8;rw [aa];simp only [h2];rw [aE V,fU,c7 h];simp [bP,h]
theorem nR(s:Bytes)(k:Nat):bP s k<256:=(s.getD k 0).toNat_lt
abbrev nS(s:Bytes)(v:J):a8:=[(0,.str s),(3,.ptr (some ⟨0,0,0,0,6⟩)),(5,v)]
abbrev kM(r:en):ac:=ac.aj [r.v] 6 true (some (120,6))
theorem wH(r:en)(s:Bytes)(i:Int)(h:T)(ag:h.get 0=some (kM r)):b5 0 60 (nS s (.int .i64 i)) h (nS s (.int .i64 i)) (T.af 30 [(0,kM r)]):=by
 have aI:T.rows 30 [(0,kM r)]=T.af 30 [(0,kM r)]:= ar;rw [<-aI]
 exact b5.drop (K:=30) (l:=[(0,kM r)]) (by simp only [eF,jE,ag]) (by rfl) (by rfl) (by rfl) (a7.cons trivial (a7.cons (by simp [bQ,Go.bh.bO]) (a7.cons trivial a7.nil))) (a7.cons (by
  intro e he;obtain rfl:e=r.v:=by simpa [ac.aj]using he
  exact(ci.of rfl).dh _) a7.nil)
def Gz(r:en)(s:Bytes)(k q:Nat):Prop:= ∃H',
 dl 0 60 (br 80 0) (nS s (.int .i64 (k:Nat))) (T.af 30 [(0,kM r)]) (.exit 0) (nS s (.int .i64 (q:Nat))) H' \/
 ∃x,dl 0 60 (br 80 0) (nS s (.int .i64 (k:Nat))) (T.af 30 [(0,kM r)]) .ret [(0,.str s),(3,.ptr (some ⟨0,0,0,0,6⟩)),(4,.int .i64 (q:Nat)),(5,x)] H'
theorem QR(r:en)(s:Bytes)(az:r.n<=4):∀(t k:Nat),4-k<=t->1<=k->k<=4->Gz r s k (fo s r t k):=by
 have fin:∀k,k<=4-> ¬(k<r.n/\k<s.length)->Gz r s k k:=by intro k p h;obtain⟨e,a,aa,b,rfl,rfl⟩:=Gx k s r.aD r.ah r.n r.c' r.cL r.off 0 (λe a aa=>e=.exit 0/\a=nS s (.int .i64 (k:Nat))) ⟨λaa=>⟨λh2=>absurd ⟨V,V⟩ h,λ_=>⟨rfl,rfl⟩⟩,λ_=>⟨rfl,rfl⟩⟩;exact⟨_,.inl (bX.last an b)⟩
 intro t;induction t with
 |zero=>intro k aa h2 d;exact fin k d V
 |succ t ih =>
  intro k aa h2 d;unfold fo;by_cases al:k<r.n/\k<s.length
  .rw [aE al];have u:=nR s k;have m:((k:Int)+1)=((k+1:Nat):Int):= V
   have l:∃e a aa,bR 0 60 (br 80 0) (nS s (.int .i64 (k:Nat))) (T.af 30 [(0,kM r)]) e a aa/\((my s r k=false/\e=.normal/\a=nS s (.int .i64 ((k:Int)+1))/\aa.get 0=some (kM r))\/(my s r k=true/\e=.ret/\a=[(0,.str s),(3,.ptr (some ⟨0,0,0,0,6⟩)),(4,.int .i64 (k:Nat)),(5,.int .i64 (k:Nat))])):=by
    have c:(k=1/\(bP s k<r.c'\/r.cL<bP s k)\/k≠1/\(bP s k<128\/191<bP s k))->my s r k=true:=by
     intro h;unfold my;rcases h with ⟨h,q⟩|⟨h,q⟩
     .rw [show Nat.beq k 1=true by rw [iT];exact h];simpa [eH]using q
     .rw [show Nat.beq k 1=false by rw [kZ];intro e;exact h (by rwa [iT]at e)];simpa [eH]using q
    have i:¬(k=1/\(bP s k<r.c'\/r.cL<bP s k)\/k≠1/\(bP s k<128\/191<bP s k))->my s r k=false:=by
     intro h;rw [kZ];intro q;apply h;unfold my at q;by_cases e:k=1
     .rw [show Nat.beq k 1=true by rw [iT];exact e]at q;exact .inl ⟨e,by simpa [eH]using q⟩
     .rw [show Nat.beq k 1=false by rw [kZ];intro e';exact e (by rwa [iT]at e')]at q;exact .inr ⟨e,by simpa [eH]using q⟩
    exact Gx k s r.aD r.ah r.n r.c' r.cL r.off (bP s k:Nat) _
     ⟨λ_=>⟨λ_=>⟨jt al.2,⟨V,V⟩,
      λe=>⟨λq=> .inr ⟨c V,rfl,rfl⟩,λcq=>⟨λq=> .inr ⟨c V,rfl,rfl⟩,λcn=>⟨⟨V,V⟩,.inl ⟨i V,rfl,rfl,rfl⟩⟩⟩⟩,
      λe=>⟨λq=> .inr ⟨c V,rfl,rfl⟩,λcq=>⟨λq=> .inr ⟨c V,rfl,rfl⟩,λcn=>⟨⟨V,V⟩,.inl ⟨i V,rfl,rfl,rfl⟩⟩⟩⟩⟩,λh=>absurd V h⟩,λh=>absurd V h⟩
   obtain⟨e,a,o,b,⟨g,rfl,rfl,ag⟩|⟨g,rfl,rfl⟩⟩:=l
   .rw [g,ap aA];obtain⟨H',j⟩:=ih (k+1) V V V;rw [m]at b;rcases j with f|⟨x,f⟩
    .exact⟨H',.inl (bX.round b (wH r s _ _ ag) f)⟩
    .exact⟨H',.inr ⟨x,bX.round b (wH r s _ _ ag) f⟩⟩
   .rw [g,aE rfl];exact⟨_,.inr ⟨_,bX.last an b⟩⟩
  .rw [ap al];exact fin k d al
theorem GA(r:en)(s:Bytes)(az:r.n<=4)(H:T):bu 80 [.str s,r.v] H (.int .i64 (db s r:Nat)) H:=by
 have fin:(∃v aa,bu 80 [.str s,o2 r.aD r.ah r.n r.c' r.cL r.off] ⟨0,.nil⟩ v aa/\v=.int .i64 (db s r:Nat))->bu 80 [.str s,r.v] H (.int .i64 (db s r:Nat)) H:=λh=>bl.cm h rfl rfl H
 refine fin ?_;have d:=nR s 0;have z:(s.length=0\/bP s 0<r.aD\/r.ah<bP s 0)->(J.int .i64 0:J)=.int .i64 (db s r:Nat):=by intro h;unfold db;rw [aE h];rfl
 have c:¬(s.length=0\/bP s 0<r.aD\/r.ah<bP s 0)->db s r=fo s r 4 1:=by intro h;unfold db;rw [ap h]
 have a0:¬((s.length:Nat):Int)=0->c8 (a'.D env) 9 (.str s) (.int .i64 0)=some (.int .u8 (bP s 0:Nat)):=λh=>jt (k:=0) V
 obtain⟨H',b|⟨x,b⟩⟩:=QR r s az 4 1 V V V
 .have a:=(cZ.dJ b).pre (show b5 0 60 _ (T.af 22 [(0,kM r)]) _ _ from wH r s 1 _ rfl)
  exact QP s r.aD r.ah r.n r.c' r.cL r.off (bP s 0:Nat) H' _ (λv _=>v=.int .i64 (db s r:Nat))
   ⟨λh=>z V,λh=>⟨a0 h,⟨V,V⟩,λq=>z V,λcq=>⟨a0 h,⟨V,V⟩,λq=>z V,λcn=>⟨a,by rw [c V]⟩⟩⟩⟩
 .have a:=(cZ.dJ b).pre (show b5 0 60 _ (T.af 22 [(0,kM r)]) _ _ from wH r s 1 _ rfl)
  exact QQ s r.aD r.ah r.n r.c' r.cL r.off (bP s 0:Nat) H' x _ (λv _=>v=.int .i64 (db s r:Nat))
   ⟨λh=>z V,λh=>⟨a0 h,⟨V,V⟩,λq=>z V,λcq=>⟨a0 h,⟨V,V⟩,λq=>z V,λcn=>⟨a,by rw [c V]⟩⟩⟩⟩
theorem GB(a b:Nat)(d:Bytes)(c:ac)(n l h o m f g j:Int)(q:J)(k:T)(i:bW->a8->T->Prop)(r:((a:Int)<9->(0<=(a:Int)/\(a:Int)<9)/\a1 env.D 120 ⟨17,0,0+Int.toNat (a:Int),0,6⟩ (T.af 71 [(17,c)])=some ((js n l h o m f))/\bM 80 [.str d,(js n l h o m f)] (T.af 71 [(17,c)]) (.int .i64 (b:Int)) (T.af 71 [(17,c)])/\((b:Int)=0->(-9223372036854775808<=(a:Int)+1/\(a:Int)+1<=9223372036854775807)/\i .normal [(0,.str d),(4,.slice (ba 17) 9 9),(5,.int .i64 ((a:Int)+1))] (T.af 76 [(17,c)]))/\(¬(b:Int)=0->(0<=(a:Int)/\(a:Int)<9)/\a1 env.D 3 ⟨17,0,0+Int.toNat (a:Int),2,6⟩ (T.af 80 [(17,c)])=some (.int .i64 h)/\((b:Int)<h->i .ret [(0,.str d),(2,.int .i32 65533),(3,.int .i64 (b:Int)),(4,.slice (ba 17) 9 9),(5,.int .i64 (a:Int))] (T.af 83 [(17,c)]))/\(¬(b:Int)<h->c8 env.D 9 (.str d) (.int .i64 0)=some (.int .u8 g)/\(-9223372036854775808<=g/\g<=9223372036854775807)/\(0<=(a:Int)/\(a:Int)<9)/\a1 env.D 3 ⟨17,0,0+Int.toNat (a:Int),5,6⟩ (T.af 90 [(17,c)])=some (.int .i64 f)/\(-9223372036854775808<=g-f/\g-f<=9223372036854775807)/\bR 0 60 (Code.loop (br 52 1)) [(0,.str d),(6,.int .i64 (b:Int)),(7,.int .i64 (g-f)),(8,.int .i64 1)] (T.af 91 [(17,c)]) (.exit 2) [(0,.str d),(6,.int .i64 (b:Int)),(7,.int .i64 j),(8,q)] k/\(-2147483648<=j/\j<=2147483647)/\i .ret [(0,.str d),(2,.int .i32 j),(3,.int .i64 (b:Int))] (aY k 5))))/\(¬(a:Int)<9->i (.exit 0) [(0,.str d),(4,.slice (ba 17) 9 9),(5,.int .i64 (a:Int))] (T.af 64 [(17,c)]))) :
 ∃e p aa,bR 0 60 (br 52 0) [(0,.str d),(4,.slice (ba 17) 9 9),(5,.int .i64 (a:Nat))] (T.af 60 [(17,c)]) e p aa/\i e p aa :=
 di cP mixed bT (hs:= .aq 5003 (ag 7003 (.ak (.val 7004 (o2 n l h o m f)) (.ak (.val 7005 (.int .i64 (b:Int))) (.aq 8001 (ag 6001 .nil) (ag 9003 (.ak (.val 9005 (.int .i64 h)) (.aq 9006 .nil (.ak (.val 11001 (.int .u8 g)) (ag 11002 (ag 11005 (.ak (.val 11007 (.int .i64 f)) (ag 11008 (.ak (.keep [0,6,7,8]) (.ak (.loop [(0,.str d),(6,.int .i64 (b:Int)),(7,.int .i64 j),(8,q)] k (.exit 2)) (ag 16001 .nil))))))))))))))) .nil) (keep:=[0,2,3,4,5]) ar r
theorem QS(a:Bytes)(b:T)(d:J)(c:bm)(e:((↑a.length:Int)=0->c (.tuple [.int .i32 0,.int .i64 0]) (T.af 7 []))/\(¬(↑a.length:Int)=0->bR 0 60 (Code.loop (br 52 0)) [(0,.str a),(4,.slice (ba 17) 9 9),(5,.int .i64 0)] (T.af 20 [(17,ac.aj [.agg [.int .i64 0,.int .i64 127,.int .i64 1,.int .i64 0,.int .i64 0,.int .i64 0],.agg [.int .i64 194,.int .i64 223,.int .i64 2,.int .i64 128,.int .i64 191,.int .i64 192],.agg [.int .i64 224,.int .i64 224,.int .i64 3,.int .i64 160,.int .i64 191,.int .i64 224],.agg [.int .i64 225,.int .i64 236,.int .i64 3,.int .i64 128,.int .i64 191,.int .i64 224],.agg [.int .i64 238,.int .i64 239,.int .i64 3,.int .i64 128,.int .i64 191,.int .i64 224],.agg [.int .i64 237,.int .i64 237,.int .i64 3,.int .i64 128,.int .i64 159,.int .i64 224],.agg [.int .i64 240,.int .i64 240,.int .i64 4,.int .i64 144,.int .i64 191,.int .i64 240],.agg [.int .i64 241,.int .i64 243,.int .i64 4,.int .i64 128,.int .i64 191,.int .i64 240],.agg [.int .i64 244,.int .i64 244,.int .i64 4,.int .i64 128,.int .i64 143,.int .i64 240]] 6 true)]) (.exit 0) [(0,.str a),(4,.slice (ba 17) 9 9),(5,d)] b/\c (.tuple [.int .i32 65533,.int .i64 1]) (aY b 2))) :
 bC 52 [.str a] (⟨0,.nil⟩) c :=
 bI bT (.aq 1002 .nil (he 3000 (.ak (.keep [0,4,5]) (.ak (.loop [(0,.str a),(4,.slice (ba 17) 9 9),(5,d)] b (.exit 0)) .nil)))) e
theorem QT(a:Bytes)(b:T)(d e:J)(c:bm)(f:((↑a.length:Int)=0->c (.tuple [.int .i32 0,.int .i64 0]) (T.af 7 []))/\(¬(↑a.length:Int)=0->bR 0 60 (Code.loop (br 52 0)) [(0,.str a),(4,.slice (ba 17) 9 9),(5,.int .i64 0)] (T.af 20 [(17,ac.aj [.agg [.int .i64 0,.int .i64 127,.int .i64 1,.int .i64 0,.int .i64 0,.int .i64 0],.agg [.int .i64 194,.int .i64 223,.int .i64 2,.int .i64 128,.int .i64 191,.int .i64 192],.agg [.int .i64 224,.int .i64 224,.int .i64 3,.int .i64 160,.int .i64 191,.int .i64 224],.agg [.int .i64 225,.int .i64 236,.int .i64 3,.int .i64 128,.int .i64 191,.int .i64 224],.agg [.int .i64 238,.int .i64 239,.int .i64 3,.int .i64 128,.int .i64 191,.int .i64 224],.agg [.int .i64 237,.int .i64 237,.int .i64 3,.int .i64 128,.int .i64 159,.int .i64 224],.agg [.int .i64 240,.int .i64 240,.int .i64 4,.int .i64 144,.int .i64 191,.int .i64 240],.agg [.int .i64 241,.int .i64 243,.int .i64 4,.int .i64 128,.int .i64 191,.int .i64 240],.agg [.int .i64 244,.int .i64 244,.int .i64 4,.int .i64 128,.int .i64 143,.int .i64 240]] 6 true)]) .ret [(0,.str a),(2,d),(3,e)] b/\c (.tuple [d,e]) b)) :
 bC 52 [.str a] (⟨0,.nil⟩) c :=
 bI bT (.aq 1002 .nil (he 3000 (.ak (.keep [0,4,5]) (.ak (.loop [(0,.str a),(2,d),(3,e)] b .ret) .nil)))) f
def hQ(s:Bytes)(k:Nat):Nat->Nat->Int->Int
 |0,_,n=>n
 |t+1,j,n=>if j<k then hQ s k t (j+1) (n*64+bP s j-128)else n
def nT:Nat->Int
 |1=>256
 |2=>16512
 |3=>1056896
 |_=>67641472
abbrev nU(s:Bytes)(k:Nat)(n v:J):a8:=[(0,.str s),(6,.int .i64 (k:Nat)),(7,n),(8,v)]
theorem GC(k:Nat)(s:Bytes)(n i:Int)(h:T):b5 0 60 (nU s k (.int .i64 n) (.int .i64 i)) h (nU s k (.int .i64 n) (.int .i64 i)) (T.af 60 []):=by have aI:T.rows 60 []=T.af 60 []:= ar;rw [<-aI];exact b5.drop (K:=60) (l:=[]) rfl (by rfl) (by rfl) (by rfl) (a7.cons trivial (a7.cons trivial (a7.cons trivial (a7.cons trivial a7.nil)))) a7.nil
theorem GD(j:Nat):nT j<=67641472:=by unfold nT;split<;>decide
theorem QU(s:Bytes)(k:Nat)(o:k<=s.length)(i:k<=4):∀(t j:Nat)(n:Int),4-j<=t->1<=j->j<=4-> -nT j<=n->n<=nT j-> ∃y H',dl 0 60 (br 52 1) (nU s k (.int .i64 n) (.int .i64 (j:Nat))) (T.af 60 []) (.exit 2) (nU s k (.int .i64 (hQ s k t j n)) y) H'/\ -67641472<=hQ s k t j n/\hQ s k t j n<=67641472:=by
 have fin:∀(j:Nat)(n:Int),¬j<k-> -nT j<=n->n<=nT j-> ∃y H',dl 0 60 (br 52 1) (nU s k (.int .i64 n) (.int .i64 (j:Nat))) (T.af 60 []) (.exit 2) (nU s k (.int .i64 n) y) H'/\ -67641472<=n/\n<=67641472:=by intro j n h aH b2;have:=GD j;obtain⟨e,a,aa,b,rfl,rfl⟩:=Gy j k s n 0 (λe a aa=>e=.exit 2/\a=nU s k (.int .i64 n) (.int .i64 (j:Nat))) ⟨λaa=>absurd V h,λ_=>⟨rfl,rfl⟩⟩;exact⟨_,_,bX.last an b,V,V⟩
 intro t;induction t with
 |zero=>intro j n aa h2 c aH b2;exact fin j n V aH b2
 |succ t ih =>
  intro j n aa h2 c aH b2;unfold hQ;by_cases al:j<k
  .rw [aE al];have l:=nR s j;have m:=GD j;have f:((j:Int)+1)=((j+1:Nat):Int):= V
   have p:64*nT j+128<=nT (j+1):=by have:j=1\/j=2\/j=3:= V;rcases this with rfl|rfl|rfl<;>decide
   obtain⟨e,a,g,b,rfl,rfl⟩:=Gy j k s n (bP s j:Nat) (λe a aa=>e=.normal/\a=nU s k (.int .i64 (n*64+bP s j-128)) (.int .i64 ((j:Int)+1))) ⟨λ_=>⟨⟨V,V⟩,jt V,⟨V,V⟩,⟨V,V⟩,⟨V,V⟩,⟨V,V⟩,rfl,rfl⟩,λh=>absurd V h⟩;obtain⟨y,H',d,cq,cn⟩:=ih (j+1) (n*64+bP s j-128) V V V V V;rw [f]at b;exact⟨y,H',bX.round b (GC k s _ _ _) d,cq,cn⟩
  .rw [ap al];exact fin j n al aH b2
def ga(s:Bytes):List en->Int×Int
 |[]=>(65533,1)
 |r::l=>if db s r=0 then ga s l else if db s r<r.n then(65533,(db s r:Nat))else(hQ s (db s r) 3 1 ((bP s 0:Nat)- (r.off:Nat)),(db s r:Nat))
theorem AN(s:Bytes)(r:en)(M:Nat)(a:r.n<=M\/s.length<=M):∀(t k:Nat),k<=M->fo s r t k<=M
 |0,k,h=>h
 |t +1,k,h=>by
  unfold fo;split
  .split
   .exact h
   .exact AN s r M a t (k+1) V
  .exact h
theorem GF(s:Bytes)(r:en)(aa:1<=r.n):db s r<=r.n/\db s r<=s.length:=by
 unfold db;split
 .exact⟨V,V⟩
 .exact⟨AN s r _ (.inl (Nat.le_refl _)) 4 1 aa,AN s r _ (.inr (Nat.le_refl _)) 4 1 V⟩
theorem GG:∀i:Fin 9,1<=(da[i.val]'(by exact i.isLt)).n/\(da[i.val]'(by exact i.isLt)).n<=4/\(da[i.val]'(by exact i.isLt)).off<=240:= aA
abbrev dZ:ac:=ac.aj (da.map en.v) 6 true
theorem wI{i:Nat}(ah:i<9):dZ.elem? 0 (0+i)=some ((da[i]'ah).v):=by have a:i<(da.map en.v).length:=ah;simp [ac.elem?,ac.b0,ac.aj,dZ,a];exact⟨ah,_,c7 ah,rfl⟩
theorem GH{h:T}{i:Nat}(ag:h.get 17=some dZ)(ah:i<9):a1 (a'.D env) 120 ⟨17,0,0+Int.toNat (i:Nat),0,6⟩ h=some ((da[i]'ah).v):=by have a:(a'.D env 120).map (λd=>(d.kind.isAgg,d.size))=some (true,6):= ar;obtain⟨x,aa,h2⟩:=b4.1 a;simp only [bo]at h2;unfold a1;rw [aa,ag,fU];simp only [wI ah,ft,h2.1,h2.2];simp [en.v]
theorem GI{h:T}{i:Nat}(ag:h.get 17=some dZ)(ah:i<9):a1 (a'.D env) 3 ⟨17,0,0+Int.toNat (i:Nat),2,6⟩ h=some (.int .i64 ((da[i]'ah).n:Nat))/\a1 (a'.D env) 3 ⟨17,0,0+Int.toNat (i:Nat),5,6⟩ h=some (.int .i64 ((da[i]'ah).off:Nat)):=by have a:(a'.D env 3).map (λd=>d.kind.isAgg)=some false:= ar;obtain⟨x,aa,h2⟩:=b4.1 a;unfold a1;rw [aa,ag,fU];simp only [wI ah,ft,h2];exact⟨by simp [en.v],by simp [en.v]⟩
abbrev nV(s:Bytes)(v:J):a8:=[(0,.str s),(4,.slice (some ⟨17,0,0,0,6⟩) 9 9),(5,v)]
theorem wJ(s:Bytes)(i:Int)(h:T)(ag:h.get 17=some dZ):b5 0 60 (nV s (.int .i64 i)) h (nV s (.int .i64 i)) (T.af 60 [(17,dZ)]):=by
 have aI:T.rows 60 [(17,dZ)]=T.af 60 [(17,dZ)]:= ar;rw [<-aI]
 exact b5.drop (K:=60) (l:=[(17,dZ)]) (by simp only [eF,jE,ag]) (by rfl) (by rfl) (by rfl) (a7.cons trivial (a7.cons (by simp [bQ,Go.bh.bO]) (a7.cons trivial a7.nil))) (a7.cons (by
  intro e he;obtain⟨r,_,rfl⟩:=dz.1 (show e∈da.map en.v from he)
  exact(ci.of rfl).dh _) a7.nil)
abbrev GJ(s:Bytes)(x:Int×Int):a8:=[(0,.str s),(2,.int .i32 x.1),(3,.int .i64 x.2)]
def GK(s:Bytes)(i:Nat):Prop:= ∃H',
 (∃v,dl 0 60 (br 52 0) (nV s (.int .i64 (i:Nat))) (T.af 60 [(17,dZ)]) (.exit 0) (nV s v) H'/\ga s (da.drop i)=(65533,1)) \/
 ∃a,dl 0 60 (br 52 0) (nV s (.int .i64 (i:Nat))) (T.af 60 [(17,dZ)]) .ret a H'/\a8.le (GJ s (ga s (da.drop i))) a
theorem QV(s:Bytes)(hs:s≠[]):∀(t i:Nat),9-i<=t->i<=9->GK s i:=by
 have hlen:0<s.length:=fS.2 hs
 have fin:∀i,i=9->GK s i:=by intro i ah;obtain⟨e,a,aa,b,rfl,rfl⟩:=GB i 0 s dZ 0 0 0 0 0 0 0 0 .undef ⟨0,.nil⟩ (λe a aa=>e=.exit 0/\a=nV s (.int .i64 (i:Nat))) ⟨λaa=>absurd aa V,λ_=>⟨rfl,rfl⟩⟩;exact⟨_,.inl ⟨_,bX.last an b,by subst ah;rfl⟩⟩
 intro t;induction t with
 |zero=>exact λi aa h2=>fin i V
 |succ t ih =>
  intro i aa h2;by_cases al:i<9
  .obtain⟨g,j,u⟩:=GG ⟨i,al⟩;simp only at g j u;have m:da.drop i=da[i]'al::da.drop (i+1):=iS al;have H:=λ{n:Nat} =>GH (h:=T.af n [(17,dZ)]) (i:=i)
   have o:a1 (a'.D env) 120 ⟨17,0,0+Int.toNat (i:Nat),0,6⟩ (T.af 71 [(17,dZ)])=some ((da[i]'al).v):=GH rfl al;have p:=(GI (h:=T.af 80 [(17,dZ)]) rfl al).1;have q:=(GI (h:=T.af 90 [(17,dZ)]) rfl al).2;generalize da[i]'al=r at g j u m o p q;obtain⟨f1,f2⟩:=GF s r g;have B:=GA r s j;have G:=nR s 0;have E:((i:Int)+1)=((i+1:Nat):Int):= V;have c:ga s (da.drop i)=if db s r=0 then ga s (da.drop (i+1))else if db s r<r.n then(65533,(db s r:Nat))else(hQ s (db s r) 3 1 ((bP s 0:Nat)- (r.off:Nat)),(db s r:Nat)):=by rw [m];rfl
   obtain⟨y,H1,A,cq,cn⟩:=QU s (db s r) f2 V 3 1 ((bP s 0:Nat)- (r.off:Nat)) V V V (by show-(256:Int)<=_;omega) (by show _<=(256:Int);omega);have x:=(cZ.dJ A).pre (show b5 0 60 _ (T.af 91 [(17,dZ)]) _ _ from GC _ s _ 1 _)
   have C:∃e a aa,bR 0 60 (br 52 0) (nV s (.int .i64 (i:Nat))) (T.af 60 [(17,dZ)]) e a aa/\((db s r=0/\e=.normal/\a=nV s (.int .i64 ((i:Int)+1))/\aa.get 17=some dZ)\/(¬db s r=0/\e=.ret/\a8.le (GJ s (ga s (da.drop i))) a)):=by
    refine GB i (db s r) s dZ r.aD r.ah r.n r.c' r.cL r.off (bP s 0:Nat) _ y H1 _
     ⟨λ_=>⟨⟨V,V⟩,o,⟨B _⟩,λz=>⟨⟨V,V⟩,.inl ⟨V,rfl,rfl,rfl⟩⟩,
      λz=>⟨⟨V,V⟩,p,λl=> .inr ⟨V,rfl,?_⟩,λl=>⟨jt (k:=0) hlen,⟨V,V⟩,⟨V,V⟩,q,⟨V,V⟩,x,⟨V,V⟩,.inr ⟨V,rfl,?_⟩⟩⟩⟩,λh=>absurd V h⟩
    .rw [c,ap V,aE V];exact a8.nj [(0,.str s),(2,.int .i32 65533),(3,.int .i64 (db s r:Nat)),(4,.slice (some ⟨17,0,0,0,6⟩) 9 9),(5,.int .i64 (i:Nat))] [0,2,3]
    .rw [c,ap V,ap V];exact λt v h=>h
   obtain⟨e,a,F,b,⟨z,rfl,rfl,ag⟩|⟨z,rfl,hle⟩⟩:=C
   .rw [E]at b;obtain⟨H',⟨v,d,f⟩|⟨w,d,f⟩⟩:=ih (i+1) V V
    .exact⟨H',.inl ⟨v,bX.round b (wJ s _ _ ag) d,by rw [c,aE z];exact f⟩⟩
    .exact⟨H',.inr ⟨w,bX.round b (wJ s _ _ ag) d,by rw [c,aE z];exact f⟩⟩
   .exact⟨_,.inr ⟨_,bX.last an b,hle⟩⟩
  .exact fin i V
theorem QW{s:Bytes}(hs:s≠[])(H:T):bu 52 [.str s] H (.tuple [.int .i32 (ga s da).1,.int .i64 (ga s da).2]) H:=by
 have hlen:0<s.length:=fS.2 hs;have d:¬((s.length:Nat):Int)=0:= V;obtain⟨H',⟨v,c,a⟩|⟨e,c,a⟩⟩:=QV s hs 9 0 V V
 .have b:=(cZ.dJ c).pre (show b5 0 60 _ (T.af 20 [(17,dZ)]) _ _ from wJ s 0 _ rfl);have a:ga s da=(65533,1):=a;rw [a];exact bl.cm (QS s H' v (λv _=>v=.tuple [.int .i32 65533,.int .i64 1]) ⟨λh=>absurd h d,λ_=>⟨b,rfl⟩⟩) rfl rfl H
 .have b:=((cZ.dJ c).pre (show b5 0 60 _ (T.af 20 [(17,dZ)]) _ _ from wJ s 0 _ rfl)).post (b5.facts a);exact bl.cm (QT s H' _ _ (λv _=>v=.tuple [.int .i32 (ga s da).1,.int .i64 (ga s da).2]) ⟨λh=>absurd h d,λ_=>⟨b,rfl⟩⟩) rfl rfl H
theorem QX{s:Bytes}{r:en}(h:bP s 0<r.aD\/r.ah<bP s 0):db s r=0:=by unfold db;rw [aE (.inr h)]
abbrev o3:J:=J.slice (ba 13) 9 9
theorem GL(a d:Nat)(c:Bytes)(b:ac)(j h f k i l:Int)(g:bW->a8->T->Prop)(n:((a:Int)<9->(0<=(a:Int)/\(a:Int)<9)/\a1 env.D 120 ⟨13,0,0+Int.toNat (a:Int),0,6⟩ (T.af 71 [(13,b)])=some ((js j h f k i l))/\bM 80 [.str c,(js j h f k i l)] (T.af 71 [(13,b)]) (.int .i64 (d:Int)) (T.af 71 [(13,b)])/\(0<(d:Int)->((d:Int)=(↑c.length:Int)->(0<=(a:Int)/\(a:Int)<9)/\a1 env.D 3 ⟨13,0,0+Int.toNat (a:Int),2,6⟩ (T.af 88 [(13,b)])=some (.int .i64 f)/\((d:Int)<f->g .ret [(0,.str c),(2,.bool true),(3,o3),(4,.int .i64 (a:Int))] (T.af 89 [(13,b)]))/\(¬(d:Int)<f->(-9223372036854775808<=(a:Int)+1/\(a:Int)+1<=9223372036854775807)/\g .normal [(0,.str c),(3,o3),(4,.int .i64 ((a:Int)+1))] (T.af 91 [(13,b)])))/\(¬(d:Int)=(↑c.length:Int)->(-9223372036854775808<=(a:Int)+1/\(a:Int)+1<=9223372036854775807)/\g .normal [(0,.str c),(3,o3),(4,.int .i64 ((a:Int)+1))] (T.af 91 [(13,b)])))/\(¬0<(d:Int)->(-9223372036854775808<=(a:Int)+1/\(a:Int)+1<=9223372036854775807)/\g .normal [(0,.str c),(3,o3),(4,.int .i64 ((a:Int)+1))] (T.af 91 [(13,b)])))/\(¬(a:Int)<9->g (.exit 0) [(0,.str c),(3,o3),(4,.int .i64 (a:Int))] (T.af 64 [(13,b)]))) :
 ∃e m aa,bR 0 36 (br 92 0) [(0,.str c),(3,.slice (ba 13) 9 9),(4,.int .i64 (a:Nat))] (T.af 60 [(13,b)]) e m aa/\g e m aa :=
 di cP mixed bT (hs:= .aq 3003 (ag 5003 (.ak (.val 5004 (o2 j h f k i l)) (.ak (.val 5005 (.int .i64 (d:Int))) (.aq 6001 (.aq 6006 (ag 6012 (.ak (.val 6014 (.int .i64 f)) (.aq 6015 .nil (ag 4001 .nil)))) (ag 4001 .nil)) (ag 4001 .nil))))) .nil) (keep:=[0,2,3,4]) ar n
theorem QY(a:Bytes)(b:T)(c:bm)(d:bR 0 36 (Code.loop (br 92 0)) [(0,.str a),(3,o3),(4,.int .i64 0)] (T.af 16 [(13,ac.aj [.agg [.int .i64 0,.int .i64 127,.int .i64 1,.int .i64 0,.int .i64 0,.int .i64 0],.agg [.int .i64 194,.int .i64 223,.int .i64 2,.int .i64 128,.int .i64 191,.int .i64 192],.agg [.int .i64 224,.int .i64 224,.int .i64 3,.int .i64 160,.int .i64 191,.int .i64 224],.agg [.int .i64 225,.int .i64 236,.int .i64 3,.int .i64 128,.int .i64 191,.int .i64 224],.agg [.int .i64 238,.int .i64 239,.int .i64 3,.int .i64 128,.int .i64 191,.int .i64 224],.agg [.int .i64 237,.int .i64 237,.int .i64 3,.int .i64 128,.int .i64 159,.int .i64 224],.agg [.int .i64 240,.int .i64 240,.int .i64 4,.int .i64 144,.int .i64 191,.int .i64 240],.agg [.int .i64 241,.int .i64 243,.int .i64 4,.int .i64 128,.int .i64 191,.int .i64 240],.agg [.int .i64 244,.int .i64 244,.int .i64 4,.int .i64 128,.int .i64 143,.int .i64 240]] 6 true)]) (.exit 0) [(0,.str a)] b/\c (.bool false) (aY b 1)) :
 bC 92 [.str a] (⟨0,.nil⟩) c :=
 bI bT (he 1000 (.ak (.keep [0,3,4]) (.ak (.loop [(0,.str a)] b (.exit 0)) .nil))) d
theorem QZ(a:Bytes)(b:T)(c:bm)(d:bR 0 36 (Code.loop (br 92 0)) [(0,.str a),(3,o3),(4,.int .i64 0)] (T.af 16 [(13,ac.aj [.agg [.int .i64 0,.int .i64 127,.int .i64 1,.int .i64 0,.int .i64 0,.int .i64 0],.agg [.int .i64 194,.int .i64 223,.int .i64 2,.int .i64 128,.int .i64 191,.int .i64 192],.agg [.int .i64 224,.int .i64 224,.int .i64 3,.int .i64 160,.int .i64 191,.int .i64 224],.agg [.int .i64 225,.int .i64 236,.int .i64 3,.int .i64 128,.int .i64 191,.int .i64 224],.agg [.int .i64 238,.int .i64 239,.int .i64 3,.int .i64 128,.int .i64 191,.int .i64 224],.agg [.int .i64 237,.int .i64 237,.int .i64 3,.int .i64 128,.int .i64 159,.int .i64 224],.agg [.int .i64 240,.int .i64 240,.int .i64 4,.int .i64 144,.int .i64 191,.int .i64 240],.agg [.int .i64 241,.int .i64 243,.int .i64 4,.int .i64 128,.int .i64 191,.int .i64 240],.agg [.int .i64 244,.int .i64 244,.int .i64 4,.int .i64 128,.int .i64 143,.int .i64 240]] 6 true)]) .ret [(0,.str a),(2,.bool true)] b/\c (.bool true) b) :
 bC 92 [.str a] (⟨0,.nil⟩) c :=
 bI bT (he 1000 (.ak (.keep [0,3,4]) (.ak (.loop [(0,.str a),(2,.bool true)] b .ret) .nil))) d
abbrev AO(a c b d:Int):ch:=(.ak (.val 2001 (.int .u8 a)) (.ak (.val 2002 (cV c b d 0 0 [])) .nil))
abbrev s9(b a c:Int):J:=J.agg [.int .i8 b,.int .i32 a,.int .u8 c,.int .i64 0,.int .i64 0,.str []]
abbrev qC:T:=(T.af 11 [(0,bx)])
abbrev qD:T:=(T.af 17 [(0,bx)])
abbrev AP(b a c:Int):T:=(T.af 17 [(0,(ac.aj ([(s9 b a c)]) 6 true (some (42,6))))])
abbrev AQ(b a c:Int):J:=J.tuple [(s9 b a c),.int .i64 1,.int .i64 0]
theorem Q0(e:Bytes)(a c b d:Int)(f:bm)(g:c8 env.D 9 (.str e) (.int .i64 0)=some (.int .u8 a)/\(a<32->bd env cr 10 (bf [(13,.tuple []),(10,.bool true)]) qC (Op.pick (Operand.tmp 10) (Operand.const (Value.bool true)) (Operand.tmp 13))=some (J.bool true,qC)/\c8 env.D 9 (.str e) (.int .i64 0)=some (.int .u8 a)/\bM 62 [.int .u8 a] qD ((s9 c b d)) qD/\f ((AQ c b d)) (AP c b d))/\(¬a<32->c8 env.D 9 (.str e) (.int .i64 0)=some (.int .u8 a)/\(a=127->bd env cr 10 (bf [(13,.bool true),(10,.bool false)]) qC (Op.pick (Operand.tmp 10) (Operand.const (Value.bool true)) (Operand.tmp 13))=some (J.bool true,qC)/\c8 env.D 9 (.str e) (.int .i64 0)=some (.int .u8 a)/\bM 62 [.int .u8 a] qD ((s9 c b d)) qD/\f ((AQ c b d)) (AP c b d))/\(¬a=127->bd env cr 10 (bf [(13,.bool false),(10,.bool false)]) qC (Op.pick (Operand.tmp 10) (Operand.const (Value.bool true)) (Operand.tmp 13))=some (J.bool true,qC)/\c8 env.D 9 (.str e) (.int .i64 0)=some (.int .u8 a)/\bM 62 [.int .u8 a] qD ((s9 c b d)) qD/\f ((AQ c b d)) (AP c b d)))) :
 bC 66 [.str e] (⟨0,.nil⟩) f :=
 bI bT (.ak (.val 1001 (.int .u8 a)) (.aq 1002 (.ak (.val 1007 (.bool true)) (AO a c b d)) (.ak (.val 1005 (.int .u8 a)) (.aq 1006 (.ak (.val 1007 (.bool true)) (AO a c b d)) (.ak (.val 1007 (.bool true)) (AO a c b d)))))) g
theorem Q1(b:Bytes)(a:Int)(c:bm)(d:c8 env.D 9 (.str b) (.int .i64 0)=some (.int .u8 a)/\some (J.bool (decide (a<32)))=some (J.bool false)/\c8 env.D 9 (.str b) (.int .i64 0)=some (.int .u8 a)/\some (J.bool (a == 127))=some (J.bool false)/\bM 92 [.str b] (T.af 13 [(0,bx)]) (.bool true) (T.af 13 [(0,bx)])/\c (.tuple [fF,.int .i64 0,.int .i64 2]) (T.af 17 [(0,df)])) :
 bC 66 [.str b] (⟨0,.nil⟩) c :=
 bI bT (.ak (.val 1001 (.int .u8 a)) (.ak (.val 1002 (.bool false)) (.ak (.val 1005 (.int .u8 a)) (.ak (.val 1006 (.bool false)) (.ak (.val 3001 (.bool true)) .nil))))) d
abbrev wK(a:Int):J:=J.agg [.int .i8 1,.int .i32 a,.int .u8 0,.int .i64 0,.int .i64 0,.str []]
abbrev GM(a:Bytes):J:=J.agg [.int .i8 7,.int .i32 0,.int .u8 0,.int .i64 0,.int .i64 0,.str a]
theorem GN(d b:Bytes)(e a c:Int)(f:bm)(g:c8 env.D 9 (.str d) (.int .i64 0)=some (.int .u8 e)/\some (J.bool (decide (e<32)))=some (J.bool false)/\c8 env.D 9 (.str d) (.int .i64 0)=some (.int .u8 e)/\some (J.bool (e == 127))=some (J.bool false)/\bM 92 [.str d] (T.af 13 [(0,bx)]) (.bool false) (T.af 13 [(0,bx)])/\bM 52 [.str d] (T.af 20 [(0,bx)]) (.tuple [.int .i32 a,.int .i64 c]) (T.af 20 [(0,bx)])/\(a=65533->ec env.D 9 (.str d) none (some (.int .i64 c)) none=some (J.str b)/\(b=[(239:UInt8),(191:UInt8),(189:UInt8)]->f (.tuple [(wK a),.int .i64 c,.int .i64 0]) (T.af 34 [(0,(ac.aj ([(wK a)]) 6 true (some (42,6))))]))/\(¬b=[(239:UInt8),(191:UInt8),(189:UInt8)]->ec env.D 9 (.str d) none (some (.int .i64 c)) none=some (J.str b)/\f (.tuple [(GM b),.int .i64 c,.int .i64 0]) (T.af 36 [(0,(ac.aj ([(GM b)]) 6 true (some (42,6))))])))/\(¬a=65533->f (.tuple [(wK a),.int .i64 c,.int .i64 0]) (T.af 34 [(0,(ac.aj ([(wK a)]) 6 true (some (42,6))))]))) :
 bC 66 [.str d] (⟨0,.nil⟩) f :=
 bI bT (.ak (.val 1001 (.int .u8 e)) (.ak (.val 1002 (.bool false)) (.ak (.val 1005 (.int .u8 e)) (.ak (.val 1006 (.bool false)) (.ak (.val 3001 (.bool false)) (.ak (.val 5001 (.tuple [.int .i32 a,.int .i64 c])) (.aq 6001 (.ak (.val 6005 (.str b)) (.aq 6006 .nil (.ak (.val 7002 (.str b)) .nil))) .nil))))))) g
abbrev wL(a b:Int):J:=J.agg [.int .i8 1,.int .i32 a,.int .u8 b,.int .i64 0,.int .i64 0,.str []]
abbrev hg:J:=J.agg [.int .i8 7,.int .i32 0,.int .u8 0,.int .i64 0,.int .i64 0,.str []]
abbrev bE:ac:=(ac.aj ([hg]) 6 true (some (42,6)))
theorem Q2(a b:Int)(c:bm)(d:(a=13->c ((sG b)) (T.af 7 [(0,(ac.aj ([(sG b)]) 6 true (some (42,6))))]))/\(¬a=13->(a=9->c ((sH b)) (T.af 9 [(0,(ac.aj ([(sH b)]) 6 true (some (42,6))))]))/\(¬a=9->(a=127->c ((sI b)) (T.af 11 [(0,(ac.aj ([(sI b)]) 6 true (some (42,6))))]))/\(¬a=127->(a=27->c ((sJ b)) (T.af 13 [(0,(ac.aj ([(sJ b)]) 6 true (some (42,6))))]))/\(¬a=27->(a<32->c (hg) (T.af 24 [(0,bE)]))/\(¬a<32->(1114111<a->c (hg) (T.af 24 [(0,bE)]))/\(¬1114111<a->(-2147483648<=a/\a<=2147483647)/\(0<=a->(a<=1114111->(a<55296->(-2147483648<=a/\a<=2147483647)/\c ((wL a b)) (T.af 43 [(0,(ac.aj ([(wL a b)]) 6 true (some (42,6))))]))/\(¬a<55296->(57343<a->(-2147483648<=a/\a<=2147483647)/\c ((wL a b)) (T.af 43 [(0,(ac.aj ([(wL a b)]) 6 true (some (42,6))))]))/\(¬57343<a->c (hg) (T.af 40 [(0,bE)]))))/\(¬a<=1114111->c (hg) (T.af 40 [(0,bE)])))/\(¬0<=a->c (hg) (T.af 40 [(0,bE)]))))))))) :
 bC 113 [.int .i64 a,.int .u8 b] (⟨0,.nil⟩) c :=
 bI bT (.aq 2000 .nil (.aq 4000 .nil (.aq 6000 .nil (.aq 8000 .nil (.aq 10001 .nil (.aq 10004 .nil (ag 10008 (he 10009 (.aq 1001 (.aq 1004 (.aq 1008 (ag 12001 .nil) (.aq 1011 (ag 12001 .nil) .nil)) .nil) .nil))))))))) d
theorem Q3(a:Int)(b:bm)(c:(65=a->b (.int .i32 5) (T.af 26 [(1,ac.aj [.int .i32 5,.int .i32 6,.int .i32 7,.int .i32 8,.int .i32 9,.int .i32 10] 1 true)]))/\(¬65=a->(66=a->b (.int .i32 6) (T.af 38 [(1,ac.aj [.int .i32 5,.int .i32 6,.int .i32 7,.int .i32 8,.int .i32 9,.int .i32 10] 1 true)]))/\(¬66=a->(67=a->b (.int .i32 7) (T.af 50 [(1,ac.aj [.int .i32 5,.int .i32 6,.int .i32 7,.int .i32 8,.int .i32 9,.int .i32 10] 1 true)]))/\(¬67=a->(68=a->b (.int .i32 8) (T.af 62 [(1,ac.aj [.int .i32 5,.int .i32 6,.int .i32 7,.int .i32 8,.int .i32 9,.int .i32 10] 1 true)]))/\(¬68=a->(72=a->b (.int .i32 9) (T.af 74 [(1,ac.aj [.int .i32 5,.int .i32 6,.int .i32 7,.int .i32 8,.int .i32 9,.int .i32 10] 1 true)]))/\(¬72=a->(70=a->b (.int .i32 10) (T.af 86 [(1,ac.aj [.int .i32 5,.int .i32 6,.int .i32 7,.int .i32 8,.int .i32 9,.int .i32 10] 1 true)]))/\(¬70=a->b (.int .i32 0) (T.af 88 [(1,ac.aj [.int .i32 5,.int .i32 6,.int .i32 7,.int .i32 8,.int .i32 9,.int .i32 10] 1 true)])))))))) :
 bC 64 [.int .u8 a] (⟨0,.nil⟩) b :=
 bI bT (he 2001 (.ak (.rounds 300) (.aq 4004 .nil (.aq 4004 .nil (.aq 4004 .nil (.aq 4004 .nil (.aq 4004 .nil (.aq 4004 .nil .nil)))))))) c
theorem Q4(a:Int)(b:bm)(c:(a=1->b (.int .i32 9) (T.af 5 []))/\(¬a=1->(a=7->b (.int .i32 9) (T.af 7 []))/\(¬a=7->(a=2->b (.int .i32 11) (T.af 9 []))/\(¬a=2->(a=3->b (.int .i32 12) (T.af 11 []))/\(¬a=3->(a=4->b (.int .i32 10) (T.af 13 []))/\(¬a=4->(a=8->b (.int .i32 10) (T.af 15 []))/\(¬a=8->(a=5->b (.int .i32 13) (T.af 17 []))/\(¬a=5->(a=6->b (.int .i32 14) (T.af 19 []))/\(¬a=6->(11=a->b (.int .i32 21) (T.af 35 [(18,ac.aj [.int .i64 11,.int .i64 12,.int .i64 13,.int .i64 14,.int .i64 15,.int .i64 17,.int .i64 18,.int .i64 19,.int .i64 20,.int .i64 21,.int .i64 23,.int .i64 24] 1 true)]))/\(¬11=a->(12=a->b (.int .i32 22) (T.af 48 [(18,ac.aj [.int .i64 11,.int .i64 12,.int .i64 13,.int .i64 14,.int .i64 15,.int .i64 17,.int .i64 18,.int .i64 19,.int .i64 20,.int .i64 21,.int .i64 23,.int .i64 24] 1 true)]))/\(¬12=a->(13=a->b (.int .i32 23) (T.af 61 [(18,ac.aj [.int .i64 11,.int .i64 12,.int .i64 13,.int .i64 14,.int .i64 15,.int .i64 17,.int .i64 18,.int .i64 19,.int .i64 20,.int .i64 21,.int .i64 23,.int .i64 24] 1 true)]))/\(¬13=a->(14=a->b (.int .i32 24) (T.af 74 [(18,ac.aj [.int .i64 11,.int .i64 12,.int .i64 13,.int .i64 14,.int .i64 15,.int .i64 17,.int .i64 18,.int .i64 19,.int .i64 20,.int .i64 21,.int .i64 23,.int .i64 24] 1 true)]))/\(¬14=a->(15=a->b (.int .i32 25) (T.af 87 [(18,ac.aj [.int .i64 11,.int .i64 12,.int .i64 13,.int .i64 14,.int .i64 15,.int .i64 17,.int .i64 18,.int .i64 19,.int .i64 20,.int .i64 21,.int .i64 23,.int .i64 24] 1 true)]))/\(¬15=a->(17=a->b (.int .i32 26) (T.af 100 [(18,ac.aj [.int .i64 11,.int .i64 12,.int .i64 13,.int .i64 14,.int .i64 15,.int .i64 17,.int .i64 18,.int .i64 19,.int .i64 20,.int .i64 21,.int .i64 23,.int .i64 24] 1 true)]))/\(¬17=a->(18=a->b (.int .i32 27) (T.af 113 [(18,ac.aj [.int .i64 11,.int .i64 12,.int .i64 13,.int .i64 14,.int .i64 15,.int .i64 17,.int .i64 18,.int .i64 19,.int .i64 20,.int .i64 21,.int .i64 23,.int .i64 24] 1 true)]))/\(¬18=a->(19=a->b (.int .i32 28) (T.af 126 [(18,ac.aj [.int .i64 11,.int .i64 12,.int .i64 13,.int .i64 14,.int .i64 15,.int .i64 17,.int .i64 18,.int .i64 19,.int .i64 20,.int .i64 21,.int .i64 23,.int .i64 24] 1 true)]))/\(¬19=a->(20=a->b (.int .i32 29) (T.af 139 [(18,ac.aj [.int .i64 11,.int .i64 12,.int .i64 13,.int .i64 14,.int .i64 15,.int .i64 17,.int .i64 18,.int .i64 19,.int .i64 20,.int .i64 21,.int .i64 23,.int .i64 24] 1 true)]))/\(¬20=a->(21=a->b (.int .i32 30) (T.af 152 [(18,ac.aj [.int .i64 11,.int .i64 12,.int .i64 13,.int .i64 14,.int .i64 15,.int .i64 17,.int .i64 18,.int .i64 19,.int .i64 20,.int .i64 21,.int .i64 23,.int .i64 24] 1 true)]))/\(¬21=a->(23=a->b (.int .i32 31) (T.af 165 [(18,ac.aj [.int .i64 11,.int .i64 12,.int .i64 13,.int .i64 14,.int .i64 15,.int .i64 17,.int .i64 18,.int .i64 19,.int .i64 20,.int .i64 21,.int .i64 23,.int .i64 24] 1 true)]))/\(¬23=a->(24=a->b (.int .i32 32) (T.af 178 [(18,ac.aj [.int .i64 11,.int .i64 12,.int .i64 13,.int .i64 14,.int .i64 15,.int .i64 17,.int .i64 18,.int .i64 19,.int .i64 20,.int .i64 21,.int .i64 23,.int .i64 24] 1 true)]))/\(¬24=a->b (.int .i32 0) (T.af 182 [(18,ac.aj [.int .i64 11,.int .i64 12,.int .i64 13,.int .i64 14,.int .i64 15,.int .i64 17,.int .i64 18,.int .i64 19,.int .i64 20,.int .i64 21,.int .i64 23,.int .i64 24] 1 true)])))))))))))))))))))))) :
 bC 65 [.int .i64 a] (⟨0,.nil⟩) b :=
 bI bT (.aq 2000 .nil (.aq 3000 .nil (.aq 5000 .nil (.aq 7000 .nil (.aq 9000 .nil (.aq 10000 .nil (.aq 12000 .nil (.aq 14000 .nil (.ak (.rounds 300) (.aq 20005 .nil (.aq 20005 .nil (.aq 20005 .nil (.aq 20005 .nil (.aq 20005 .nil (.aq 20005 .nil (.aq 20005 .nil (.aq 20005 .nil (.aq 20005 .nil (.aq 20005 .nil (.aq 20005 .nil (.aq 20005 .nil .nil))))))))))))))))))))) c
end Go.Proofs.YtddnafghiejcoaaGreatDoor
namespace Go.Proofs.YtddnafghiejcoaaGreatDoor
open Go.bh Go.Keys
set_option maxRecDepth 1000000
open Go.Lib
theorem ls{t:Bytes}{n:Nat}(h:n<=t.length):ec (a'.D env) 9 (.str t) none (some (.int .i64 (n:Nat))) none=some (.str (t.take n))/\ec (a'.D env) 9 (.str t) (some (.int .i64 (n:Nat))) none none=some (.str (t.drop n)):=by
 have a:(a'.D env 9).map (λd=>d.kind)=some .string:= ar;obtain⟨x,aa,h2⟩:=b4.1 a;unfold ec;rw [aa];simp only [h2];constructor
 .simp [eh,h]
 .simp [eh,h]
end Go.Proofs.YtddnafghiejcoaaGreatDoor
