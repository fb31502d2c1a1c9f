/-
  Parts of the proof of KeysName.
-/
import Derived.Lib.Bytealg
import Derived.Shelf.Strings.OnBuilder
import Derived.Shelf.Strings.Repeat
import Derived.Lib.Atoi
import Derived.Lib.SlTrimSet
import Derived.Shelf.Strings.SlTrimAscii
import Derived.Shelf.Strconv.Atoi
import Derived.Lib.AtoiErrMem
import Derived.Shelf.Strings.Count
import Derived.Shelf.Strings.Search3
import Derived.Test.YtddnafghiejcoaaGreatDoorKKeysNameD
set_option maxRecDepth 1000000
set_option linter.unusedVariables false
set_option linter.defProp false
set_option linter.unusedSimpArgs false
namespace Go.Proofs.zz
open Go.br Go.Keys
def ry(b:UInt8):dU (b.toNat:Int)=b:=by unfold dU;simp
def G4:∀(ay:Bytes)(j0 j1 j2 j3:Int),ay.length<=4->k7 (bS ay 0 j0) (bS ay 1 j1) (bS ay 2 j2) (bS ay 3 j3) ay.length=ay
 |[],_,_,_,_,_=>rfl
 |[a],_,_,_,_,_=>by simp [k7,bS,ry]
 |[a,b],_,_,_,_,_=>by simp [k7,bS,ry]
 |[a,b,c],_,_,_,_,_=>by simp [k7,bS,ry]
 |[a,b,c,d],_,_,_,_,_=>by simp [k7,bS,ry]
 |_::_::_::_::_::_,_,_,_,_,h=>by simp at h
def BL(ay:Bytes)(j0 j1 j2 j3:Int)(c:UInt8)(h:ay.length<=4):bX (bS ay 0 j0) (bS ay 1 j1) (bS ay 2 j2) (bS ay 3 j3) ay.length c.toNat=bM ay c:=by unfold bX;rw [G4 ay _ _ _ _ h,ry]
def BM(ay:Bytes)(i:Nat)(j:Int)(h:i<ay.length):0<=bS ay i j/\bS ay i j<=255:=by
 have:∃b:UInt8,bS ay i j=(b.toNat:Int):=by unfold bS;rw [ds h];exact⟨_,rfl⟩
 obtain⟨b,e⟩:=this;have:=b.toNat_lt;rw [e];omega
def BN(ay:Bytes)(j0 j1 j2 j3:Int)(c:UInt8)(h:ay.length<=3)(a:(first ay).2.2=true):gE (bS ay 0 j0) (bS ay 1 j1) (bS ay 2 j2) (bS ay 3 j3) ay.length c.toNat where
 aw:= A
 ar:=λk=>BM _ _ _ A
 aN:=λk=>BM _ _ _ A
 bx:=λk=>BM _ _ _ A
 aj:=by have:=c.toNat_lt;omega
 op:= .inr (by rw [G4 ay _ _ _ _ A];exact a)
def lY(x:Bytes)(n k:Nat):∃l,List.take n (List.drop k (aE x))=aE l:=⟨(x.drop k).take n,by simp [aE,ss,List.map_take]⟩
def ky(x:Bytes)(c:UInt8):aE x++[J.ac c.toNat]=aE (x++[c]):=by simp [aE]
def w9(x:Bytes)(c:UInt8)(n k:Nat):∃l,List.take n (List.drop k (aE x++[J.ac c.toNat]))=aE l:=by rw [ky];exact lY _ _ _
def ld(x:Bytes):(aE x).length=x.length:=by simp [aE]
def w'(x:Bytes)(c:UInt8):(aE x++[J.ac c.toNat]).length=x.length+1:=by simp [aE]
def BO(x:Bytes)(n k:Nat)(h:n=(x.drop k).length):List.take n (List.drop k (aE x))=aE (x.drop k):=by
 subst h;have:=tJ (x.drop k)
 rwa [show aE (List.drop k x)=List.drop k (aE x)by simp [aE,ss]]at this⊢
def BP(x:Bytes):strOf (List.take (x.length-1) (List.drop 1 (aE x)))=x.drop 1:=by rw [BO _ _ _ au,gY]
def BQ(x:Bytes):strOf (List.take (x.length-0) (aE x))=x:=by rw [o6,tJ,gY]
def BR(x:Bytes)(c:UInt8):strOf (List.take (x.length+1-1) (List.drop 1 (List.append (aE x) [J.ac c.toNat])))=(x++[c]).drop 1:=by show strOf (List.take _ (List.drop 1 (aE x++_)))=_;rw [ky,BO _ _ _ au,gY]
def xa(x:Bytes)(c:UInt8):strOf (List.take (x.length+1-0) (List.drop 0 (List.append (aE x) [J.ac c.toNat])))=x++[c]:=by show strOf (List.take _ (List.drop 0 (aE x++_)))=_;rw [ky,BO _ _ _ au,gY];rfl
def xb(x:Bytes)(c:UInt8):strOf (List.take (x.length+1) (List.drop 0 (List.append (aE x) [J.ac c.toNat])))=x++[c]:=xa x c
variable {j0 j1 j2 j3:Int}{d j len m:Nat}{ty uty:bw}
def pX{D a1 K P O:aa}{h:T}{f:Nat}{pv ov ca:J}{ad:Nat}{l:List J}{ak ay ax:Bytes}{es:List aP}{e:aP}{a:b3}(b:Nat.ble 5 h.M=true)(e0:h.get 0=some (bJ 0 f 1 (.aB 2 ad 0 len len) pv false ov ty))(aQ:h.get 1=some (bT ay j0 j1 j2 j3 uty))
 (aZ:h.get 2=some (b4 l 1 ad m j b')) (d:h.get 3=some P) (i:h.get 4=some O) (hlen:len=ak.length) (hle:l=aE ak) (ae:hb (T.of [D,a1,K,P,O]) 0 a.p pv ax) (t:hv (T.of [D,a1,K,P,O]) 0 a.o ov es) (n:a.u=1/\(a.k=0\/a.k=2)/\(a.p=0\/a.p=3)/\(a.o=0\/a.o=4)) (c:a.k=2)
 (he:ca=bp e) (r:es.length<2^30) (s:ay.length<=4) {R:T->Prop} (q:∀Z aH,b1 Z 0 aH ⟨.ground,[],ay,ax⟩ (es++[e])->Fr (T.of [D,a1,K,P,O]) Z 0 a aH->R Z) :
 cJ h ⟨0,0,0,0,6⟩ ca/\∀Z,cK h ⟨0,0,0,0,6⟩ ca Z->_root_.cond (Nat.ble 5 Z.M) (R Z) False:=by
 have b:=hU b;exact pS rfl b (gG rfl b e0 aQ (.inr c) d i (k9 aC hlen hle aZ) A ae t n (.inr (.inr ⟨rfl,c⟩))) he r s λZ aH g cd=>q Z aH (tE g) cd
variable {c:UInt8}
def ou{D a1 K P O:aa}{h:T}{pv ov:J}{ad g:Nat}{ak ax:Bytes}{es:List aP}{a:b3}(b:Nat.ble 5 h.M=true)(e0:h.get 0=some (bJ 0 (b9 .cp) 1 (.aB 2 ad 0 ak.length ak.length) pv false ov ty))(aQ:h.get 1=some (bT [] j0 j1 j2 j3 uty))
 (aZ:h.get 2=some (b4 (aE ak) 1 ad m g b')) (e:h.get 3=some P) (f:h.get 4=some O) (n:ak≠[]) (ae:hb (T.of [D,a1,K,P,O]) 0 a.p pv ax) (q:hv (T.of [D,a1,K,P,O]) 0 a.o ov es) (i:a.u=1/\(a.k=0\/a.k=2)/\(a.p=0\/a.p=3)/\(a.o=0\/a.o=4)) (d:a.k=2)
 (l:es.length<2^30-8) {R:T->Prop} (j:∀Z aH,b1 Z 0 aH (Keys.bad ⟨.cp,ak,[],ax⟩ c).1 (es++(Keys.bad ⟨.cp,ak,[],ax⟩ c).2)->Fr (T.of [D,a1,K,P,O]) Z 0 a aH->R Z) :
 dA (2^30-8) eV h ⟨0,0,0,0,6⟩ c.toNat/\∀Z,dB Keys.bad h ⟨0,0,0,0,6⟩ c.toNat Z->_root_.cond (Nat.ble 5 Z.M) (R Z) False:=by
 have b:=hU b;exact tG (s:=⟨.cp,ak,[],ax⟩) rfl b (w2 (ks:= .grown []) (gG rfl b e0 aQ (.inr d) e f (k9 aC rfl rfl aZ) A ae q i (.inr (.inr ⟨rfl,d⟩))) n) l au ⟨rfl,.inl rfl⟩ j
def Rc{D a1 K P O:aa}{h:T}{pv ov:J}{ad f:Nat}{l:List J}{ak ay ax:Bytes}{es:List aP}{a:b3}(b:Nat.ble 5 h.M=true)(e0:h.get 0=some (bJ 0 (b9 .cp) 1 (.aB 2 ad 0 len len) pv false ov ty))(aQ:h.get 1=some (bT ay j0 j1 j2 j3 uty))
 (aZ:h.get 2=some (b4 l 1 ad m f b')) (d:h.get 3=some P) (e:h.get 4=some O) (hlen:len=ak.length) (hle:l=aE ak) (i:ak≠[]) (ae:hb (T.of [D,a1,K,P,O]) 0 a.p pv ax) (j:hv (T.of [D,a1,K,P,O]) 0 a.o ov es) (g:a.u=1/\(a.k=0\/a.k=2)/\(a.p=0\/a.p=3)/\(a.o=0\/a.o=4)) (c:a.k=2) :
 ∃aH,b1 h 0 aH ⟨.cp,ak,ay,ax⟩ es/\Fr (T.of [D,a1,K,P,O]) h 0 a aH:=by
 have b:=hU b;exact lV (s:=⟨.cp,ak,ay,ax⟩) (ks:= .grown []) (gG rfl b e0 aQ (.inr c) d e (k9 aC hlen hle aZ) A ae j g (.inr (.inr ⟨rfl,c⟩))) i
set_option maxHeartbeats 4000000
def oi{b:Bool}(h:b=true)(k:b=false):False:=by rw [h]at k;cases k
set_option hygiene false in
def Rd{pv ov:J}{P O:aa}{ak ay:Bytes}{ad:Nat}{x:UInt8}{t:Bytes}(a:ak=x::t)(j:ay.length<=3)(k:(first ay).2.2=true)(z:(bM ay c).1=[])(hlen:ak.length=at' ak+ay.length)(w:0<ay.length)(aM:¬(0:Int)<(bM ay c).2.length->False)(b:aU)
 (g:∀{h:T},Nat.ble 5 h.M=true->h.get 0=some (bJ 0 (b9 .cp) 1 (.aB 2 (ad+1) 0 (ak.length+1) (ak.length+1)) pv false ov ty)->h.get 1=some (bT (bM ay c).2 (bS ay 0 j0) (bS ay 1 j1) (bS ay 2 j2) (bS ay 3 j3) uty)->h.get 2=some (b4 (aE ak++[.ac c.toNat]) 1 (ad+1) m (if m=ad then(aE ak).length else min d (aE ak).length) b')->h.get 3=some P->h.get 4=some O->b (.tuple []) h) :
 ∃v Z,be 90 [.ptr (some ⟨0,0,0,0,6⟩),.ac c.toNat] (T.of [bJ 0 (b9 .cp) 1 (.aB 2 ad 0 ak.length ak.length) pv false ov ty,bT ay j0 j1 j2 j3 uty,b4 (aE ak) 1 ad m d b',P,O]) v Z/\b v Z:=by
 refine Q' (b9 .cp) pv ov ty uty P O (aE ak) ad m d ak.length (bS ay 0 j0) (bS ay 1 j1) (bS ay 2 j2) (bS ay 3 j3) ay.length c.toNat b ?_
 delta Bi Bh cx dE lX w6 ga rv ru dy Bf fi pP Bj gH Bg dK fC tP tO
 have ah:aS (aE ak) 0=x.toNat:=by rw [a];rfl
 have n:(aE ak)[0]? =some (J.ac x.toNat):=by rw [a];rfl
 have u:ak.length<=4:=by
  have:at' ak<=1:=by unfold at';split<;>(try split)<;>omega
  omega
 have s:0<ak.length:= A;have i:(ak++[c]).drop 1=ak.drop 1++[c]:=by rw [a];rfl
 have q:=ld ak;have r:=w' ak c;have y:=BN ay j0 j1 j2 j3 c j k
 have p:(x.toNat:Int)=27->(ak.length:Int)=1->False:=λe aQ=>by
  have l:x=27:=fz.1 (by show x.toNat=27;omega);have:at' ak=1:=by rw [a,l];rfl
  omega
 have o:(ak.length:Int)=0->False:=λe=> A
 have f:¬(0:Int)<ak.length->False:=λe=> A
 rw [BL ay j0 j1 j2 j3 c A];simp only [BP,BQ,BR,xa,xb,lW,i,ah];refine⟨?_,λe=>(f e).elim⟩
 repeat' (first
  |assumption
  |exact g ao ao ao ao ao ao
  |exact(aM (by assumption)).elim
  |intro _
  |refine And.intro ?_ ?_
  |exact True.intro
  |assumption
  |rfl
  |omega
  |exact lY _ _ _
  |exact w9 _ _ _ _
  |(simp only [dt,eF,bK,cq,ld];omega)
  |(refine nJ ?_;simp only [dt,eF,bK,cq,ld];omega))
set_option maxHeartbeats 4000000
set_option hygiene false in
def Re{pv ov:J}{P O:aa}{ak ay:Bytes}{ad b:Nat}{x:UInt8}{t:Bytes}(d:ak=x::t)(s:ay.length<=3)(u:(first ay).2.2=true)(f:(bM ay c).1.length=1)(hlen:ak.length=at' ak+ay.length)(E:0<ay.length)(a:aU)
 (q:∀{h:T}{ca:J},x.toNat=27->valid (ak.drop 1++[c])=true->Nat.ble 5 h.M=true->h.get 0=some (bJ 0 (b9 .cp) 1 (.aB 2 (ad+1) 0 (ak.length+1) (ak.length+1)) pv false ov ty)->h.get 1=some (bT (bM ay c).2 (bS ay 0 j0) (bS ay 1 j1) (bS ay 2 j2) (bS ay 3 j3) uty)->h.get 2=some (b4 (aE ak++[.ac c.toNat]) 1 (ad+1) m (if m=ad then(aE ak).length else min b (aE ak).length) b')->h.get 3=some P->h.get 4=some O->ca=bp (eb ((bM ay c).1.getD 0 0) 2)->cJ h ⟨0,0,0,0,6⟩ ca/\∀Z,cK h ⟨0,0,0,0,6⟩ ca Z->_root_.cond (Nat.ble 5 Z.M) (a (.tuple []) Z) False)
 (i:∀{h:T},x.toNat=27->valid (ak.drop 1++[c])=false->((bM ay c).2.length:Int)=0->Nat.ble 5 h.M=true->h.get 0=some (bJ 0 (b9 .cp) 1 (.aB 2 ad 0 ak.length ak.length) pv false ov ty)->h.get 1=some (bT (bM ay c).2 (bS ay 0 j0) (bS ay 1 j1) (bS ay 2 j2) (bS ay 3 j3) uty)->h.get 2=some (b4 (aE ak) 1 ad m b b')->h.get 3=some P->h.get 4=some O->dA (2^30-8) eV h ⟨0,0,0,0,6⟩ c.toNat/\∀Z,dB Keys.bad h ⟨0,0,0,0,6⟩ c.toNat Z->_root_.cond (Nat.ble 5 Z.M) (a (.tuple []) Z) False)
 (k:∀{h:T},x.toNat=27->valid (ak.drop 1++[c])=false-> ¬((bM ay c).2.length:Int)=0->Nat.ble 5 h.M=true->h.get 0=some (bJ 0 (b9 .cp) 1 (.aB 2 ad 0 ak.length ak.length) pv false ov ty)->h.get 1=some (bT [] (bS (bM ay c).2 0 (bS ay 0 j0)) (bS (bM ay c).2 1 (bS ay 1 j1)) (bS (bM ay c).2 2 (bS ay 2 j2)) (bS (bM ay c).2 3 (bS ay 3 j3)) uty)->h.get 2=some (b4 (aE ak) 1 ad m b b')->h.get 3=some P->h.get 4=some O->dA (2^30-8) eV h ⟨0,0,0,0,6⟩ c.toNat/\∀Z,dB Keys.bad h ⟨0,0,0,0,6⟩ c.toNat Z->_root_.cond (Nat.ble 5 Z.M) (a (.tuple []) Z) False)
 (p:∀{h:T}{ca:J},x.toNat≠27->valid (ak++[c])=true->Nat.ble 5 h.M=true->h.get 0=some (bJ 0 (b9 .cp) 1 (.aB 2 (ad+1) 0 (ak.length+1) (ak.length+1)) pv false ov ty)->h.get 1=some (bT (bM ay c).2 (bS ay 0 j0) (bS ay 1 j1) (bS ay 2 j2) (bS ay 3 j3) uty)->h.get 2=some (b4 (aE ak++[.ac c.toNat]) 1 (ad+1) m (if m=ad then(aE ak).length else min b (aE ak).length) b')->h.get 3=some P->h.get 4=some O->ca=bp (eb ((bM ay c).1.getD 0 0) 0)->cJ h ⟨0,0,0,0,6⟩ ca/\∀Z,cK h ⟨0,0,0,0,6⟩ ca Z->_root_.cond (Nat.ble 5 Z.M) (a (.tuple []) Z) False)
 (g:∀{h:T},x.toNat≠27->valid (ak++[c])=false->((bM ay c).2.length:Int)=0->Nat.ble 5 h.M=true->h.get 0=some (bJ 0 (b9 .cp) 1 (.aB 2 ad 0 ak.length ak.length) pv false ov ty)->h.get 1=some (bT (bM ay c).2 (bS ay 0 j0) (bS ay 1 j1) (bS ay 2 j2) (bS ay 3 j3) uty)->h.get 2=some (b4 (aE ak) 1 ad m b b')->h.get 3=some P->h.get 4=some O->dA (2^30-8) eV h ⟨0,0,0,0,6⟩ c.toNat/\∀Z,dB Keys.bad h ⟨0,0,0,0,6⟩ c.toNat Z->_root_.cond (Nat.ble 5 Z.M) (a (.tuple []) Z) False)
 (j:∀{h:T},x.toNat≠27->valid (ak++[c])=false-> ¬((bM ay c).2.length:Int)=0->Nat.ble 5 h.M=true->h.get 0=some (bJ 0 (b9 .cp) 1 (.aB 2 ad 0 ak.length ak.length) pv false ov ty)->h.get 1=some (bT [] (bS (bM ay c).2 0 (bS ay 0 j0)) (bS (bM ay c).2 1 (bS ay 1 j1)) (bS (bM ay c).2 2 (bS ay 2 j2)) (bS (bM ay c).2 3 (bS ay 3 j3)) uty)->h.get 2=some (b4 (aE ak) 1 ad m b b')->h.get 3=some P->h.get 4=some O->dA (2^30-8) eV h ⟨0,0,0,0,6⟩ c.toNat/\∀Z,dB Keys.bad h ⟨0,0,0,0,6⟩ c.toNat Z->_root_.cond (Nat.ble 5 Z.M) (a (.tuple []) Z) False) :
 ∃v Z,be 90 [.ptr (some ⟨0,0,0,0,6⟩),.ac c.toNat] (T.of [bJ 0 (b9 .cp) 1 (.aB 2 ad 0 ak.length ak.length) pv false ov ty,bT ay j0 j1 j2 j3 uty,b4 (aE ak) 1 ad m b b',P,O]) v Z/\a v Z:=by
 refine Ra (b9 .cp) pv ov ty uty P O (aE ak) ad m b ak.length (bS ay 0 j0) (bS ay 1 j1) (bS ay 2 j2) (bS ay 3 j3) ay.length c.toNat a ?_
 delta tQ Bw hx cx dE lX w6 ga rv ru dy Bm fi pP tS gH Bt dK fC tP tO h4 Bs tR Bp Bo By Bx Bn BA Bv h5 Bu Bz Br Bq
 have ah:aS (aE ak) 0=x.toNat:=by rw [d];rfl
 have y:(aE ak)[0]? =some (J.ac x.toNat):=by rw [d];rfl
 have D:ak.length<=4:=by
  have:at' ak<=1:=by unfold at';split<;>(try split)<;>omega
  omega
 have C:0<ak.length:= A;have r:(ak++[c]).drop 1=ak.drop 1++[c]:=by rw [d];rfl
 have z:=ld ak;have B:=w' ak c;have F:=BN ay j0 j1 j2 j3 c s u;have G:¬(bM ay c).1=[]:=λe=>by rw [e]at f;simp at f
 have n:(x.toNat:Int)=27->(ak.length:Int)=1->False:=λe aQ=>by
  have w:x=27:=fz.1 (by show x.toNat=27;omega);have:at' ak=1:=by rw [d,w];rfl
  omega
 have l:(ak.length:Int)=0->False:=λe=> A
 have o:¬(0:Int)<ak.length->False:=λe=> A
 rw [BL ay j0 j1 j2 j3 c A];simp only [BP,BQ,BR,xa,xb,lW,r,ah];refine⟨?_,λe=>(o e).elim⟩
 repeat' (first
  |assumption
  |exact q A (by assumption) ao ao ao ao ao ao rfl
  |exact i A (by assumption) (by assumption) ao ao ao ao ao ao
  |exact k A (by assumption) (by assumption) ao ao ao ao ao ao
  |exact(oi ‹valid (ak.drop 1++[c])=true› ‹valid (ak.drop 1++[c])=false›).elim
  |exact p A (by assumption) ao ao ao ao ao ao rfl
  |exact g A (by assumption) (by assumption) ao ao ao ao ao ao
  |exact j A (by assumption) (by assumption) ao ao ao ao ao ao
  |exact(oi ‹valid (ak++[c])=true› ‹valid (ak++[c])=false›).elim
  |exact(n (by assumption) (by assumption)).elim
  |exact(l (by assumption)).elim
  |intro _
  |refine And.intro ?_ ?_
  |exact True.intro
  |assumption
  |rfl
  |omega
  |exact lY _ _ _
  |exact w9 _ _ _ _
  |(simp only [dt,eF,bK,cq,ld];omega)
  |(refine nJ ?_;simp only [dt,eF,bK,cq,ld];omega))
set_option maxHeartbeats 4000000
set_option hygiene false in
def Rf{pv ov:J}{P O:aa}{ak ay:Bytes}{ad b:Nat}{x:UInt8}{t:Bytes}(d:ak=x::t)(r:ay.length<=3)(s:(first ay).2.2=true)(G:(bM ay c).1≠[])(F:(bM ay c).1.length≠1)(hlen:ak.length=at' ak+ay.length)(D:0<ay.length)(a:aU)
 (p:∀{h:T}{ca:J},x.toNat=27->valid (ak.drop 1++[c])=true->Nat.ble 5 h.M=true->h.get 0=some (bJ 0 (b9 .cp) 1 (.aB 2 (ad+1) 0 (ak.length+1) (ak.length+1)) pv false ov ty)->h.get 1=some (bT (bM ay c).2 (bS ay 0 j0) (bS ay 1 j1) (bS ay 2 j2) (bS ay 3 j3) uty)->h.get 2=some (b4 (aE ak++[.ac c.toNat]) 1 (ad+1) m (if m=ad then(aE ak).length else min b (aE ak).length) b')->h.get 3=some P->h.get 4=some O->ca=bp (eb ((bM ay c).1.getD 0 0) 2)->cJ h ⟨0,0,0,0,6⟩ ca/\∀Z,cK h ⟨0,0,0,0,6⟩ ca Z->_root_.cond (Nat.ble 5 Z.M) (a (.tuple []) Z) False)
 (g:∀{h:T},x.toNat=27->valid (ak.drop 1++[c])=false->((bM ay c).2.length:Int)=0->Nat.ble 5 h.M=true->h.get 0=some (bJ 0 (b9 .cp) 1 (.aB 2 ad 0 ak.length ak.length) pv false ov ty)->h.get 1=some (bT (bM ay c).2 (bS ay 0 j0) (bS ay 1 j1) (bS ay 2 j2) (bS ay 3 j3) uty)->h.get 2=some (b4 (aE ak) 1 ad m b b')->h.get 3=some P->h.get 4=some O->dA (2^30-8) eV h ⟨0,0,0,0,6⟩ c.toNat/\∀Z,dB Keys.bad h ⟨0,0,0,0,6⟩ c.toNat Z->_root_.cond (Nat.ble 5 Z.M) (a (.tuple []) Z) False)
 (j:∀{h:T},x.toNat=27->valid (ak.drop 1++[c])=false-> ¬((bM ay c).2.length:Int)=0->Nat.ble 5 h.M=true->h.get 0=some (bJ 0 (b9 .cp) 1 (.aB 2 ad 0 ak.length ak.length) pv false ov ty)->h.get 1=some (bT [] (bS (bM ay c).2 0 (bS ay 0 j0)) (bS (bM ay c).2 1 (bS ay 1 j1)) (bS (bM ay c).2 2 (bS ay 2 j2)) (bS (bM ay c).2 3 (bS ay 3 j3)) uty)->h.get 2=some (b4 (aE ak) 1 ad m b b')->h.get 3=some P->h.get 4=some O->dA (2^30-8) eV h ⟨0,0,0,0,6⟩ c.toNat/\∀Z,dB Keys.bad h ⟨0,0,0,0,6⟩ c.toNat Z->_root_.cond (Nat.ble 5 Z.M) (a (.tuple []) Z) False)
 (o:∀{h:T}{ca:J},x.toNat≠27->valid (ak++[c])=true->Nat.ble 5 h.M=true->h.get 0=some (bJ 0 (b9 .cp) 1 (.aB 2 (ad+1) 0 (ak.length+1) (ak.length+1)) pv false ov ty)->h.get 1=some (bT (bM ay c).2 (bS ay 0 j0) (bS ay 1 j1) (bS ay 2 j2) (bS ay 3 j3) uty)->h.get 2=some (b4 (aE ak++[.ac c.toNat]) 1 (ad+1) m (if m=ad then(aE ak).length else min b (aE ak).length) b')->h.get 3=some P->h.get 4=some O->ca=bp (eb ((bM ay c).1.getD 0 0) 0)->cJ h ⟨0,0,0,0,6⟩ ca/\∀Z,cK h ⟨0,0,0,0,6⟩ ca Z->_root_.cond (Nat.ble 5 Z.M) (a (.tuple []) Z) False)
 (f:∀{h:T},x.toNat≠27->valid (ak++[c])=false->((bM ay c).2.length:Int)=0->Nat.ble 5 h.M=true->h.get 0=some (bJ 0 (b9 .cp) 1 (.aB 2 ad 0 ak.length ak.length) pv false ov ty)->h.get 1=some (bT (bM ay c).2 (bS ay 0 j0) (bS ay 1 j1) (bS ay 2 j2) (bS ay 3 j3) uty)->h.get 2=some (b4 (aE ak) 1 ad m b b')->h.get 3=some P->h.get 4=some O->dA (2^30-8) eV h ⟨0,0,0,0,6⟩ c.toNat/\∀Z,dB Keys.bad h ⟨0,0,0,0,6⟩ c.toNat Z->_root_.cond (Nat.ble 5 Z.M) (a (.tuple []) Z) False)
 (i:∀{h:T},x.toNat≠27->valid (ak++[c])=false-> ¬((bM ay c).2.length:Int)=0->Nat.ble 5 h.M=true->h.get 0=some (bJ 0 (b9 .cp) 1 (.aB 2 ad 0 ak.length ak.length) pv false ov ty)->h.get 1=some (bT [] (bS (bM ay c).2 0 (bS ay 0 j0)) (bS (bM ay c).2 1 (bS ay 1 j1)) (bS (bM ay c).2 2 (bS ay 2 j2)) (bS (bM ay c).2 3 (bS ay 3 j3)) uty)->h.get 2=some (b4 (aE ak) 1 ad m b b')->h.get 3=some P->h.get 4=some O->dA (2^30-8) eV h ⟨0,0,0,0,6⟩ c.toNat/\∀Z,dB Keys.bad h ⟨0,0,0,0,6⟩ c.toNat Z->_root_.cond (Nat.ble 5 Z.M) (a (.tuple []) Z) False) :
 ∃v Z,be 90 [.ptr (some ⟨0,0,0,0,6⟩),.ac c.toNat] (T.of [bJ 0 (b9 .cp) 1 (.aB 2 ad 0 ak.length ak.length) pv false ov ty,bT ay j0 j1 j2 j3 uty,b4 (aE ak) 1 ad m b b',P,O]) v Z/\a v Z:=by
 refine Rb (b9 .cp) pv ov ty uty P O (aE ak) ad m b ak.length (bS ay 0 j0) (bS ay 1 j1) (bS ay 2 j2) (bS ay 3 j3) ay.length c.toNat a ?_
 delta tT BH mR cx dE lX w6 ga rv ru dy BB fi pP tU gH BE dK fC tP tO h4 BD BJ BI BC BK BG h5 BF
 have ah:aS (aE ak) 0=x.toNat:=by rw [d];rfl
 have w:(aE ak)[0]? =some (J.ac x.toNat):=by rw [d];rfl
 have C:ak.length<=4:=by
  have:at' ak<=1:=by unfold at';split<;>(try split)<;>omega
  omega
 have B:0<ak.length:= A;have q:(ak++[c]).drop 1=ak.drop 1++[c]:=by rw [d];rfl
 have y:=ld ak;have z:=w' ak c;have E:=BN ay j0 j1 j2 j3 c r s
 have l:(x.toNat:Int)=27->(ak.length:Int)=1->False:=λe aQ=>by
  have u:x=27:=fz.1 (by show x.toNat=27;omega);have:at' ak=1:=by rw [d,u];rfl
  omega
 have k:(ak.length:Int)=0->False:=λe=> A
 have n:¬(0:Int)<ak.length->False:=λe=> A
 rw [BL ay j0 j1 j2 j3 c A];simp only [BP,BQ,BR,xa,xb,lW,q,ah];refine⟨?_,λe=>(n e).elim⟩
 repeat' (first
  |assumption
  |exact p A (by assumption) ao ao ao ao ao ao rfl
  |exact g A (by assumption) (by assumption) ao ao ao ao ao ao
  |exact j A (by assumption) (by assumption) ao ao ao ao ao ao
  |exact(oi ‹valid (ak.drop 1++[c])=true› ‹valid (ak.drop 1++[c])=false›).elim
  |exact o A (by assumption) ao ao ao ao ao ao rfl
  |exact f A (by assumption) (by assumption) ao ao ao ao ao ao
  |exact i A (by assumption) (by assumption) ao ao ao ao ao ao
  |exact(oi ‹valid (ak++[c])=true› ‹valid (ak++[c])=false›).elim
  |exact(l (by assumption) (by assumption)).elim
  |exact(k (by assumption)).elim
  |intro _
  |refine And.intro ?_ ?_
  |exact True.intro
  |assumption
  |rfl
  |omega
  |exact lY _ _ _
  |exact w9 _ _ _ _
  |(simp only [dt,eF,bK,cq,ld];omega)
  |(refine nJ ?_;simp only [dt,eF,bK,cq,ld];omega))
def G5:∀(k:Nat)(s:Bytes),(fr k s).2.length<=s.length
 |0,s=>by simp [fr]
 |k+1,[]=>by simp [fr]
 |k +1,b::r=>by
  unfold fr;split
  .exact Nat.le_refl _
  .refine Nat.le_trans (G5 k _) ?_;rw [eF];omega
def Rg(ay:Bytes)(c:UInt8):(bM ay c).2.length<=ay.length+1:=by have:=G5 (ay.length+1) (ay++[c]);rw [dt]at this;exact this
def G6(ay:Bytes)(c:UInt8)(h:(bM ay c).1=[]):0<(bM ay c).2.length:=by
 unfold bM at h⊢;cases hs:ay++[c]with
 |nil=>simp at hs
 |cons b r =>
  rw [hs]at h;unfold fr at h⊢;split
  .simp
  .rename_i e;rw [ai e]at h;simp at h
def Rh{ak ay ax:Bytes}(h:(bM ay c).1=[]):Keys.cp ⟨.cp,ak,ay,ax⟩ c=(⟨.cp,ak++[c],(bM ay c).2,ax⟩,[]):=by
 have ag:=G6 ay c h;have a:(bM ay c).2≠[]:=λe=>by rw [e]at ag;simp at ag
 simp [Keys.cp,e5,h,a]
def G7{ak ay ax:Bytes}{a:Nat}(b:at' ak=a)(h:(bM ay c).1≠[])(f:valid (ak.drop a++[c])=true)(d:(ak++[c]).drop a=ak.drop a++[c]):Keys.cp ⟨.cp,ak,ay,ax⟩ c=(⟨.ground,[],(bM ay c).2,ax⟩,[eb ((bM ay c).1.getD 0 0) (2*a)]):=by
 subst b;have e:(bM ay c).1.headD 0=(bM ay c).1.getD 0 0:=by cases (bM ay c).1<;>rfl
 unfold Keys.cp e5;simp only [h,and_false,ez,f,or_true,dG,d,tell,e]
def G8{ak ay ax:Bytes}{a:Nat}(b:at' ak=a)(h:(bM ay c).1≠[])(d:ak.length≠a)(e:valid (ak.drop a++[c])=false):Keys.cp ⟨.cp,ak,ay,ax⟩ c=Keys.bad ⟨.cp,ak,[],ax⟩ c:=by subst b;unfold Keys.cp e5;simp [h,e,d]
def tV(s:bI)(c:UInt8):Prop:=s.nx=.cp/\s.ay=s.ak.drop (at' s.ak)/\0<s.ay.length/\s.ay.length<=3/\(first s.ay).2.2=true
def Ri{H:T}{I:b3}{s:bI}{es:List aP}(g:b1 H d I s es)(z:es.length<2^30-8)(a5:tV s c):∃H',be 90 [.ptr (some ⟨d,0,0,0,6⟩),.ac c.toNat] H (.tuple []) H' /\
 ∃aH,b1 H' d aH (Keys.cp s c).1 (es++(Keys.cp s c).2)/\Fr H H' d I aH:=by
 refine pU ?_ g;intro ks kv pv ov ty uty j0 j1 j2 j3 K P O C hs gs u;obtain⟨a3,ae,p⟩:=kw gs;obtain⟨nx,ak,ay,ax⟩:=s;obtain⟨Y,N,R,Q,S⟩:=a5;simp only at Y N R Q S hs gs a3 ae p⊢;subst Y
 have bn:ks=.grown []:=by
  cases ks with
  |grown j=>cases j with
   |nil=>rfl
   |cons a b=>exact hs.elim
  |_=>exact hs.elim
 subst bn;have y:ak≠[]:=hs
 obtain⟨x,t,D⟩:∃x t,ak=x::t:=by
  cases ak with
  |nil=>exact absurd rfl y
  |cons x t=>exact⟨x,t,rfl⟩
 obtain⟨bv,ad,m,L,rfl,am⟩:=a3;have r:C.k=2:= A;rw [r,T.dI]at am;simp only [fR,hj,a8,eQ]at am;subst am;rw [r]at ae p⊢;simp only [cq]at ae p⊢;have bs:at' ak<=1:=by unfold at';split<;>(try split)<;>omega
 have a2:at' ak=if x=27 then 1 else 0:=by rw [D];rfl
 have hlen:ak.length=at' ak+ay.length:=by
  rw [N,eF];have:0<ak.length:=by rw [D];simp
  omega
 have U:(bM ay c).2.length<=4:=by have:=Rg ay c;omega
 have X:x.toNat=27->at' ak=1:=λe=>by have:x=27:=fz.1 (by show x.toNat=27;exact e);rw [a2,az this]
 have fD:x.toNat≠27->at' ak=0:=λe=>by rw [a2,ai (by rintro rfl;exact e rfl)]
 have a9:(ak++[c]).drop 1=ak.drop 1++[c]:=by rw [D];rfl
 have W:((bM ay c).2.length:Int)=0->(bM ay c).2=[]:=λe=>pc A
 have fin:∀{E:bI×List aP},(∃v Z,be 90 [.ptr (some ⟨0,0,0,0,6⟩),.ac c.toNat] (T.of [bJ 0 (b9 .cp) 1 (.aB 2 ad 0 ak.length ak.length) pv false ov ty,bT ay j0 j1 j2 j3 uty,b4 (aE ak) 1 ad m L b',P,O]) v Z /\
  (v=.tuple []/\∃aH,b1 Z 0 aH E.1 (es++E.2)/\Fr (T.of [bJ 0 (b9 .cp) 1 (.aB 2 ad 0 ak.length ak.length) pv false ov ty,bT ay j0 j1 j2 j3 uty,b4 (aE ak) 1 ad m L b',P,O]) Z 0 C aH)) ->
  ∃Z,be 90 [.ptr (some ⟨0,0,0,0,6⟩),.ac c.toNat] (T.of [bJ 0 (b9 .cp) 1 (.aB 2 ad 0 ak.length ak.length) pv false ov ty,bT ay j0 j1 j2 j3 uty,b4 (aE ak) 1 ad m L b',P,O]) (.tuple []) Z/\∃aH,b1 Z 0 aH E.1 (es++E.2)/\Fr (T.of [bJ 0 (b9 .cp) 1 (.aB 2 ad 0 ak.length ak.length) pv false ov ty,bT ay j0 j1 j2 j3 uty,b4 (aE ak) 1 ad m L b',P,O]) Z 0 C aH:=by
  rintro E ⟨v,Z,N,rfl,q⟩;exact⟨Z,N,q⟩
 by_cases B:(bM ay c).1=[]
 .rw [Rh (ak:=ak) (ax:=ax) B];refine fin (Rd D Q S B hlen R (λe=>e (by have:=G6 ay c B;omega)) (λv Z=>v=.tuple []/\∃aH,b1 Z 0 aH _ (es++_)/\Fr _ Z 0 C aH) ?_);intro h o e0 aQ aZ l n;refine⟨rfl,?_⟩;rw [gy];exact Rc (ak:=ak++[c]) o e0 aQ aZ l n au (ky _ _) au ae p u r
 .have rz:x.toNat=27->valid (ak.drop 1++[c])=true->_:=λf i=>G7 (ax:=ax) (ay:=ay) (X f) B i a9
  have a0:x.toNat≠27->valid (ak++[c])=true->_:=λf i=>G7 (ax:=ax) (ay:=ay) (fD f) B i rfl
  have G:x.toNat=27->valid (ak.drop 1++[c])=false->_:=λf i=>G8 (ax:=ax) (ay:=ay) (X f) B (by have:=X f;omega) i
  have F:x.toNat≠27->valid (ak++[c])=false->_:=λf i=>G8 (ax:=ax) (ay:=ay) (fD f) B (by have:=fD f;omega) i
  by_cases a4:(bM ay c).1.length=1
  .refine fin (Re D Q S a4 hlen R (λv Z=>v=.tuple []/\∃aH,b1 Z 0 aH (Keys.cp ⟨.cp,ak,ay,ax⟩ c).1 (es++(Keys.cp ⟨.cp,ak,ay,ax⟩ c).2)/\Fr _ Z 0 C aH) ?_ ?_ ?_ ?_ ?_ ?_)
   .intro h ca f i o e0 aQ aZ l n he;exact pX (ak:=ak++[c]) o e0 aQ aZ l n au (ky _ _) ae p u r he A U λZ aH g cd=>⟨rfl,aH,by rw [rz f i];exact g,cd⟩
   .intro h f i w o e0 aQ aZ l n;rw [W w]at aQ;exact ou o e0 aQ aZ l n y ae p u r z λZ aH g cd=>⟨rfl,aH,by rw [G f i];exact g,cd⟩
   .intro h f i w o e0 aQ aZ l n;exact ou o e0 aQ aZ l n y ae p u r z λZ aH g cd=>⟨rfl,aH,by rw [G f i];exact g,cd⟩
   .intro h ca f i o e0 aQ aZ l n he;exact pX (ak:=ak++[c]) o e0 aQ aZ l n au (ky _ _) ae p u r he A U λZ aH g cd=>⟨rfl,aH,by rw [a0 f i];exact g,cd⟩
   .intro h f i w o e0 aQ aZ l n;rw [W w]at aQ;exact ou o e0 aQ aZ l n y ae p u r z λZ aH g cd=>⟨rfl,aH,by rw [F f i];exact g,cd⟩
   .intro h f i w o e0 aQ aZ l n;exact ou o e0 aQ aZ l n y ae p u r z λZ aH g cd=>⟨rfl,aH,by rw [F f i];exact g,cd⟩
  .refine fin (Rf D Q S B a4 hlen R (λv Z=>v=.tuple []/\∃aH,b1 Z 0 aH (Keys.cp ⟨.cp,ak,ay,ax⟩ c).1 (es++(Keys.cp ⟨.cp,ak,ay,ax⟩ c).2)/\Fr _ Z 0 C aH) ?_ ?_ ?_ ?_ ?_ ?_)
   .intro h ca f i o e0 aQ aZ l n he;exact pX (ak:=ak++[c]) o e0 aQ aZ l n au (ky _ _) ae p u r he A U λZ aH g cd=>⟨rfl,aH,by rw [rz f i];exact g,cd⟩
   .intro h f i w o e0 aQ aZ l n;rw [W w]at aQ;exact ou o e0 aQ aZ l n y ae p u r z λZ aH g cd=>⟨rfl,aH,by rw [G f i];exact g,cd⟩
   .intro h f i w o e0 aQ aZ l n;exact ou o e0 aQ aZ l n y ae p u r z λZ aH g cd=>⟨rfl,aH,by rw [G f i];exact g,cd⟩
   .intro h ca f i o e0 aQ aZ l n he;exact pX (ak:=ak++[c]) o e0 aQ aZ l n au (ky _ _) ae p u r he A U λZ aH g cd=>⟨rfl,aH,by rw [a0 f i];exact g,cd⟩
   .intro h f i w o e0 aQ aZ l n;rw [W w]at aQ;exact ou o e0 aQ aZ l n y ae p u r z λZ aH g cd=>⟨rfl,aH,by rw [F f i];exact g,cd⟩
   .intro h f i w o e0 aQ aZ l n;exact ou o e0 aQ aZ l n y ae p u r z λZ aH g cd=>⟨rfl,aH,by rw [F f i];exact g,cd⟩
def Rj:∀args h a,hN (2^30-8) tV Keys.cp args h=some a->a.cG Tryz.prog cz 90 args h:=om λH d I s es c g e f b=>Ri g e b
noncomputable def G9:dQ:=tM.add 90 (hN (2^30-8) tV Keys.cp)
def Rk:dC Tryz.prog cz G9:=w5.add Rj
abbrev G':J:=J.agg [.V 13,.V 9,.V 127,.V 27]
abbrev BS(b a:Int):J:=J.agg [.bA 1,.av b,.ac a,.V 0,.V 0,.str []]
abbrev tW(a:Int):J:=J.agg [.bA 2,.av 1,.ac a,.V 0,.V 0,.str []]
abbrev tX(a:Int):J:=J.agg [.bA 2,.av 2,.ac a,.V 0,.V 0,.str []]
abbrev tY(a:Int):J:=J.agg [.bA 2,.av 3,.ac a,.V 0,.V 0,.str []]
abbrev tZ(a:Int):J:=J.agg [.bA 2,.av 4,.ac a,.V 0,.V 0,.str []]
abbrev fE:J:=J.agg [.bA 0,.av 0,.ac 0,.V 0,.V 0,.str []]
abbrev bF:aa:=aa.an [fE] 6 true (some (42,6))
abbrev ow:aa:=(aa.an ([G']) 4 true (some (109,4)))
def Rl(a b:Int)(c:aU)(d:(13=a->c (.tuple [(tW b),.aK]) (af 22 [(0,(aL (tW b))),(4,ow)]))/\(¬13=a->(9=a->c (.tuple [(tX b),.aK]) (af 32 [(0,(aL (tX b))),(4,ow)]))/\(¬9=a->(127=a->c (.tuple [(tY b),.aK]) (af 42 [(0,(aL (tY b))),(4,ow)]))/\(¬127=a->(27=a->c (.tuple [(tZ b),.aK]) (af 52 [(0,(aL (tZ b))),(4,ow)]))/\(¬27=a->(2097152<a->c (.tuple [fE,.aJ]) (af 59 [(0,(aL fE)),(4,ow)]))/\(¬2097152<a->(cf a)/\(shown a=true->(cf a)/\c (.tuple [(BS a b),.aK]) (af 62 [(0,(aL (BS a b))),(4,ow)]))/\(shown a=false->c (.tuple [fE,.aJ]) (af 59 [(0,(aL fE)),(4,ow)])))))))) :
 bl 149 [.V a,.ac b] bG c :=
 bm ci (he 1000<|.aG (.rounds 300)<|.al 4002 .nil<|.al 4002 .nil<|.al 4002 .nil<|.al 4002 .nil<|.al 7001 .nil<|ab 7004<|.al 7005 (ab 9001 .nil) .nil) d
def d':aP:= {kind:=0}
def fv(o:Option aP):J:= .tuple [bp (o.getD d'),.bool o.isSome]
def Rm(n:Nat)(m:Int)(H:T):be 149 [.V n,.ac m] H (fv (Keys.c1 n m)) H:=by
 refine bj.bU (Rl n m (λv _=>v=fv (Keys.c1 n m)) ?_) rfl rfl H
 delta ow G' fE BS tZ tY tX tW
 refine⟨λe=> ?_,λY=>⟨λe=> ?_,λag=>⟨λe=> ?_,λf=>⟨λe=> ?_,λg=>⟨λe=> ?_,λh=>⟨A,λe=>⟨A,?_⟩,λe=> ?_⟩⟩⟩⟩⟩⟩
 .have e:n=13:= A;rw [show Keys.c1 n m=some (dp 1 m)by simp [Keys.c1,e]];rfl
 .have e:n=9:= A;rw [show Keys.c1 n m=some (dp 2 m)by simp [Keys.c1,e]];rfl
 .have e:n=127:= A;rw [show Keys.c1 n m=some (dp 3 m)by simp [Keys.c1,e]];rfl
 .have e:n=27:= A;rw [show Keys.c1 n m=some (dp 4 m)by simp [Keys.c1,e]];rfl
 all_goals
  have b:n≠13:= A;have n2:n≠9:= A;have c:n≠127:= A;have d:n≠27:= A
 .have a:2097152<n:= A;rw [show Keys.c1 n m=none by simp [Keys.c1,b,n2,c,d,a]];rfl
 .have a:¬2097152<n:= A;rw [show Keys.c1 n m=some (eb n m)by simp [Keys.c1,b,n2,c,d,a,e]];rfl
 .have a:¬2097152<n:= A;rw [show Keys.c1 n m=none by simp [Keys.c1,b,n2,c,d,a,e]];rfl
def Ha(a:UInt8)(b:Bytes)(c:Int)(d:b8->bc->T->Prop)(g:(0<(↑((a::b).length):Int)->((↑(UInt8.toNat a):Int)=c->((0:Int)<=1/\1<=(↑((a::b).length):Int))/\d .normal [(0,.str b),(1,.ac c)] (af 12 []))/\(¬(↑(UInt8.toNat a):Int)=c->d (.exit 0) [(0,.str (a::b)),(1,.ac c)] (af 9 [])))/\(¬0<(↑((a::b).length):Int)->d (.exit 0) [(0,.str (a::b)),(1,.ac c)] (af 9 []))) :
 ∃e f Y,bN 0 17 (bu 142 0) [(0,.str (a::b)),(1,.ac c)] bG e f Y/\d e f Y :=
 dD c6 mixed bL (hs:= .al 1002 (.al 1007 (ab 2001 .nil) .nil) .nil) (keep:=[0,1]) ao g
def Rn(c:Int)(b:b8->bc->T->Prop)(d:b (.exit 0) [(0,.str []),(1,.ac c)] (af 9 [])) :
 ∃e a Y,bN 0 17 (bu 142 0) [(0,.str []),(1,.ac c)] bG e a Y/\b e a Y :=
 dD c6 mixed bL (hs:= .nil) (keep:=[0,1]) ao d
def Ro(e c:Bytes)(a:Int)(b:T)(d:aU)(f:bN 0 17 (Code.loop (bu 142 0)) [(0,.str e),(1,.ac a)] (af 1 []) (.exit 0) [(0,.str c),(1,.ac a)] b/\d (.str c) (T.mk (b.M+2) (T.aF b))) :
 bl 142 [.str e,.ac a] bG d :=
 bm bL (.aG (.keep [0,1])<|.aG (.loop [(0,.str c),(1,.ac a)] b (.exit 0)) .nil) f
def Rp(a:Bytes)(b:aU)(c:(a=[]->b (.str a) (af 9 []))/\(¬a=[]->bk 142 [.str a,.ac 48] (af 20 []) (.str (List.dropWhile (λx=>x == 48) a)) (af 20 [])/\b (.str (List.dropWhile (λx=>x == 48) a)) (af 20 []))) :
 bl 128 [.str a,.str [48]] bG b :=
 bm bL (.al 1001 .nil<|ap 4003 (.str (List.dropWhile (λx=>x == 48) a)) .nil) c
def Rq(b a:Bytes)(c:aU)(d:((↑(a.length):Int)<=(↑(b.length):Int)->(0<=(↑(a.length):Int)/\(↑(a.length):Int)<=(↑(b.length):Int))/\(b.take ((↑(a.length):Int).toNat)=a->c .aK (af 20 []))/\(¬(b.take ((↑(a.length):Int).toNat))=a->c .aJ (af 20 [])))/\(¬(↑(a.length):Int)<=(↑(b.length):Int)->c .aJ (af 20 []))) :
 bl 146 [.str b,.str a] bG c :=
 bm bL (he 1002<|.al 1004 (ab 1009 (.al 1011 .nil .nil)) .nil) d
def Rr(b a:Bytes)(c:aU)(d:((↑(a.length):Int)<=(↑(b.length):Int)->(0<=(↑(a.length):Int)/\(↑(a.length):Int)<=(↑(b.length):Int))/\(b.take ((↑(a.length):Int).toNat)=a->(0<=(↑(a.length):Int)/\(↑(a.length):Int)<=(↑(b.length):Int))/\c (.tuple [.str (b.drop ((↑(a.length):Int).toNat)),.aK]) (af 36 []))/\(¬(b.take ((↑(a.length):Int).toNat))=a->c (.tuple [.str b,.aJ]) (af 33 [])))/\(¬(↑(a.length):Int)<=(↑(b.length):Int)->c (.tuple [.str b,.aJ]) (af 33 []))) :
 bl 53 [.str b,.str a] bG c :=
 bm bL (he 1002<|he 1002<|.al 1004 (ab 1009 (.al 1011 (ab 3003 .nil) .nil)) .nil) d
abbrev pY(s:Bytes)(c:UInt8):bc:=[(0,.str s),(1,.int .u8 c.toNat)]
def Hb(s:Bytes)(c:UInt8)(h:T):bW 0 17 (pY s c) h (pY s c) ⟨0,.nil⟩ :=
 bW.drop (K:=0) (l:=[]) rfl rfl rfl rfl (aX.cons trivial (aX.cons trivial aX.nil)) aX.nil
def Hc(c:UInt8):∀s:Bytes,∃Z,dd 0 17 (bu 142 0) (pY s c) ⟨0,.nil⟩ (.exit 0) (pY (s.dropWhile (· == c)) c) Z
 |[]=>by obtain⟨e,a,Y,b,rfl,rfl⟩:=Rn c.toNat (λe a Y=>e=.exit 0/\a=pY [] c) ⟨rfl,rfl⟩;exact⟨Y,b2.last au b⟩
 |x ::r=>by
  by_cases d:x=c
  .subst d;obtain⟨e,a,Y,b,rfl,rfl⟩:=Ha x r x.toNat (λe a Y=>e=.normal/\a=pY r x) ⟨λ_=>⟨λ_=>⟨⟨aC,by simp only [bK];omega⟩,rfl,rfl⟩,λh=>absurd rfl h⟩,λh=>by simp at h⟩;obtain⟨Z,f⟩:=Hc x r;refine⟨Z,?_⟩;rw [List.dropWhile_cons_of_pos au];exact b2.step (b.post (Hb r x Y)) f
  .have g:¬(x.toNat:Int)=(c.toNat:Int):=λh=>d (fz.1 A)
   obtain⟨e,a,Y,b,rfl,rfl⟩:=Ha x r c.toNat (λe a Y=>e=.exit 0/\a=pY (x::r) c) ⟨λ_=>⟨λh=>absurd h g,λ_=>⟨rfl,rfl⟩⟩,λh=>by simp at h⟩;refine⟨Y,?_⟩;rw [List.dropWhile_cons_of_neg (by simpa using d)];exact b2.last au b
def Rs(s:Bytes)(c:UInt8)(H:T):be 142 [.str s,.ac c.toNat] H (.str (s.dropWhile (· == c))) H:=by obtain⟨Z,a⟩:=Hc c s;exact bj.bU (Ro s (s.dropWhile (· == c)) c.toNat Z (λv _=>v=.str (s.dropWhile (· == c))) ⟨cO.dn (a.pre (Hb s c _)),rfl⟩) rfl rfl H
def Rt(s:Bytes)(H:T):be 128 [.str s,.str [48]] H (.str (s.dropWhile (· == 48))) H :=
 bj.bU (Rp s (λv _=>v=.str (s.dropWhile (· == 48))) ⟨λh=>by subst h;rfl,λh=>⟨⟨Rs s 48 _⟩,rfl⟩⟩) rfl rfl H
def pre_true{s p:Bytes}(h:s.take p.length=p):p.isPrefixOf s=true:=by rw [qB,yP];exact h.symm
def xc{s p:Bytes}(h:¬s.take p.length=p):p.isPrefixOf s=false:=by
 cases a:p.isPrefixOf s with
 |false=>rfl
 |true=>rw [qB,yP]at a;exact absurd a.symm h
def take_len{s p:Bytes}(h:¬p.length<=s.length):¬s.take p.length=p:=λe=>h (by have:=dm List.length e;simp at this;omega)
def Ru(s p:Bytes)(H:T):be 146 [.str s,.str p] H (.bool (p.isPrefixOf s)) H:=by
 refine bj.bU (Rq s p (λv _=>v=.bool (p.isPrefixOf s)) ⟨λh=>⟨⟨A,h⟩,λe=> ?_,λe=> ?_⟩,λh=> ?_⟩) rfl rfl H
 .rw [pre_true (by simpa using e)]
 .rw [xc (by simpa using e)]
 .rw [xc (take_len A)]
def pZ(s p:Bytes):J:= .tuple [.str (if p.isPrefixOf s then s.drop p.length else s),.bool (p.isPrefixOf s)]
def Hd(s p:Bytes)(H:T):be 53 [.str s,.str p] H (pZ s p) H:=by
 refine bj.bU (Rr s p (λv _=>v=pZ s p) ⟨λh=>⟨⟨A,h⟩,λe=>⟨⟨A,h⟩,?_⟩,λe=> ?_⟩,λh=> ?_⟩) rfl rfl H
 .unfold pZ;rw [pre_true (by simpa using e)];simp
 .unfold pZ;rw [xc (by simpa using e)];simp
 .unfold pZ;rw [xc (take_len A)];simp
end Go.Proofs.zz
namespace Go.Keys
def rA(c:UInt8):∀s:Bytes,splitAt c s≠[]
 |[]=>by simp [splitAt]
 |b ::r=>by
  unfold splitAt;split
  .simp
  .cases h:splitAt c r with
   |nil=>exact absurd h (rA c r)
   |cons w t=>simp
def BT(c:UInt8):∀s:Bytes,(splitAt c s).length=s.count c+1
 |[]=>rfl
 |b ::r=>by
  have ih:=BT c r;unfold splitAt;split
  .rename_i h;subst h;simp [ih]
  .rename_i h;cases hs:splitAt c r with
   |nil=>exact absurd hs (rA c r)
   |cons w t =>
    rw [hs]at ih;simp only [bK]at ih⊢;rw [List.count_cons_of_ne (by simpa using h)];omega
def He{c:UInt8} :∀{s:Bytes},s.count c=0->splitAt c s=[s]
 |[],_=>rfl
 |b ::r,h=>by
  have a:¬b=c:=by intro e;subst e;simp at h
  rw [List.count_cons_of_ne (by simpa using a)]at h;unfold splitAt;rw [ai a,He h]
def Hf{c:UInt8} :∀{s:Bytes},s.count c≠0-> ∃m:Nat,Go.Lib.indexByte s c=m/\m<s.length/\splitAt c s=s.take m::splitAt c (s.drop (m+1))/\s.count c=(s.drop (m+1)).count c+1
 |[],h=>by simp at h
 |b ::r,h=>by
  by_cases a:b=c
  .subst a;refine⟨0,by simp [Go.Lib.indexByte],au,?_,au⟩;rw [splitAt,az rfl];simp
  .rw [List.count_cons_of_ne (by simpa using a)]at h⊢;obtain⟨m,aQ,aZ,d,e⟩:=Hf h;refine⟨m+1,?_,by simp;omega,?_,by simpa using e⟩
   .unfold Go.Lib.indexByte;rw [ai (by simpa using a),aQ,ai (by rw [jB];omega)];rfl
   .rw [splitAt,ai a,d];simp
def hO(w:Bytes):Bool:= !(decide (w=[]) || decide (9<w.length) || w.all digit == false)
def Hg:∀{l:List Bytes},(∀w∈l,hO w=true)->fX l=some (l.map number)
 |[],_=>rfl
 |w ::r,h=>by
  have aM:=h w kQ
  have hw:¬(w=[]\/9<w.length\/w.all digit=false):=by intro q;unfold hO at aM;rcases q with q|q|q<;>simp [q]at aM
  rw [fX,ai hw,Hg λx a=>h x (kh _ a)];rfl
def Hh:∀{a b:List Bytes}{w:Bytes},hO w=false->fX (a++w::b)=none
 |[],b,w,h=>by
  have hw:w=[]\/9<w.length\/w.all digit=false:=by
   unfold hO at h;simp only [Bool.not_eq_false',eC,eP,jB]at h;rcases h with (h|h)|h
   .exact .inl h
   .exact .inr (.inl h)
   .exact .inr (.inr h)
  rw [eQ,fX,az hw]
 |x::a,b,w,h=>by rw [hB,fX,Hh h];split<;>rfl
def Rv:∀(w:Bytes),w.all digit=true->number w<10^w.length:=by
 suffices h:∀(w:Bytes)(n k:Nat),w.all digit=true->n<10^k->w.foldl (λn b=>10*n+(b.toNat-48)) n<10^(k+w.length)from λw hw=>by
  have:=h w 0 0 hw aC
  rwa [gw]at this
 intro w;induction w with
 |nil=>intro n k _ h;exact h
 |cons b r ih =>
  intro n k hw h;simp only [iE,cC,digit,eP]at hw;rw [hT,bK,show k+(r.length+1)=k+1+r.length by omega];refine ih _ _ hw.2 ?_;rw [Nat.pow_succ];omega
def Hi:∀{l:List Bytes}{r:List Nat},fX l=some r-> ∀n∈r,n<1000000000
 |[],r,h=>by simp [fX]at h;subst h;simp
 |w :: t, r,h=>by
  rw [fX]at h;split at h
  .cases h
  .rename_i hw;cases a:fX t with
   |none=>rw [a]at h;cases h
   |some x =>
    rw [a]at h;simp only [eE,a8]at h;subst h;intro n aw;rcases dR.1 aw with rfl|aw
    .have b:w.all digit=true:=by
      cases d:w.all digit with
      |true=>rfl
      |false=>exact absurd (.inr (.inr d)) hw
     have:=Rv w b;have c:w.length<=9:= A;exact kf this (vf aC c)
    .exact Hi a n aw
end Go.Keys
namespace Go.br
noncomputable section
open Go.RowKit Go.Shelf
section
variable {P:Program}{φ:Map}
def Rw{w a7:World}{a:Addr}(e:a7.heap[a.block]? =w.heap[a.block]?):a7.frozen? a=w.frozen? a:=by unfold World.frozen?;rw [e]
def Alike.below{w a7:World}(k:Below w.heap.size w a7):Alike w a7 where
 size:=k.size
 cell a c:=k.cell c
 frozen a c:=Rw (k.block _ c)
 mark b d:=pk (k.block _ d)
def Safe.Hj{aR:Nat->Prop}{aV w a7:World}(h:Safe aR aV w)(a:dS aR aV.heap.size)(k:Below w.heap.size w a7):Safe aR aV a7 :=
 h.trans ⟨k.os,k.tape,k.output,k.size,λi ah=>k.block i (kf (a i ah) h.size)⟩
def Rx{aR:Nat->Prop}{aV w:World}{h:T}{f:FuncId}{b:Array Value}{s:List UInt8}(j:dS aR aV.heap.size)(i:cv φ aR h w)(g:Safe aR aV w)
 (aj:Calls P f b w λe a7=>e=.returned (.string ⟨s.toArray⟩)/\Below w.heap.size w a7) :
 Calls P f b w λe a7=> ∃d a,e=.returned d/\dM φ a h.M/\aA a (.str s) d/\cv a aR h a7/\Safe aR aV a7/\h.M<=h.M :=
 aj.mono λe a7 ⟨he,c⟩=>⟨_,φ,he,dM.refl _ _,by simp only [aA];exact⟨_,rfl,au⟩,i.alike (Alike.below c),g.Hj j c,Nat.le_refl _⟩
end
end
end Go.br
namespace Go.Keys
def Hk:∀(w:Bytes)(n:Nat),w.all digit=true->Go.Lib.decFrom n w=some (w.foldl (λn b=>10*n+(b.toNat-48)) n)
 |[],n,_=>rfl
 |b::r,n,h=>by
  simp only [iE,cC,digit,eP]at h;have a:Go.Lib.digitVal b=some (b.toNat-48):=by unfold Go.Lib.digitVal;rw [az h.1]
  unfold Go.Lib.decFrom;rw [a];show Go.Lib.decFrom (n*10+(b.toNat-48)) r=_;rw [Hk r _ h.2,hT,Nat.mul_comm]
def Hl{w:Bytes}(aM:w≠[])(h:w.all digit=true):Go.Lib.atoi w=some (number w:Int):=by
 cases w with
 |nil=>exact absurd rfl aM
 |cons b r =>
  have a:48<=b.toNat/\b.toNat<=57:=by simp only [iE,cC,digit,eP]at h;exact h.1
  have d:(b == 45)=false:=by rw [mu];rintro rfl;revert a;decide
  have c:(b == 43)=false:=by rw [mu];rintro rfl;revert a;decide
  unfold Go.Lib.atoi;simp only [d,c,ey,ez];unfold Go.Lib.decNat;rw [List.isEmpty_cons];simp only [ey,ez];rw [Hk _ _ h];rfl
def kz:Bytes:=[48,49,50,51,52,53,54,55,56,57]
set_option maxRecDepth 100000 in
def Ry(b:UInt8):kz.contains b=digit b:=by have h:∀n:Fin 256,kz.contains (UInt8.ofNat n.val)=digit (UInt8.ofNat n.val):= aC;have:=h ⟨b.toNat,b.toNat_lt⟩;simpa using this
def xd(w:Bytes):Go.Lib.trimS w kz=[]↔w.all digit=true:=by
 have e:(λb=>kz.contains b)=digit:=funext Ry
 have a:∀l:Bytes,l.dropWhile digit=[]↔l.all digit=true:=by
  intro l;induction l with
  |nil=>simp
  |cons b r ih =>
   rw [List.dropWhile_cons];cases d:digit b with
   |true=>simp [ih,d]
   |false=>simp [d]
 unfold Go.Lib.trimS Go.Lib.trimLeftS Go.Lib.trimRightS;rw [e,a];constructor
 .intro h;have ag:((w.reverse.dropWhile digit)).all digit=true:=by simpa using h
  cases c:w.reverse.dropWhile digit with
  |nil =>
   have:=(a _).1 c;simpa using this
  |cons b r =>
   have f:digit b=false:=by have:=List.head?_dropWhile_not digit w.reverse;rw [c]at this;simpa using this
   rw [c]at ag;simp [f]at ag
 .intro h;have:w.reverse.dropWhile digit=[]:=(a _).2 (by simpa using h);rw [this];rfl
end Go.Keys
namespace Go.Proofs.zz
open Go.br Go.Shelf Go.RowKit Go.Keys
def Rz:Ren where
 f:=λx=>if x=119 then 165 else if x=120 then 171 else if x=137 then 164 else if x=151 then 155 else if x=152 then 159 else if x=160 then 157 else if x=197 then 154 else if x=217 then 115 else if x=224 then 117 else if x=225 then 116 else if x=227 then 143 else if x=228 then 153 else if x=231 then 142 else if x=232 then 161 else if x=233 then 144 else if x=234 then 162 else if x=235 then 145 else if x=236 then 163 else if x=260 then 158 else if x=266 then 133 else if x=271 then 168 else 0
 t:=λx=>if x=0 then 0 else if x=3 then 3 else if x=4 then 4 else if x=5 then 5 else if x=9 then 9 else if x=21 then 21 else if x=46 then 108 else if x=105 then 85 else if x=116 then 192 else if x=117 then 193 else if x=119 then 113 else if x=124 then 196 else if x=138 then 208 else if x=139 then 209 else 0
 g:=λx=>if x=3 then 8 else if x=4 then 9 else 0
def RA:Lays.n160 Tryz.prog Rz:=by constructor;all_goals first|kernel_rfl|(intro w;kernel_rfl)
def RB:Ren where
 f:=λx=>if x=129 then 136 else if x=171 then 49 else if x=172 then 55 else if x=205 then 127 else if x=243 then 75 else if x=244 then 84 else if x=245 then 85 else if x=246 then 96 else if x=247 then 100 else if x=279 then 101 else if x=280 then 102 else if x=281 then 103 else if x=282 then 104 else if x=283 then 119 else if x=284 then 120 else if x=285 then 121 else if x=286 then 122 else if x=287 then 125 else if x=316 then 126 else if x=317 then 135 else if x=318 then 137 else if x=319 then 138 else if x=320 then 139 else if x=321 then 140 else if x=322 then 141 else if x=337 then 151 else if x=338 then 152 else 0
 t:=λx=>if x=0 then 0 else if x=2 then 2 else if x=3 then 3 else if x=4 then 4 else if x=5 then 5 else if x=9 then 9 else if x=20 then 20 else if x=21 then 21 else if x=37 then 34 else if x=46 then 108 else if x=51 then 132 else if x=53 then 151 else if x=75 then 89 else if x=76 then 90 else if x=80 then 212 else if x=85 then 138 else if x=127 then 186 else if x=143 then 187 else if x=145 then 189 else if x=167 then 137 else if x=168 then 140 else if x=171 then 154 else if x=173 then 157 else if x=175 then 170 else if x=210 then 173 else if x=212 then 179 else if x=213 then 180 else if x=232 then 203 else if x=233 then 204 else 0
 g:=λx=>if x=15 then 3 else if x=16 then 4 else if x=17 then 5 else if x=18 then 6 else if x=19 then 7 else 0
def RC:Lays.n172 Tryz.prog RB:=by constructor;all_goals first|kernel_rfl|(intro w;kernel_rfl)
def RD(s:Bytes)(hs:s.length<2^40)(H:T):be 157 [.str s,.str kz] H (.str (Lib.trimS s kz)) H:=by
 intro aR aV h eh φ w e g f d;obtain⟨l⟩:=e;simp only [bo,aA]at d;obtain⟨a,t,rfl,⟨u,rfl,rfl⟩,b,t2,rfl,⟨c,rfl,aj⟩,rfl⟩:=d;refine⟨⟨Tryz.f157,_,ao,rfl⟩,Rx h g f ?_⟩;have j:u.size<2^40:=by simpa using hs
 have i:c.size=10:=(dm List.length aj).trans rfl;have k:=Any.strings_Trim_laid RA ao u c w A A (by rw [aj];exact ascii_of_all aC);rw [aj]at k;exact k
def Hm(s:Bytes)(hs:s.length<=18)(n:Int)(aw:Lib.atoi s=some n)(H:T):be 55 [.str s] H (.tuple [.V n,.nilIface]) H:=by
 intro aR aV h eh φ w d g f b;obtain⟨l⟩:=d;simp only [bo,aA]at b;obtain⟨a,t,rfl,⟨u,rfl,rfl⟩,rfl⟩:=b;refine⟨⟨Tryz.f55,_,ao,rfl⟩,?_⟩;have k:=Any.strconv_Atoi RC u n (by simpa using hs) aw w;refine k.mono λe a7 ⟨he,t,hw⟩=> ?_
 have c:Below w.heap.size w a7:=by rw [hw];exact Lib.bytesWorld_below _ _ _
 exact⟨_,φ,he,dM.refl _ _,by simp only [aA,bo];exact⟨_,rfl,_,_,rfl,rfl,_,_,rfl,rfl,rfl⟩,g.alike (Alike.below c),f.Hj h c,Nat.le_refl _⟩
def Hn:Ren where
 f:=λx=>if x=138 then 167 else if x=143 then 74 else if x=195 then 169 else if x=217 then 115 else if x=218 then 170 else if x=219 then 95 else if x=224 then 117 else if x=225 then 116 else if x=266 then 133 else if x=267 then 118 else if x=314 then 134 else 0
 t:=λx=>if x=0 then 0 else if x=3 then 3 else if x=4 then 4 else if x=5 then 5 else if x=9 then 9 else if x=46 then 108 else if x=51 then 132 else if x=146 then 176 else 0
 g:=λx=>if x=1 then 2 else 0
def RE:Lays.n138 Tryz.prog Hn:=by constructor;all_goals first|kernel_rfl|(intro w;kernel_rfl)
def RF:Lays.n143 Tryz.prog Hn:=by constructor;all_goals first|kernel_rfl|(intro w;kernel_rfl)
def Ho{c:UInt8}{b:ByteArray}(h:b.data.toList=[c]):b=⟨#[c]⟩:=by
 obtain⟨d⟩:=b;simp only at h
 congr 1
 exact Array.toList_inj.1 (by simpa using h)
def RG(s:Bytes)(c:UInt8)(H:T):be 167 [.str s,.str [c]] H (.V (Lib.countByte s c)) H:=by
 intro aR aV m eh φ w g i h f;obtain⟨l⟩:=g;simp only [bo,aA]at f;obtain⟨a,t,rfl,⟨u,rfl,rfl⟩,b,t2,rfl,⟨d,rfl,j⟩,rfl⟩:=f;refine⟨⟨Tryz.f167,_,ao,rfl⟩,?_⟩;have k:=Any.strings_Count_one RE u c w;rw [<-Ho j]at k
 exact k.mono λe a7 ⟨he,hw⟩=>by subst hw;exact⟨_,φ,he,dM.refl _ _,by simp only [aA],i,h,Nat.le_refl _⟩
def RH(s:Bytes)(c:UInt8)(H:T):be 74 [.str s,.str [c]] H (.V (Lib.indexByte s c)) H:=by
 intro aR aV m eh φ w g i h f;obtain⟨l⟩:=g;simp only [bo,aA]at f;obtain⟨a,t,rfl,⟨u,rfl,rfl⟩,b,t2,rfl,⟨d,rfl,j⟩,rfl⟩:=f;refine⟨⟨Tryz.f74,_,ao,rfl⟩,?_⟩;have k:=Any.strings_Index_one RF u c w;rw [<-Ho j]at k
 exact k.mono λe a7 ⟨he,hw⟩=>by subst hw;exact⟨_,φ,he,dM.refl _ _,by simp only [aA],i,h,Nat.le_refl _⟩
end Go.Proofs.zz
namespace Go.Proofs.zz
open Go.br Go.Keys
abbrev dz(l:List J)(de:Nat):aa:= {bg:=l,es:=1,exact:=true,ro:=false,ad:=0,eH:=de,fo:=0,ty:=none}
def RI(a f:Bytes)(d c b:Nat)(e:List J)(g:aU)(h:bk 167 [.str a,.str [59]] (af 12 []) (.V b) (af 12 [])/\(bd ((b:Int)+1))/\(-9223372036854775808<=(↑(a.length):Int)+1/\(↑(a.length):Int)+1<=9223372036854775807)/\((0<=if(↑(a.length):Int)+1<(b:Int)+1 then(↑(a.length):Int)+1 else(b:Int)+1)/\((if(↑(a.length):Int)+1<(b:Int)+1 then(↑(a.length):Int)+1 else(b:Int)+1)<=if(↑(a.length):Int)+1<(b:Int)+1 then(↑(a.length):Int)+1 else(b:Int)+1)/\(if(↑(a.length):Int)+1<(b:Int)+1 then(↑(a.length):Int)+1 else(b:Int)+1)<4611686018427387904/\(16*if(↑(a.length):Int)+1<(b:Int)+1 then(↑(a.length):Int)+1 else(b:Int)+1)<=281474976710656)/\(-9223372036854775808<=(if(↑(a.length):Int)+1<(b:Int)+1 then(↑(a.length):Int)+1 else(b:Int)+1)-1/\(if(↑(a.length):Int)+1<(b:Int)+1 then(↑(a.length):Int)+1 else(b:Int)+1)-1<=9223372036854775807)/\bN 0 66 (Code.loop (bu 160 0)) [(0,.str a),(1,.str [59]),(2,.V 0),(3,.V ((if(↑(a.length):Int)+1<(b:Int)+1 then(↑(a.length):Int)+1 else(b:Int)+1)-1)),(9,.slice (b5 19) ((if(↑(a.length):Int)+1<(b:Int)+1 then(↑(a.length):Int)+1 else(b:Int)+1).toNat) ((if(↑(a.length):Int)+1<(b:Int)+1 then(↑(a.length):Int)+1 else(b:Int)+1).toNat)),(10,.V 0)] (af 25 [(19,aa.an (List.replicate ((if(↑(a.length):Int)+1<(b:Int)+1 then(↑(a.length):Int)+1 else(b:Int)+1).toNat) (.str [])) 1 true)]) (.exit 0) [(0,.str f),(9,.slice (b5 50) d d),(10,.V c)] (af 60 [(50,dz e 0)])/\(0<=(c:Int)/\(c:Int)<(d:Int))/\(0=0/\e[0+(c:Int).toNat]? =some (J.str []))/\(bd ((c:Int)+1))/\(0<=(c:Int)+1/\(c:Int)+1<=(d:Int))/\g (.slice (b5 50) (c+1) d) (af 70 [(50,(aa.an (List.set e (0+(c:Int).toNat) (.str f)) 1 true))])) :
 bl 160 [.str a,.str [59],.V 0,.V (-1)] bG g :=
 bm bL (ap 6002 (.V b)<|ab 6003<|ab 7003<|ab 8001<|ab 9001<|.aG (.keep [0,1,2,3,9,10])<|.aG (.loop [(0,.str f),(9,.slice (b5 50) d d),(10,.V c)] (af 60 [(50,dz e 0)]) (.exit 0))<|ab 17003<|.aG (.ff 17004 (.str []))<|ab 18002<|ab 18003 .nil) h
def Hp(d:Bytes)(c g a b:Nat)(f:List J)(h:b8->bc->T->Prop)(j:((a:Int)<(g:Int)->bk 74 [.str d,.str [59]] (af 67 [(50,(aa.an (f) 1 true))]) (.V b) (af 67 [(50,(aa.an (f) 1 true))])/\(bd ((b:Int)+0))/\(0<=(b:Int)+0/\(b:Int)+0<=(↑(d.length):Int))/\(0<=(a:Int)/\(a:Int)<(c:Int))/\(0=0/\f[0+(a:Int).toNat]? =some (J.str []))/\(bd ((b:Int)+1))/\(0<=(b:Int)+1/\(b:Int)+1<=(↑(d.length):Int))/\(bd ((a:Int)+1))/\h .normal [(0,.str (d.drop (b+1))),(1,.str [59]),(2,.V 0),(3,.V g),(9,.slice (b5 50) c c),(10,.V ((a:Int)+1))] (af 88 [(50,(aa.an (List.set f (0+(a:Int).toNat) (.str (d.take (b+0)))) 1 true))]))/\(¬(a:Int)<(g:Int)->h (.exit 0) [(0,.str d),(1,.str [59]),(2,.V 0),(3,.V g),(9,.slice (b5 50) c c),(10,.V a)] (af 63 [(50,(aa.an (f) 1 true))]))) :
 ∃e i Y,bN 0 66 (bu 160 0) [(0,.str d),(1,.str [59]),(2,.V 0),(3,.V g),(9,.slice (b5 50) c c),(10,.V a)] (T.rows 60 [(50,dz f 0)]) e i Y/\h e i Y :=
 dD c6 mixed bL (hs:= .al 11002 (ap 12002 (.V b) (ab 14005 (ab 14006 (ab 14007 (.aG (.ff 14008 (.str [])) (ab 15004 (ab 15005 (ab 16001 .nil)))))))) .nil) (keep:=[0,1,2,3,9,10]) ao j
def fO(d:List Bytes)(k:Nat):List J:=d.map J.str++List.replicate k (.str [])
def BU(d:List Bytes)(k:Nat):∀e∈fO d k,b0 e:=by
 intro e he;rcases hi.1 he with h|h
 .obtain⟨w,_,rfl⟩:=dV.1 h;exact b0.str w
 .rw [(List.mem_replicate.1 h).2];exact b0.str []
def Hq(d:List Bytes)(k:Nat):(fO d (k+1))[d.length]? =some (.str []):=by unfold fO;rw [o5 au];simp
def Hr(d:List Bytes)(k:Nat)(w:Bytes):(fO d (k+1)).set d.length (.str w)=fO (d++[w]) k:=by unfold fO;rw [List.set_append_right _ _ au,List.replicate_succ];simp
abbrev ox(s:Bytes)(n i:Nat):bc:=[(0,.str s),(1,.str [59]),(2,.int .i64 0),(3,.int .i64 (n:Nat)),(9,.slice (some ⟨50,0,0,0,1⟩) (n+1) (n+1)),(10,.int .i64 (i:Nat))]
def Hs{l c:Nat} :bR (Go.br.b3 [50]) (.aB 50 0 0 l c):=(by show(50:Nat)∈ [50];simp)
variable {d i j k m n n2:Nat}
def Ht{s:Bytes}{h:T}{d:List Bytes}(ab:h.get 50=some (dz (fO d k) 0)):bW 0 66 (ox s n i) h (ox s n i) (T.rows 60 [(50,dz (fO d k) 0)]) :=
 bW.drop (K:=60) (l:=[(50,dz (fO d k) 0)]) (by simp [ab]) rfl rfl rfl (aX.cons trivial (aX.cons trivial (aX.cons trivial (aX.cons trivial (aX.cons Hs (aX.cons trivial aX.nil)))))) (aX.cons (λe he=>(BU d k e he).dj _) aX.nil)
def RJ(n:Nat)(aw:n<2^40):∀(k:Nat)(s:Bytes)(d:List Bytes),s.count 59=k->d.length+k=n->s.length<2^40-> ∃(t:Bytes)(b:List Bytes),b++[t]=d++splitAt 59 s/\b.length=n /\
 dd 0 66 (bu 160 0) (ox s n d.length) (T.rows 60 [(50,dz (fO d (k+1)) 0)]) (.exit 0) (ox t n n) (T.rows 60 [(50,dz (fO b 1) 0)]):=by
 intro k;induction k with
 |zero =>
  intro s d i o hs;obtain rfl:n=d.length:= A;obtain⟨e,a,Y,f,rfl,rfl,ab⟩:=Hp s (d.length+1) d.length d.length 0 (fO d 1) (λe a Y=>e=.exit 0/\a=ox s d.length d.length/\Y.get 50=some (dz (fO d 1) 0)) ⟨λh=> A,λ_=>⟨rfl,rfl,rfl⟩⟩;exact⟨s,d,by rw [He i],rfl,(b2.last au f).post (Ht ab)⟩
 |succ k ih =>
  intro s d i o hs;obtain⟨m,aQ,aZ,j,q⟩:=Hf (c:=59) (s:=s) A
  obtain⟨e,a,Y,f,rfl,rfl,ab⟩:=Hp s (n+1) n d.length m (fO d (k+1+1)) (λe a Y=>e=.normal/\a=ox (s.drop (m+1)) n (d.length+1)/\Y.get 50=some (dz (fO (d++[s.take m]) (k+1)) 0)) (by
   have p:((d.length:Int)+1)=((d.length+1:Nat):Int):= A;have ff:0+Int.toNat (d.length:Int)=d.length:= au;refine⟨λ_=>⟨⟨?_⟩,⟨A,A⟩,⟨A,A⟩,⟨A,A⟩,⟨rfl,by rw [ff];exact Hq d (k+1)⟩,⟨A,A⟩,⟨A,A⟩,⟨A,A⟩,rfl,by rw [p],?_⟩,λh=> A⟩
   .have:=RH s 59 (T.bO 67 [(50,aa.an (fO d (k+1+1)) 1 true)]);rw [aQ]at this;exact this
   .rw [<-Hr d (k+1) (s.take m),ff,qq];rfl)
  obtain⟨t,b,l,ag,g⟩:=ih (s.drop (m+1)) (d++[s.take m]) A (by simp;omega) (by rw [eF];omega);refine⟨t,b,?_,ag,?_⟩
  .rw [l,j];simp
  .have el:(d++[s.take m]).length=d.length+1:= au;rw [show ox (s.drop (m+1)) n (d++[s.take m]).length=ox (s.drop (m+1)) n (d.length+1)by rw [el]]at g;exact b2.round f (Ht ab) g
def RL(s:Bytes)(hs:s.length<2^40)(H:T):be 160 [.str s,.str [59],.V 0,.V (-1)] H
 (.aB H.M 0 0 (splitAt 59 s).length (splitAt 59 s).length) (H.dY [] [dz ((splitAt 59 s).map J.str) 0]):=by
 have n:s.count 59<=s.length:=List.count_le_length;obtain⟨t,c,Y,ag,f⟩:=RJ (s.count 59) A (s.count 59) s [] rfl au hs;have aj:¬((s.length:Int)+1<(s.count 59:Int)+1):= A;have aw:Int.toNat ((s.count 59:Int)+1)=s.count 59+1:= A;have aM:=RG s 59 (T.bO 12 [])
 obtain ⟨v,d,k,m,ab⟩:=RI s t (s.count 59+1) (s.count 59) (s.count 59) (fO c 1) (λv d=>v=.aB 50 0 0 (s.count 59+1) (s.count 59+1)/\d.get 50=some (dz ((splitAt 59 s).map J.str) 0)) (by
  rw [ai aj,aw];refine⟨⟨aM⟩,⟨A,A⟩,⟨A,A⟩,⟨A,A,A,A⟩,⟨A,A⟩,?_,⟨A,A⟩,⟨rfl,?_⟩,⟨A,A⟩,⟨A,A⟩,rfl,?_⟩
  .have g :=cO.dn (f.pre (bW.move (F:=[(0,J.str s),(1,J.str [59]),(2,J.V 0),(3,J.V ((s.count 59:Int)+1-1)),(9,J.aB 19 0 0 (s.count 59+1) (s.count 59+1)),(10,J.V 0)]) (h:=T.bO 25 [(19,aa.an (List.replicate (s.count 59+1) (J.str [])) 1 true)]) (K:=60) (l:=[(50,dz (fO [] (s.count 59+1)) 0)]) (λ_=>19) ?_ rfl au rfl rfl ?_ rfl (aX.cons trivial (aX.cons trivial (aX.cons trivial (aX.cons trivial (aX.cons Hs (aX.cons trivial aX.nil)))))) (aX.cons (λe he=>(BU [] _ e he).dj _) aX.nil)))
   .exact (g.post (bW.facts (G:=[(0,J.str t),(9,J.aB 50 0 0 (s.count 59+1) (s.count 59+1)),(10,J.V (s.count 59:Nat))]) (by
     intro j u hu;rw [gX]at hu;split at hu
     .rename_i a;subst a;rw [<-hu];rfl
     .rw [gX]at hu;split at hu
      .rename_i a;subst a;rw [<-hu];rfl
      .rw [gX]at hu;split at hu
       .rename_i a;subst a;rw [<-hu];rfl
       .cases hu))).post (by
      have:T.rows 60 [(50,dz (fO c 1) 0)]=T.bO 60 [(50,dz (fO c 1) 0)]:= ao
      rw [this];exact bW.refl _ _ _ _)
   .simp only [ei,hS];rw [show(dz (fO [] (s.count 59+1)) 0).aO (λ_=>19)=dz (fO [] (s.count 59+1)) 0 from cu.aO (b:=dz (fO [] (s.count 59+1)) 0) (BU [] _) _];rfl
   .simp [J.aO,bB.aO]
  .have:=Hq c 0;rw [ag]at this;simpa using this
  .have:=Hr c 0 t;rw [ag,Y]at this;show some (aa.an (List.set (fO c 1) (0+Int.toNat (s.count 59:Int)) (J.str t)) 1 true)=_;rw [show 0+Int.toNat (s.count 59:Int)=s.count 59 by simp,this]
   simp [fO,aa.an])
 subst m;rw [BT]
 exact bj.zZ (l:=[]) (bn:=dz ((splitAt 59 s).map J.str) 0) k (λb i=>by cases i) (by
  intro e he;obtain⟨w,_,rfl⟩:=dV.1 he
  exact b0.str w) rfl ab au (by exact⟨trivial,trivial,trivial,trivial,trivial⟩) [] kR (λj a=>by cases a) rfl
noncomputable def BV:List J->T->Option dx:=λargs h=>match args with
 |[.str s,.str k,.int .i64 a,.int .i64 b]=>some (.one (.slice (some ⟨h.M,0,0,0,1⟩) (splitAt 59 s).length (splitAt 59 s).length) (h.dY [] [dz ((splitAt 59 s).map J.str) 0]) [k=[59],a=0,b= -1,s.length<2^40])
 |_=>none
def RM:∀args h a,BV args h=some a->a.cG Tryz.prog cz 160 args h:=by
 intro args h a e;unfold BV at e;split at e<;>first|(cases e;done)|skip
 simp only [a8]at e;subst e;intro ae;rw [ae.head,ae.tail.head,ae.tail.tail.head];exact RL _ ae.tail.tail.tail.head h
noncomputable def RN:dQ:=mJ.add 160 BV
def RO:dC Tryz.prog cz RN:=ci.add RM
def RP(a:Bytes)(b:aU)(c:[(59:UInt8)]=[(59:UInt8)]/\(0:Int)=0/\(-1:Int)= -1/\a.length<1099511627776/\b (.slice (b5 5) ((splitAt 59 a).length) ((splitAt 59 a).length)) (T.dY (af 5 []) [] [(aa.an (List.map .str (splitAt 59 a)) 1 true)])) :
 bl 156 [.str a,.str [59]] bG b :=
 bm RO (.nil) c
def RQ(s:Bytes)(hs:s.length<2^40)(H:T):be 156 [.str s,.str [59]] H (.aB H.M 0 0 (splitAt 59 s).length (splitAt 59 s).length) (H.dY [] [dz ((splitAt 59 s).map J.str) 0]):=by
 obtain⟨v,Y,c,j,rfl,ab⟩:=RP s (λv Y=> ∃j,v=.aB j 0 0 (splitAt 59 s).length (splitAt 59 s).length/\Y.get j=some (dz ((splitAt 59 s).map J.str) 0)) ⟨rfl,rfl,rfl,hs,_,rfl,rfl⟩
 exact bj.zZ (l:=[]) (bn:=dz ((splitAt 59 s).map J.str) 0) c (λb a=>by cases a) (by
  intro e he;obtain⟨w,_,rfl⟩:=dV.1 he
  exact b0.str w) rfl ab au (by exact⟨trivial,trivial,trivial⟩) [] kR (λj d=>by cases d) rfl
abbrev xe(l:List J)(v f:Nat):aa:= {bg:=l,es:=1,exact:=false,ro:=false,ad:=v,eH:=0,fo:=f,ty:=some (3,0)}
def Hu:List J->T->Option dx:=io λa=>match a with | [.str s,.str k]=>some (.str (Go.Lib.trimS s kz),[k=kz,s.length<2^40])|_=>none
def RR:∀args h a,Hu args h=some a->a.cG Tryz.prog cz 157 args h:=by
 refine jo ?_;intro args v ps e ae H;split at e<;>first|(cases e;done)|skip
 simp only [a8,bC]at e;obtain⟨rfl,rfl⟩:=e;rw [ae.head];exact RD _ ae.tail.head H
noncomputable def BW:List J->T->Option dx:=λargs h=>match args with
 |[.str s,.str k]=>some (.one (.slice (some ⟨h.M,0,0,0,1⟩) (splitAt 59 s).length (splitAt 59 s).length) (h.dY [] [dz ((splitAt 59 s).map J.str) 0]) [k=[59],s.length<2^40])
 |_=>none
noncomputable def RS:dQ:=(mJ.add 157 Hu).add 156 BW
def RT:∀args h a,BW args h=some a->a.cG Tryz.prog cz 156 args h:=by
 intro args h a e;unfold BW at e;split at e<;>first|(cases e;done)|skip
 simp only [a8]at e;subst e;intro ae;rw [ae.head];exact RQ _ ae.tail.head h
def t':dC Tryz.prog cz RS:=(ci.add RR).add RT
abbrev jT(a:Nat):J:=J.slice (b5 9) a a
def Hv(c:Bytes)(a b g:Nat)(d:List J)(f:b8->bc->T->Prop)(i:((b:Int)<(a:Int)->(0<=(b:Int)/\(b:Int)<(a:Int))/\a6 env.D 9 ⟨9,0,0+(b:Int).toNat,0,1⟩ (af 14 [(9,(aa.an (d) 1 true))])=some (J.str c)/\(c=[]->f .ret [(2,.slice none 0 0),(3,.aJ),(4,.slice none 0 0),(12,(jT a)),(13,.V a),(14,.V b)] (af 28 [(9,(aa.an (d) 1 true))]))/\(¬c=[]->(9<(↑(c.length):Int)->f .ret [(2,.slice none 0 0),(3,.aJ),(4,.slice none 0 0),(12,(jT a)),(13,.V a),(14,.V b)] (af 28 [(9,(aa.an (d) 1 true))]))/\(¬9<(↑(c.length):Int)-> [(48:UInt8),49,50,51,52,53,54,55,56,57]=[(48:UInt8),49,50,51,52,53,54,55,56,57]/\c.length<1099511627776/\(Lib.trimS c kz=[]->bk 55 [.str c] (af 33 [(9,(aa.an (d) 1 true))]) (.tuple [.V g,J.nilIface]) (af 33 [(9,(aa.an (d) 1 true))])/\(bd ((b:Int)+1))/\f .normal [(4,.slice (b5 36) 1 1),(12,(jT a)),(13,.V a),(14,.V ((b:Int)+1))] (af 40 [(9,(aa.an (d) 1 true)),(35,aa.an [.V g] 1 true),(36,aa.an [.V g] 1 false (some (3,0)))]))/\(¬Lib.trimS c kz=[]->f .ret [(2,.slice none 0 0),(3,.aJ),(4,.slice none 0 0),(12,(jT a)),(13,.V a),(14,.V b)] (af 28 [(9,(aa.an (d) 1 true))])))))/\(¬(b:Int)<(a:Int)->f (.exit 0) [(4,.slice none 0 0),(12,(jT a)),(13,.V a),(14,.V b)] (af 11 [(9,(aa.an (d) 1 true))]))) :
 ∃e h Y,bN 0 41 (bu 148 0) [(4,.slice none 0 0),(12,.slice (b5 9) a a),(13,.V a),(14,.V b)] (T.rows 10 [(9,dz d 0)]) e h Y/\f e h Y :=
 dD c6 mixed t' (hs:= .al 5000 (ab 6000 (ap 6001 (.str c) (.al 7001 .nil (.al 7005 .nil (.al 7010 (ap 9001 (.tuple [.V g,J.nilIface]) (ab 11000 .nil)) .nil))))) .nil) (keep:=[2,3,4,12,13,14]) ao i
abbrev mS(c a:Nat)(b:List J):aa:=⟨b,1,false,false,c,0,a,some (3,0)⟩
def BX(g:Bytes)(c d k b h a:Nat)(i f:List J)(j:b8->bc->T->Prop)(m:((d:Int)<(c:Int)->(0<=(d:Int)/\(d:Int)<(c:Int))/\a6 env.D 9 ⟨9,0,0+(d:Int).toNat,0,1⟩ (af 64 [(9,(aa.an (i) 1 true)),(50,(mS b h f))])=some (J.str g)/\(g=[]->j .ret [(2,.slice none 0 0),(3,.aJ),(4,.aB 50 b 0 a a),(12,(jT c)),(13,.V c),(14,.V d)] (af 78 [(9,(aa.an (i) 1 true)),(50,(mS b h f))]))/\(¬g=[]->(9<(↑(g.length):Int)->j .ret [(2,.slice none 0 0),(3,.aJ),(4,.aB 50 b 0 a a),(12,(jT c)),(13,.V c),(14,.V d)] (af 78 [(9,(aa.an (i) 1 true)),(50,(mS b h f))]))/\(¬9<(↑(g.length):Int)-> [(48:UInt8),49,50,51,52,53,54,55,56,57]=[(48:UInt8),49,50,51,52,53,54,55,56,57]/\g.length<1099511627776/\(Lib.trimS g kz=[]->bk 55 [.str g] (af 83 [(9,(aa.an (i) 1 true)),(50,(mS b h f))]) (.tuple [.V k,J.nilIface]) (af 83 [(9,(aa.an (i) 1 true)),(50,(mS b h f))])/\(b=b/\0+a=f.length/\a<a+1/\(a+1+(a+1)/4+512)*8<=281474976710656/\a+1<4611686018427387904)/\(bd ((d:Int)+1))/\j .normal [(4,.aB 50 (b+1) 0 (a+1) (a+1)),(12,(jT c)),(13,.V c),(14,.V ((d:Int)+1))] (af 90 [(9,(aa.an (i) 1 true)),(50,⟨f++[.V k],1,false,false,b+1,0,if 0=b then f.length else min h (f.length),some (3,0)⟩),(85,aa.an [.V k] 1 true)]))/\(¬Lib.trimS g kz=[]->j .ret [(2,.slice none 0 0),(3,.aJ),(4,.aB 50 b 0 a a),(12,(jT c)),(13,.V c),(14,.V d)] (af 78 [(9,(aa.an (i) 1 true)),(50,(mS b h f))])))))/\(¬(d:Int)<(c:Int)->j (.exit 0) [(4,.aB 50 b 0 a a),(12,(jT c)),(13,.V c),(14,.V d)] (af 61 [(9,(aa.an (i) 1 true)),(50,(mS b h f))]))) :
 ∃e l Y,bN 0 41 (bu 148 0) [(4,.aB 50 b 0 a a),(12,.slice (b5 9) c c),(13,.V c),(14,.V d)] (T.rows 60 [(9,dz i 0),(50,xe f b h)]) e l Y/\j e l Y :=
 dD c6 mixed t' (hs:= .al 5000 (ab 6000 (ap 6001 (.str g) (.al 7001 .nil (.al 7005 .nil (.al 7010 (ap 9001 (.tuple [.V k,J.nilIface]) (ab 10003 (ab 11000 .nil))) .nil))))) .nil) (keep:=[2,3,4,12,13,14]) ao m
def RU(a:aU)(b:a (.tuple [.slice none 0 0,.aK]) (af 6 [])) :
 bl 148 [.str []] bG a :=
 bm t' (.nil) b
def RV(a:Bytes)(d e f g:J)(b:T)(c:aU)(h:(a=[]->c (.tuple [.slice none 0 0,.aK]) (af 6 []))/\(¬a=[]-> [(59:UInt8)]=[(59:UInt8)]/\a.length<1099511627776/\bN 0 41 (Code.loop (bu 148 0)) [(4,.slice none 0 0),(12,.slice (b5 9) ((splitAt 59 a).length) ((splitAt 59 a).length)),(13,.V (↑((splitAt 59 a).length):Int)),(14,.V 0)] (T.dY (af 9 []) [] [(aa.an (List.map .str (splitAt 59 a)) 1 true)]) (.exit 0) [(4,d),(12,g),(13,f),(14,e)] b/\c (.tuple [d,.aK]) (T.mk (b.M+3) (T.aF b)))) :
 bl 148 [.str a] bG c :=
 bm t' (.al 1001 .nil<|.aG (.keep [4,12,13,14])<|.aG (.loop [(4,d),(12,g),(13,f),(14,e)] b (.exit 0)) .nil) h
def RW(a:Bytes)(c:T)(b:aU)(d:(a=[]->b (.tuple [.slice none 0 0,.aK]) (af 6 []))/\(¬a=[]-> [(59:UInt8)]=[(59:UInt8)]/\a.length<1099511627776/\bN 0 41 (Code.loop (bu 148 0)) [(4,.slice none 0 0),(12,.slice (b5 9) ((splitAt 59 a).length) ((splitAt 59 a).length)),(13,.V (↑((splitAt 59 a).length):Int)),(14,.V 0)] (T.dY (af 9 []) [] [(aa.an (List.map .str (splitAt 59 a)) 1 true)]) .ret [(2,.slice none 0 0),(3,.aJ)] c/\b (.tuple [.slice none 0 0,.aJ]) c)) :
 bl 148 [.str a] bG b :=
 bm t' (.al 1001 .nil<|.aG (.keep [4,12,13,14])<|.aG (.loop [(2,.slice none 0 0),(3,.aJ)] c .ret) .nil) d
def Hw{h:T}{b:aa}{id:Nat}{w:Bytes}(ab:h.get id=some b)(he:b.elem? 0 i=some (.str w)):a6 (bi.D env) 9 ⟨id,0,i,0,1⟩ h=some (.str w):=by have a:(bi.D env 9).map (λd=>d.kind.isAgg)=some false:= ao;obtain⟨d,Y,ag⟩:=cb.1 a;unfold a6;rw [Y,ab];simp only [he,eK,ag,ey,ez,dG]
def Hx{ws:List Bytes}(h:j<ws.length):(dz (ws.map J.str) 0).elem? 0 j=some (.str ws[j]):=by simp [aa.elem?,aa.b6,h]
def bq(l:List Nat):List J:=l.map fun(n:Nat)=>J.int .i64 n
def Hy(l:List Nat):(bq l).length=l.length:=by simp [bq]
def xf(l:List Nat):∀e∈bq l,b0 e:=b0.ints l .i64 fun(n:Nat)=>(n:Int)
def BY(ws:List Bytes):cu (dz (ws.map J.str) 0):=by intro e he;obtain⟨w,_,rfl⟩:=dV.1 he;exact b0.str w
abbrev hy(l:List Nat):aa:=xe (bq l) (l.length-1) (hL l.length)
abbrev iU(l m j:Nat):bc:=[(4,.slice (some ⟨50,l-1,0,0,1⟩) l l),(12,.slice (some ⟨9,0,0,0,1⟩) m m),(13,.int .i64 (m:Nat)),(14,.int .i64 (j:Nat))]
def xg{K:List Nat}{v o l c e:Nat}(h:i∈K):bR (Go.br.b3 K) (.slice (some ⟨i,v,o,0,e⟩) l c):=h
def Hz{l:Nat}{h:T}{R B:aa}(c:k≠9)(b:cu R)(a:cu B)(aM:h.get 9=some R)(ab:h.get k=some B) :
 bW 0 41 [(4,.aB k (l-1) 0 l l),(12,.aB 9 0 0 m m),(13,.V (m:Nat)),(14,.V (j:Nat))] h (iU l m j) (T.rows 60 [(9,R),(50,B)]):=by
 refine bW.move (K:=60) (l:=[(9,R),(50,B)]) (λi=>if i=9 then 9 else k) ?_ rfl ?_ rfl rfl ?_ rfl ?_ ?_
 .simp [aM,ab,b.aO,a.aO]
 .simp;exact λe=>c e.symm
 .simp [J.aO,bB.aO]
 .exact aX.cons (xg au) (aX.cons (xg au) (aX.cons trivial (aX.cons trivial aX.nil)))
 .exact aX.cons (λe he=>(b e he).dj _) (aX.cons (λe he=>(a e he).dj _) aX.nil)
abbrev p0:bc:=[(2,.slice none 0 0),(3,.bool false)]
def xh(w:Bytes):hO w=true↔w≠[]/\w.length<=9/\w.all digit=true:=by unfold hO;simp only [gV,Bool.or_eq_false_iff,o4,mu,ne_eq,Bool.not_eq_false,Nat.not_lt,and_assoc]
def HA{a b c d:J}{h:T} :bW 0 n [(2,J.slice none 0 0),(3,J.bool false),(4,a),(12,b),(13,c),(14,d)] h p0 h :=
 bW.facts (by
  intro j u hu;rw [gX]at hu;split at hu
  .rename_i e;subst e;rw [<-hu];rfl
  .rw [gX]at hu;split at hu
   .rename_i e;subst e;rw [<-hu];rfl
   .cases hu)
def RX(ws:List Bytes)(L:List Nat)(j:Nat)(k:j<ws.length)(q:L.length<2^40)(Y:1<=L.length)(hw:ws[j].length<2^40)(hm:ws.length<2^40) :
 (hO ws[j]=true-> ∃Z,bN 0 41 (bu 148 0) (iU L.length ws.length j) (T.rows 60 [(9,dz (ws.map J.str) 0),(50,hy L)]) .normal (iU (L++[number ws[j]]).length ws.length (j+1)) Z/\Z.get 9=some (dz (ws.map J.str) 0)/\Z.get 50=some (hy (L++[number ws[j]]))) /\
 (hO ws[j]=false-> ∃Z,bN 0 41 (bu 148 0) (iU L.length ws.length j) (T.rows 60 [(9,dz (ws.map J.str) 0),(50,hy L)]) .ret p0 Z):=by
 have ff:0+Int.toNat (j:Int)=j:= au;have o:((j:Int)+1)=((j+1:Nat):Int):= A
 have f:∀n:Nat,a6 (bi.D env) 9 ⟨9,0,0+Int.toNat (j:Int),0,1⟩ (T.bO n [(9,dz (ws.map J.str) 0),(50,xe (bq L) (L.length-1) (hL L.length))])=some (.str ws[j]):=λn=>by rw [ff];exact Hw (b:=dz (ws.map J.str) 0) ao (Hx k)
 refine⟨λok=> ?_,λbad=> ?_⟩
 .obtain⟨aV,p,wd⟩:=(xh _).1 ok;have d:(L++[number ws[j]]).length=L.length+1:= au
  obtain⟨e,a,ag,c,rfl,rfl,l,m⟩:=BX ws[j] ws.length j (number ws[j]) (L.length-1) (hL L.length) L.length (ws.map J.str) (bq L) (λe a ag=>e=.normal/\a=iU (L.length+1) ws.length (j+1)/\ag.get 9=some (dz (ws.map J.str) 0)/\ag.get 50=some (hy (L++[number ws[j]]))) (by
   delta mS jT
   refine⟨λ_=>⟨⟨A,A⟩,f _,λh=>absurd h aV,λ_=>⟨λh=> A,λ_=>⟨rfl,hw,λ_=>⟨⟨Hm _ A _ (Hl aV wd) _⟩,⟨rfl,by rw [Hy];omega,A,A,A⟩,⟨A,A⟩,rfl,?_,rfl,?_⟩,λh=>absurd ((xd _).2 wd) h⟩⟩⟩,λh=> A⟩
   .unfold iU;rw [o,show L.length+1-1=L.length-1+1 by omega]
   .have aQ:bq (L++[number ws[j]])=bq L++[J.V (number ws[j]:Nat)]:=by simp [bq]
    have aZ:(L++[number ws[j]]).length-1=L.length-1+1:=by simp;omega
    have g:hL (L++[number ws[j]]).length=if 0=L.length-1 then(bq L).length else min (hL L.length) (bq L).length:=by
     rw [Hy,d];unfold hL;by_cases cL:L.length=1
     .rw [ai A,az A];omega
     .rw [ai A,ai A,ai cL];omega
    show some _=some (xe _ _ _)
    rw [aQ,aZ,g])
  exact⟨ag,by rw [d];exact c,l,m⟩
 .obtain⟨e,a,ag,c,rfl,i⟩:=BX ws[j] ws.length j (number ws[j]) (L.length-1) (hL L.length) L.length (ws.map J.str) (bq L) (λe a ag=>e=.ret/\a=[(2,J.slice none 0 0),(3,J.bool false),(4,J.aB 50 (L.length-1) 0 L.length L.length),(12,J.aB 9 0 0 ws.length ws.length),(13,J.int .i64 ws.length),(14,J.int .i64 j)]) (by
   delta mS jT
   refine⟨λ_=>⟨⟨A,A⟩,f _,λh=>⟨rfl,rfl⟩,λaV=>⟨λh=>⟨rfl,rfl⟩,λp=>⟨rfl,hw,λh=> ?_,λh=>⟨rfl,rfl⟩⟩⟩⟩,λh=> A⟩;have:=(xh ws[j]).2 ⟨aV,A,(xd _).1 h⟩
   rw [this]at bad;cases bad)
  subst i;exact⟨ag,c.post HA⟩
def RY(ws:List Bytes)(g:0<ws.length)(hw:ws[0].length<2^40)(hm:ws.length<2^40) :
 (hO ws[0]=true-> ∃Z k,k≠9/\bN 0 41 (bu 148 0) [(4,.slice none 0 0),(12,.aB 9 0 0 ws.length ws.length),(13,.V ws.length),(14,.V (0:Nat))] (T.rows 10 [(9,dz (ws.map J.str) 0)]) .normal [(4,.aB k (1-1) 0 1 1),(12,.aB 9 0 0 ws.length ws.length),(13,.V ws.length),(14,.V (0+1:Nat))] Z/\Z.get 9=some (dz (ws.map J.str) 0)/\Z.get k=some (hy [number ws[0]])) /\
 (hO ws[0]=false-> ∃Z,bN 0 41 (bu 148 0) [(4,.slice none 0 0),(12,.aB 9 0 0 ws.length ws.length),(13,.V ws.length),(14,.V (0:Nat))] (T.rows 10 [(9,dz (ws.map J.str) 0)]) .ret p0 Z):=by
 have ff:0+Int.toNat ((0:Nat):Int)=0:= au
 have d:∀n:Nat,a6 (bi.D env) 9 ⟨9,0,0+Int.toNat ((0:Nat):Int),0,1⟩ (T.bO n [(9,dz (ws.map J.str) 0)])=some (.str ws[0]):=λn=>by rw [ff];exact Hw (b:=dz (ws.map J.str) 0) ao (Hx g)
 refine⟨λok=> ?_,λbad=> ?_⟩
 .obtain⟨aV,m,wd⟩:=(xh _).1 ok
  obtain⟨e,a,ag,c,rfl,k,i,rfl,j,l⟩:=Hv ws[0] ws.length 0 (number ws[0]) (ws.map J.str) (λe a ag=>e=.normal/\∃k,k≠9/\a=[(4,.aB k (1-1) 0 1 1),(12,.aB 9 0 0 ws.length ws.length),(13,.V ws.length),(14,.V (0+1:Nat))]/\ag.get 9=some (dz (ws.map J.str) 0)/\ag.get k=some (hy [number ws[0]]))
   ⟨λ_=>⟨⟨A,A⟩,d _,λh=>absurd h aV,λ_=>⟨λh=> A,λ_=>⟨rfl,hw,λ_=>⟨⟨Hm _ A _ (Hl aV wd) _⟩,⟨A,A⟩,rfl,_, aC,rfl,rfl,rfl⟩,λh=>absurd ((xd _).2 wd) h⟩⟩⟩,λh=> A⟩
  exact⟨ag,k,i,c,j,l⟩
 .obtain⟨e,a,ag,c,rfl,f⟩:=Hv ws[0] ws.length 0 (number ws[0]) (ws.map J.str) (λe a ag=>e=.ret/\a=[(2,J.slice none 0 0),(3,J.bool false),(4,J.slice none 0 0),(12,J.aB 9 0 0 ws.length ws.length),(13,J.int .i64 ws.length),(14,J.int .i64 (0:Nat))]) (by
   delta jT
   refine⟨λ_=>⟨⟨A,A⟩,d _,λh=>⟨rfl,rfl⟩,λaV=>⟨λh=>⟨rfl,rfl⟩,λm=>⟨rfl,hw,λh=> ?_,λh=>⟨rfl,rfl⟩⟩⟩⟩,λh=> A⟩;have:=(xh ws[0]).2 ⟨aV,A,(xd _).1 h⟩
   rw [this]at bad;cases bad)
  subst f;exact⟨ag,c.post HA⟩
def RZ(ws:List Bytes)(hw:∀w∈ws,w.length<2^40)(hm:ws.length<2^40):∀(k j:Nat),ws.length-j<=k->j<=ws.length->1<=j ->
 ((∀w∈ws.drop j,hO w=true)-> ∃Z,dd 0 41 (bu 148 0) (iU ((ws.take j).map number).length ws.length j) (T.rows 60 [(9,dz (ws.map J.str) 0),(50,hy ((ws.take j).map number))]) (.exit 0) (iU ws.length ws.length ws.length) Z/\Z.get 50=some (hy (ws.map number))) /\
 ((∃w∈ws.drop j,hO w=false)-> ∃Z,dd 0 41 (bu 148 0) (iU ((ws.take j).map number).length ws.length j) (T.rows 60 [(9,dz (ws.map J.str) 0),(50,hy ((ws.take j).map number))]) .ret p0 Z):=by
 intro k
 have fin:∀h:(∀w∈ws.drop ws.length,hO w=true),∃Z,dd 0 41 (bu 148 0) (iU ((ws.take ws.length).map number).length ws.length ws.length) (T.rows 60 [(9,dz (ws.map J.str) 0),(50,hy ((ws.take ws.length).map number))]) (.exit 0) (iU ws.length ws.length ws.length) Z/\Z.get 50=some (hy (ws.map number)):=by intro _;rw [kj];obtain⟨e,i,ag,a,rfl,rfl,ab⟩:=BX [] ws.length ws.length 0 ((ws.map number).length-1) (hL (ws.map number).length) (ws.map number).length (ws.map J.str) (bq (ws.map number)) (λe i ag=>e=.exit 0/\i=iU (ws.map number).length ws.length ws.length/\ag.get 50=some (hy (ws.map number))) ⟨λh=> A,λ_=>⟨rfl,rfl,rfl⟩⟩;have el:(ws.map number).length=ws.length:=iF _;refine⟨ag,b2.last au ?_,ab⟩;rw [show iU ws.length ws.length ws.length=iU (ws.map number).length ws.length ws.length by rw [el]];exact a
 induction k with
 |zero =>
  intro j p o Y;obtain rfl:j=ws.length:= A;exact⟨fin,fun⟨w,hw,_⟩=>by simp at hw⟩
 |succ k ih =>
  intro j p o Y;by_cases aj:j<ws.length
  .have q:(ws.take (j+1)).map number=(ws.take j).map number++[number ws[j]]:=by rw [List.take_succ_eq_append_getElem aj,nH];rfl
   have f:ws.drop j=ws[j]::ws.drop (j+1):=ki aj;have v:((ws.take j).map number).length=j:=by rw [iF,lC];omega
   obtain⟨t,u⟩:=RX ws ((ws.take j).map number) j aj A A (hw _ (ic aj)) hm;obtain⟨i1,i2⟩:=ih (j+1) A A A;rw [q]at i1 i2;cases c:hO ws[j]with
   |false =>
    refine⟨λh=> ?_,λ_=> ?_⟩
    .have:=h ws[j] (by rw [f];exact kQ);rw [c]at this;cases this
    .obtain⟨Z,a⟩:=u c;exact⟨Z,b2.last au a⟩
   |true =>
    obtain⟨ag,a,r,s⟩:=t c;have n:=Hz (l:=((ws.take j).map number++[number ws[j]]).length) (m:=ws.length) (j:=j+1) (k:=50) aC (BY ws) (B:=hy ((ws.take j).map number++[number ws[j]])) (xf _) r s;refine⟨λh=> ?_,fun⟨w,b,d⟩=> ?_⟩
    .obtain⟨Z,g,ab⟩:=i1 (λw b=>h w (by rw [f];exact kh _ b));exact⟨Z,b2.step (a.post n) g,ab⟩
    .rw [f]at b;rcases dR.1 b with rfl|b
     .rw [c]at d;cases d
     .obtain⟨Z,g⟩:=i2 ⟨w,b,d⟩;exact⟨Z,b2.step (a.post n) g⟩
  .obtain rfl:j=ws.length:= A;exact⟨fin,fun⟨w,hw,_⟩=>by simp at hw⟩
def BZ(c:UInt8):∀(s:Bytes),∀w∈splitAt c s,w.length<=s.length
 |[],w,h=>by simp [splitAt]at h;simp [h]
 |b ::r,w,h=>by
  unfold splitAt at h;split at h
  .rcases dR.1 h with rfl|h
   .simp
   .have:=BZ c r w h;simp only [bK];omega
  .cases hs:splitAt c r with
   |nil=>exact absurd hs (rA c r)
   |cons x t =>
    rw [hs]at h;have ih:=BZ c r;rw [hs]at ih;rcases dR.1 h with rfl|h
    .have:=ih x kQ;simp only [bK];omega
    .have:=ih w (kh _ h);simp only [bK];omega
def bj.HB{f:FuncId}{args:List J}{Z:T}{es c ad:Nat}{b:Bool}{bn:aa}(k:be f args ⟨0,.nil⟩ (.tuple [.slice (some ⟨j,ad,0,0,es⟩) n c,.bool b]) Z)(g:cu bn)(q:Z.get j=some bn)(e:∀a∈args,b0 a)(H:T) :
 be f args H (.tuple [.slice (some ⟨H.M,ad,0,0,es⟩) n c,.bool b]) (H.dY [] [bn]):=by
 have r:be f args (T.of []) (.tuple [.slice (some ⟨j,ad,0,0,es⟩) n c,.bool b]) Z:=k;have s:=r.fin [j] [bn] (.tuple [.slice (some ⟨0,ad,0,0,es⟩) n c,.bool b]) (λb d=>by rw [cF.1 d];exact g) rfl (by simp [e1,q]) (by simp [J.aO,J.fc,bB.aO,e1]) (by simp [bR,dO]) au au;have o:dO (λi=>i<([]:List aa).length) args:=pw.2 λa h=>(e a h).dj _
 have m:=s.zX (l:=[]) (l2:=[bn]) (λb d=>by cases d) (λb d=>by rw [cF.1 d];exact g) o (H:=H) [] kR (λj p=>by cases p) rfl
 have aQ:args.map (J.aO (cP [] H.M))=args:=by
  conv=>rhs;rw [<-pb args]
  exact i' λa h=>(e a h).1 _
 rw [aQ]at m;simpa [J.aO,J.fc,bB.aO,cP]using m
def HC(ws:List Bytes)(n:Nat):bW 0 41 [(4,.slice none 0 0),(12,.aB 9 0 0 n n),(13,.V n),(14,.V (0:Nat))] (T.dY (T.bO 9 []) [] [dz (ws.map J.str) 0]) [(4,.slice none 0 0),(12,.aB 9 0 0 n n),(13,.V n),(14,.V (0:Nat))] (T.rows 10 [(9,dz (ws.map J.str) 0)]) :=
 bW.drop (K:=10) (l:=[(9,dz (ws.map J.str) 0)]) ao rfl rfl rfl (aX.cons trivial (aX.cons (xg au) (aX.cons trivial (aX.cons trivial aX.nil)))) (aX.cons (λe he=>(BY ws e he).dj _) aX.nil)
def rB(w:Bytes)(hw:w.length<2^38)(H:T) :
 (Keys.numbers w=none->be 148 [.str w] H (.tuple [.slice none 0 0,.bool false]) H) /\
 (Keys.numbers w=some []->be 148 [.str w] H (.tuple [.slice none 0 0,.bool true]) H) /\
 (∀l,l≠[]->Keys.numbers w=some l->be 148 [.str w] H (.tuple [.aB H.M (l.length-1) 0 l.length l.length,.bool true]) (H.dY [] [hy l])):=by
 by_cases q:w=[]
 .subst q;have aw:Keys.numbers []=some []:=rfl;refine⟨(λh=>by rw [aw]at h;cases h),λ_=> ?_,(λl s h=>by rw [aw]at h;simp only [a8]at h;exact absurd h.symm s)⟩;exact bj.bU (RU (λv _=>v=.tuple [.slice none 0 0,.bool true]) rfl) rfl rfl H
 .have aw :Keys.numbers w=fX (splitAt 59 w):=by unfold Keys.numbers;rw [ai q]
  have hlen:=BT 59 w;have R:w.count 59<=w.length:=List.count_le_length;have E:=BZ 59 w;generalize C:splitAt 59 w=ws at aw hlen E;have d:0<ws.length:= A;have hm:ws.length<2^40:= A;have F:∀x∈ws,x.length<2^40:=λx c=>by have:=E x c;omega
  obtain⟨I,Q⟩:=RY ws d (F _ (ic d)) hm;obtain⟨G,l2⟩:=RZ ws F hm ws.length 1 A A A
  have t1:(ws.take 1).map number=[number ws[0]]:=by
   cases ws with
   |nil=>simp at d
   |cons x r=>rfl
  rw [t1]at G l2
  have L:ws=ws[0]::ws.drop 1:=by
   cases ws with
   |nil=>simp at d
   |cons x r=>rfl
  have key:∀(ag:T)(k:Nat),k≠9->ag.get 9=some (dz (ws.map J.str) 0)->ag.get k=some (hy [number ws[0]])->bW 0 41 [(4,.aB k (1-1) 0 1 1),(12,.aB 9 0 0 ws.length ws.length),(13,.V ws.length),(14,.V (0+1:Nat))] ag (iU [number ws[0]].length ws.length 1) (T.rows 60 [(9,dz (ws.map J.str) 0),(50,hy [number ws[0]])]) :=
   λag k i n o=>Hz (l:=1) i (BY ws) (B:=hy [number ws[0]]) (xf _) n o
  by_cases p:∀x∈ws,hO x=true
  .have u:Keys.numbers w=some (ws.map number):=by rw [aw,Hg p]
   have P:ws.map number≠[]:=by intro h;have:=dm List.length h;simp at this;rw [this]at d;simp at d
   refine⟨(λh=>by rw [u]at h;cases h),(λh=>by rw [u]at h;simp only [a8]at h;exact absurd h P),λl s h=> ?_⟩;rw [u]at h;simp only [a8]at h;subst h;obtain⟨ag,k,i,m,n,o⟩:=I (p _ (ic d));obtain⟨Z,t,ab⟩:=G (λx c=>p x (List.mem_of_mem_drop c));have f:=cO.dn ((b2.step (m.post (key ag k i n o)) t).pre (HC ws ws.length));obtain⟨v,y,N,rfl,O⟩:=RV w (.aB 50 (ws.length-1) 0 ws.length ws.length) (.V ws.length) (.V ws.length) (.aB 9 0 0 ws.length ws.length) Z (λv y=>v=.tuple [.aB 50 (ws.length-1) 0 ws.length ws.length,.bool true]/\y.get 50=some (hy (ws.map number))) (by rw [C];exact⟨λh=>absurd h q,λ_=>⟨rfl,A,f,rfl,ab⟩⟩);have:=bj.HB N (bn:=hy (ws.map number)) (xf _) O (λa K=>by rw [cF.1 K];exact b0.str w) H
   rwa [iF]
  .have z:∃x∈ws,hO x=false:=by
    apply vg;intro h;apply p;intro x c;cases j:hO x with
    |true=>rfl
    |false=>exact absurd ⟨x,c,j⟩ h
   have D:Keys.numbers w=none:=by obtain⟨x,c,g⟩:=z;obtain⟨a,b,e⟩:=List.append_of_mem c;rw [aw,e,Hh g]
   refine⟨λ_=> ?_,(λh=>by rw [D]at h;cases h),(λl s h=>by rw [D]at h;cases h)⟩
   have f:∃Z,dd 0 41 (bu 148 0) [(4,.slice none 0 0),(12,.aB 9 0 0 ws.length ws.length),(13,.V ws.length),(14,.V (0:Nat))] (T.rows 10 [(9,dz (ws.map J.str) 0)]) .ret p0 Z:=by
    cases j:hO ws[0]with
    |false =>
     obtain⟨Z,m⟩:=Q j;exact⟨Z,b2.last au m⟩
    |true =>
     obtain⟨ag,k,i,m,n,o⟩:=I j;obtain⟨x,c,g⟩:=z;rw [L]at c;rcases dR.1 c with rfl|c
     .rw [j]at g;cases g
     .obtain⟨Z,t⟩:=l2 ⟨x,c,g⟩;exact⟨Z,b2.step (m.post (key ag k i n o)) t⟩
   obtain⟨Z,f⟩:=f;exact bj.bU (RW w Z (λv _=>v=.tuple [.slice none 0 0,.bool false]) (by rw [C];exact⟨λh=>absurd h q,λ_=>⟨rfl,A,cO.dn (f.pre (HC ws ws.length)),rfl⟩⟩)) rfl rfl H
abbrev xi(l:List J)(v f:Nat):aa:= {bg:=l,es:=1,exact:=false,ro:=false,ad:=v,eH:=0,fo:=f,ty:=some (3,0)}
noncomputable def p1(o:Option (List Nat))(v:J)(rows:List aa):List J->T->Option dx:=λargs h =>
 match args with
 |[.str w]=>some (.one v (h.dY [] rows) [Keys.numbers w=o,w.length<100])
 |_=>none
noncomputable def xj:List J->T->Option dx:=p1 none (.tuple [.slice none 0 0,.bool false]) []
noncomputable def xk:List J->T->Option dx:=p1 (some []) (.tuple [.slice none 0 0,.bool true]) []
noncomputable def HD(a:Nat):List J->T->Option dx:=λargs h=>p1 (some [a]) (.tuple [.slice (some ⟨h.M,0,0,0,1⟩) 1 1,.bool true]) [xi [.int .i64 a] 0 0] args h
noncomputable def HE(a b:Nat):List J->T->Option dx:=λargs h=>p1 (some [a,b]) (.tuple [.slice (some ⟨h.M,1,0,0,1⟩) 2 2,.bool true]) [xi [.int .i64 a,.int .i64 b] 1 1] args h
noncomputable def HF(a b c:Nat):List J->T->Option dx:=λargs h=>p1 (some [a,b,c]) (.tuple [.slice (some ⟨h.M,2,0,0,1⟩) 3 3,.bool true]) [xi [.int .i64 a,.int .i64 b,.int .i64 c] 2 1] args h
def HG:List J->T->Option dx:=io λa=>match a with | [.str s,.str k]=>some (.tuple [.str (s.drop 1),.bool (s.head? == some 60)],[k=[60],s.head? =some 60])|_=>none
def HH:List J->T->Option dx:=io λa=>match a with | [.str s,.str k]=>some (.tuple [.str s,.bool false],[k=[60],s.head? ≠some 60])|_=>none
noncomputable def xl(num:List J->T->Option dx):dQ:=(mJ.add 53 HG).add 148 num
noncomputable def R0(a b c:Nat):dQ:=xl (HF a b c)
noncomputable def R1:dQ:=xl xj
def xm:∀args h a,HG args h=some a->a.cG Tryz.prog cz 53 args h:=by
 refine jo ?_;intro args v ps e ae H;split at e<;>first|(cases e;done)|skip
 rename_i s k;simp only [a8,bC]at e;obtain⟨rfl,rfl⟩:=e;have Y:k=[60]:=ae.head;have ag:s.head? =some 60:=ae.tail.head;subst Y;have:=Hd s [60] H
 have ae:([60]:Bytes).isPrefixOf s=true:=by
  cases s with
  |nil=>cases ag
  |cons b r=>simp only [List.head?_cons,a8]at ag;subst ag;simp [List.isPrefixOf]
 unfold pZ at this;rw [ae]at this;simpa [ag]using this
def ua{o:Option (List Nat)}{v:T->J}{rows:List aa}(k:∀(w:Bytes),w.length<100->Keys.numbers w=o-> ∀H,be 148 [.str w] H (v H) (H.dY [] rows)):∀args h a,p1 o (v h) rows args h=some a->a.cG Tryz.prog cz 148 args h:=by
 intro args h a e;unfold p1 at e;split at e<;>first|(cases e;done)|skip
 simp only [a8]at e;subst e;exact λae=>k _ ae.tail.head ae.head h
def B0:∀args h a,xj args h=some a->a.cG Tryz.prog cz 148 args h:=ua (v:=λ_=> .tuple [.slice none 0 0,.bool false]) λw hw h H=>(rB w A H).1 h
def B1:∀args h a,xk args h=some a->a.cG Tryz.prog cz 148 args h:=ua (v:=λ_=> .tuple [.slice none 0 0,.bool true]) λw hw h H=>(rB w A H).2.1 h
def R2(x:Nat):∀args h a,HD x args h=some a->a.cG Tryz.prog cz 148 args h:=ua (v:=λh=> .tuple [.aB h.M 0 0 1 1,.bool true]) λw hw h H=>(rB w A H).2.2 [x] au h
def R3(x y:Nat):∀args h a,HE x y args h=some a->a.cG Tryz.prog cz 148 args h:=ua (v:=λh=> .tuple [.aB h.M 1 0 2 2,.bool true]) λw hw h H=>(rB w A H).2.2 [x,y] au h
def R4(x y z:Nat):∀args h a,HF x y z args h=some a->a.cG Tryz.prog cz 148 args h:=ua (v:=λh=> .tuple [.aB h.M 2 0 3 3,.bool true]) λw hw h H=>(rB w A H).2.2 [x,y,z] au h
noncomputable def ub(l:List Nat):List J->T->Option dx:=λargs h=>match args with
 |[.str w]=>some (.one (.tuple [.slice (some ⟨h.M,l.length-1,0,0,1⟩) l.length l.length,.bool true]) (h.dY [] [xi (bq l) (l.length-1) (hL l.length)]) [Keys.numbers w=some l,l≠[],w.length<100])
 |_=>none
def B2(l:List Nat):∀args h a,ub l args h=some a->a.cG Tryz.prog cz 148 args h:=by
 intro args h a e;unfold ub at e;split at e<;>first|(cases e;done)|skip
 rename_i w;simp only [a8]at e;subst e;intro ae;exact(rB w (by have:=ae.tail.tail.head;omega) h).2.2 l ae.tail.head ae.head
noncomputable def R5:dQ:=xl xk
noncomputable def R6(l:List Nat):dQ:=xl (ub l)
def R7:dC Tryz.prog cz R5:=(ci.add xm).add B1
def R8(l:List Nat):dC Tryz.prog cz (R6 l):=(ci.add xm).add (B2 l)
def R9:dC Tryz.prog cz R1:=(ci.add xm).add B0
def Sa(a b c:Nat):dC Tryz.prog cz (R0 a b c):=(ci.add xm).add (R4 a b c)
def B3:∀args h a,HH args h=some a->a.cG Tryz.prog cz 53 args h:=by
 refine jo ?_;intro args v ps e ae H;split at e<;>first|(cases e;done)|skip
 rename_i s k;simp only [a8,bC]at e;obtain⟨rfl,rfl⟩:=e;have Y:k=[60]:=ae.head;have ag:s.head? ≠some 60:=ae.tail.head;subst Y;have:=Hd s [60] H
 have ae:([60]:Bytes).isPrefixOf s=false:=by
  cases s with
  |nil=>rfl
  |cons b r =>
   have c:¬(60:UInt8)=b:=λe=>ag (by rw [<-e];rfl)
   simp [List.isPrefixOf,c]
 unfold pZ at this;rw [ae]at this;simpa using this
noncomputable def B4(num:List J->T->Option dx):dQ:=(mJ.add 53 HH).add 148 num
noncomputable def Sb:dQ:=B4 xj
noncomputable def Sc:dQ:=B4 xk
noncomputable def Sd(l:List Nat):dQ:=B4 (ub l)
def Se:dC Tryz.prog cz Sb:=(ci.add B3).add B0
def Sf:dC Tryz.prog cz Sc:=(ci.add B3).add B1
def Sg(l:List Nat):dC Tryz.prog cz (Sd l):=(ci.add B3).add (B2 l)
def Sh(a:Bytes)(c:Int)(b:aU)(d:[(60:UInt8)]=[(60:UInt8)]/\List.head? a=some (60:UInt8)/\((List.head? a == some 60)=true->numbers (a.drop 1)=none/\(a.drop 1).length<100/\b (.tuple [fE,.aJ]) (af 30 [(0,(aL fE))]))/\((List.head? a == some 60)=false->numbers (a.drop 1)=none/\(a.drop 1).length<100/\b (.tuple [fE,.aJ]) (af 30 [(0,(aL fE))]))) :
 bl 147 [.str a,.ac c] bG b :=
 bm R9 (.al 1004 .nil .nil) d
abbrev B5:b7:=(.al 16001 (.al 16004 .nil<|.al 18001 (.al 18004 .nil .nil) .nil)<|.al 18001 (.al 18004 .nil .nil) .nil)
abbrev mT(a b c:Nat):aa:=⟨[.V a,.V b,.V c],1,false,false,2,0,1,some (3,0)⟩
abbrev HI(a b c:Nat):J:=J.agg [.bA 3,.av 0,.ac (bh .i64 (a' .i64 (a:Int) (28)) (2)),.V ((b:Int)-1),.V ((c:Int)-1),.str []]
abbrev xn(a b c:Nat):J:=J.agg [.bA 3,.av 3,.ac (bh .i64 (a' .i64 (a:Int) (28)) (2)),.V ((b:Int)-1),.V ((c:Int)-1),.str []]
abbrev B6(a b c:Nat):J:=J.agg [.bA 3,.av 4,.ac (bh .i64 (a' .i64 (a:Int) (28)) (2)),.V ((b:Int)-1),.V ((c:Int)-1),.str []]
abbrev B7(a b c:Nat):J:=J.agg [.bA 3,.av 5,.ac (bh .i64 (a' .i64 (a:Int) (28)) (2)),.V ((b:Int)-1),.V ((c:Int)-1),.str []]
abbrev B8(a b c:Nat):J:=J.agg [.bA 3,.av 6,.ac (bh .i64 (a' .i64 (a:Int) (28)) (2)),.V ((b:Int)-1),.V ((c:Int)-1),.str []]
abbrev xo(a b c:Nat):J:=J.agg [.bA 3,.av (db .i64 (a:Int) (28)),.ac (bh .i64 (a' .i64 (a:Int) (28)) (2)),.V ((b:Int)-1),.V ((c:Int)-1),.str []]
abbrev dw:J:=J.tuple [fE,.aJ]
abbrev dk:aa:=(aL fE)
abbrev HJ(a b c:Nat):J:=J.tuple [(B6 a b c),.aK]
abbrev HK(a b c:Nat):J:=J.tuple [(B7 a b c),.aK]
abbrev B9(a b c:Nat):aa:=(aL (HI a b c))
abbrev B'(a b c:Nat):aa:=(aL (B6 a b c))
abbrev Ca(a b c:Nat):aa:=(aL (B7 a b c))
abbrev Cb(a b c:Nat):aa:=(aL (B8 a b c))
abbrev oy:b7:=(.al 14001 (.al 14004 (.al 14008 .nil B5) B5) B5)
abbrev HL(a b c:Nat):T:=(af 90 [(0,(aL (xo a b c))),(16,(mT a b c)),(48,(aL (xo a b c)))])
abbrev uc(a b c:Nat):T:=(af 72 [(0,dk),(16,(mT a b c)),(48,(B9 a b c))])
abbrev xp(a b c:Nat):T:=(af 111 [(0,dk),(16,(mT a b c)),(48,(B9 a b c))])
abbrev HM(a b c:Nat):T:=(af 99 [(0,(Cb a b c)),(16,(mT a b c)),(48,(Cb a b c))])
abbrev HN(a b c:Nat):T:=(af 106 [(0,(B' a b c)),(16,(mT a b c)),(48,(B' a b c))])
abbrev HO(a b c:Nat):T:=(af 113 [(0,(Ca a b c)),(16,(mT a b c)),(48,(Ca a b c))])
abbrev Cc(a b c:Nat)(d:aU):Prop:=(db .i64 (a:Int) (28)<=2->(cf (db .i64 (a:Int) (28)))/\d (.tuple [(xo a b c),.aK]) (HL a b c))
abbrev Cd(a c d:Nat)(b:aU):Prop:=(¬db .i64 (a:Int) (28)=65->b (dw) (xp a c d))
abbrev jU(a b c:Nat)(d:aU):Prop:=(db .i64 (a:Int) (28)=64->d ((HJ a b c)) (HN a b c))
abbrev Ce(a b c:Nat)(d:aU):Prop:=(db .i64 (a:Int) (28)=65->d ((HK a b c)) (HO a b c))
abbrev ud(a b c:Nat)(d:aU):Prop:=(db .i64 (a:Int) (28)<=35->d (.tuple [(B8 a b c),.aK]) (HM a b c))
abbrev jV(b:Int)(c d e:Nat)(a:aU):Prop:=(¬b=77->(b=77->(Ce c d e a)/\(Cd c d e a))/\(¬b=77->a (dw) (xp c d e)))
abbrev jW(e:Int)(a c d:Nat)(b:aU):Prop:=(¬db .i64 (a:Int) (28)=64->(e=77->(Ce a c d b)/\(Cd a c d b))/\(¬e=77->b (dw) (xp a c d)))
def Si(f:Bytes)(d:Int)(a b c:Nat)(e:aU)(g:[(60:UInt8)]=[(60:UInt8)]/\List.head? f=some (60:UInt8)/\((List.head? f == some 60)=true->numbers (f.drop 1)=some [a,b,c]/\(f.drop 1).length<100/\True/\True/\Int.NonNeg (2-0)/\(0<=bh .i64 (a' .i64 (a:Int) (28)) (2)/\bh .i64 (a' .i64 (a:Int) (28)) (2)<=255)/\(bd ((b:Int)-1))/\(bd ((c:Int)-1))/\((b:Int)-1<0->e (dw) (uc a b c))/\(¬(b:Int)-1<0->(4096<=(b:Int)-1->e (dw) (uc a b c))/\(¬4096<=(b:Int)-1->((c:Int)-1<0->e (dw) (uc a b c))/\(¬(c:Int)-1<0->(4096<=(c:Int)-1->e (dw) (uc a b c))/\(¬4096<=(c:Int)-1->(d=109->(db .i64 (a:Int) (28)<=3->e (.tuple [(xn a b c),.aK]) (af 81 [(0,(aL (xn a b c))),(16,(mT a b c)),(48,(aL (xn a b c)))]))/\(¬db .i64 (a:Int) (28)<=3->(d=77->(Cc a b c e)/\(¬db .i64 (a:Int) (28)<=2->(d=77->(32<=db .i64 (a:Int) (28)->(ud a b c e)/\(¬db .i64 (a:Int) (28)<=35->(d=77->(jU a b c e)/\(jW d a b c e))/\(jV d a b c e)))/\(¬32<=db .i64 (a:Int) (28)->(d=77->(jU a b c e)/\(jW d a b c e))/\(jV d a b c e)))/\(¬d=77->(d=77->(jU a b c e)/\(jW d a b c e))/\(jV d a b c e))))/\(¬d=77->(d=77->(32<=db .i64 (a:Int) (28)->(ud a b c e)/\(¬db .i64 (a:Int) (28)<=35->(d=77->(jU a b c e)/\(jW d a b c e))/\(jV d a b c e)))/\(¬32<=db .i64 (a:Int) (28)->(d=77->(jU a b c e)/\(jW d a b c e))/\(jV d a b c e)))/\(¬d=77->(d=77->(jU a b c e)/\(jW d a b c e))/\(jV d a b c e)))))/\(¬d=109->(d=77->(Cc a b c e)/\(¬db .i64 (a:Int) (28)<=2->(d=77->(32<=db .i64 (a:Int) (28)->(ud a b c e)/\(¬db .i64 (a:Int) (28)<=35->(d=77->(jU a b c e)/\(jW d a b c e))/\(jV d a b c e)))/\(¬32<=db .i64 (a:Int) (28)->(d=77->(jU a b c e)/\(jW d a b c e))/\(jV d a b c e)))/\(¬d=77->(d=77->(jU a b c e)/\(jW d a b c e))/\(jV d a b c e))))/\(¬d=77->(d=77->(32<=db .i64 (a:Int) (28)->(ud a b c e)/\(¬db .i64 (a:Int) (28)<=35->(d=77->(jU a b c e)/\(jW d a b c e))/\(jV d a b c e)))/\(¬32<=db .i64 (a:Int) (28)->(d=77->(jU a b c e)/\(jW d a b c e))/\(jV d a b c e)))/\(¬d=77->(d=77->(jU a b c e)/\(jW d a b c e))/\(jV d a b c e)))))))))/\((List.head? f == some 60)=false->numbers (f.drop 1)=some [a,b,c]/\(f.drop 1).length<100/\e (dw) (af 31 [(0,dk),(16,(mT a b c))]))) :
 bl 147 [.str f,.ac d] bG e :=
 pH c6 mixed (Sa a b c) (hs:= .al 1004 (ab 5003 (ab 6003 (ab 6004 (ab 6005 (ab 6009 (ab 6013 (.al 8002 .nil (.al 8006 .nil (.al 8011 .nil (.al 8016 .nil (.al 10001 (.al 10004 .nil (.al 12001 (.al 12004 (ab 13001 .nil) oy) oy)) (.al 12001 (.al 12004 (ab 13001 .nil) oy) oy)))))))))))) .nil) ao g
def Sj(a:Bytes)(c:Int)(b:aU)(d:[(60:UInt8)]=[(60:UInt8)]/\List.head? a=some (60:UInt8)/\((List.head? a == some 60)=true->numbers (a.drop 1)=some []/\(a.drop 1).length<100/\b (dw) (af 30 [(0,dk)]))/\((List.head? a == some 60)=false->numbers (a.drop 1)=some []/\(a.drop 1).length<100/\b (dw) (af 30 [(0,dk)]))) :
 bl 147 [.str a,.ac c] bG b :=
 bm R7 (.al 1004 .nil .nil) d
abbrev fF(a:List Nat):aa:=⟨bq a,1,false,false,a.length-1,0,hL (a.length),some (3,0)⟩
abbrev Sk(a:List Nat):J:=J.agg [.bA 3,.av 0,.ac (bh .i64 (a' .i64 (aS (bq a) 0) (28)) (2)),.V (aS (bq a) 1-1),.V (aS (bq a) 2-1),.str []]
abbrev Cf(a:List Nat):J:=J.agg [.bA 3,.av 3,.ac (bh .i64 (a' .i64 (aS (bq a) 0) (28)) (2)),.V (aS (bq a) 1-1),.V (aS (bq a) 2-1),.str []]
abbrev HP(a:List Nat):J:=J.agg [.bA 3,.av 4,.ac (bh .i64 (a' .i64 (aS (bq a) 0) (28)) (2)),.V (aS (bq a) 1-1),.V (aS (bq a) 2-1),.str []]
abbrev HQ(a:List Nat):J:=J.agg [.bA 3,.av 5,.ac (bh .i64 (a' .i64 (aS (bq a) 0) (28)) (2)),.V (aS (bq a) 1-1),.V (aS (bq a) 2-1),.str []]
abbrev HR(a:List Nat):J:=J.agg [.bA 3,.av 6,.ac (bh .i64 (a' .i64 (aS (bq a) 0) (28)) (2)),.V (aS (bq a) 1-1),.V (aS (bq a) 2-1),.str []]
abbrev HS(a:List Nat):J:=J.agg [.bA 3,.av (db .i64 (aS (bq a) 0) (28)),.ac (bh .i64 (a' .i64 (aS (bq a) 0) (28)) (2)),.V (aS (bq a) 1-1),.V (aS (bq a) 2-1),.str []]
abbrev Sl(a:List Nat):J:=J.tuple [(HP a),.aK]
abbrev Sm(a:List Nat):J:=J.tuple [(HQ a),.aK]
abbrev HT(a:List Nat):aa:=(aL (Sk a))
abbrev HU(a:List Nat):aa:=(aL (HP a))
abbrev HV(a:List Nat):aa:=(aL (HQ a))
abbrev HW(a:List Nat):aa:=(aL (HR a))
abbrev HX(a:List Nat):aa:=(aL (HS a))
abbrev xq(a:List Nat):T:=(af 72 [(0,dk),(16,(fF a)),(48,(HT a))])
abbrev Cg(a:List Nat):T:=(af 111 [(0,dk),(16,(fF a)),(48,(HT a))])
abbrev Sn(a:List Nat):T:=(af 99 [(0,(HW a)),(16,(fF a)),(48,(HW a))])
abbrev So(a:List Nat):T:=(af 106 [(0,(HU a)),(16,(fF a)),(48,(HU a))])
abbrev Sp(a:List Nat):T:=(af 113 [(0,(HV a)),(16,(fF a)),(48,(HV a))])
abbrev HY(a:List Nat)(b:aU):Prop:=(db .i64 (aS (bq a) 0) (28)<=2->(-2147483648<=db .i64 (aS (bq a) 0) (28)/\db .i64 (aS (bq a) 0) (28)<=2147483647)/\b (.tuple [(HS a),.aK]) (af 90 [(0,(HX a)),(16,(fF a)),(48,(HX a))]))
abbrev HZ(a:List Nat)(b:aU):Prop:=(¬db .i64 (aS (bq a) 0) (28)=65->b (dw) (Cg a))
abbrev kA(a:List Nat)(b:aU):Prop:=(db .i64 (aS (bq a) 0) (28)=64->b ((Sl a)) (So a))
abbrev H0(a:List Nat)(b:aU):Prop:=(db .i64 (aS (bq a) 0) (28)=65->b ((Sm a)) (Sp a))
abbrev xr(a:List Nat)(b:aU):Prop:=(db .i64 (aS (bq a) 0) (28)<=35->b (.tuple [(HR a),.aK]) (Sn a))
abbrev kB(b:Int)(c:List Nat)(a:aU):Prop:=(¬b=77->(b=77->(H0 c a)/\(HZ c a))/\(¬b=77->a (dw) (Cg c)))
abbrev kC(c:Int)(a:List Nat)(b:aU):Prop:=(¬db .i64 (aS (bq a) 0) (28)=64->(c=77->(H0 a b)/\(HZ a b))/\(¬c=77->b (dw) (Cg a)))
def Ch(d:Bytes)(b:Int)(a:List Nat)(c:aU)(e:[(60:UInt8)]=[(60:UInt8)]/\List.head? d=some (60:UInt8)/\((List.head? d == some 60)=true->numbers (d.drop 1)=some a/\(a=[]->False)/\(d.drop 1).length<100/\((↑(a.length):Int)=3->((0:Int)<=0/\0<(↑(a.length):Int))/\a.length-1=a.length-1/\(bq a)[0]? =some (.V (aS (bq a) 0))/\True/\((0:Int)<=0/\0<(↑(a.length):Int))/\a.length-1=a.length-1/\(bq a)[0]? =some (.V (aS (bq a) 0))/\True/\Int.NonNeg (2-0)/\(0<=bh .i64 (a' .i64 (aS (bq a) 0) (28)) (2)/\bh .i64 (a' .i64 (aS (bq a) 0) (28)) (2)<=255)/\((0:Int)<=1/\1<(↑(a.length):Int))/\a.length-1=a.length-1/\(bq a)[1]? =some (.V (aS (bq a) 1))/\(bd (aS (bq a) 1-1))/\((0:Int)<=2/\2<(↑(a.length):Int))/\a.length-1=a.length-1/\(bq a)[2]? =some (.V (aS (bq a) 2))/\(bd (aS (bq a) 2-1))/\(aS (bq a) 1-1<0->c (dw) (xq a))/\(¬aS (bq a) 1-1<0->(4096<=aS (bq a) 1-1->c (dw) (xq a))/\(¬4096<=aS (bq a) 1-1->(aS (bq a) 2-1<0->c (dw) (xq a))/\(¬aS (bq a) 2-1<0->(4096<=aS (bq a) 2-1->c (dw) (xq a))/\(¬4096<=aS (bq a) 2-1->(b=109->(db .i64 (aS (bq a) 0) (28)<=3->c (.tuple [(Cf a),.aK]) (af 81 [(0,(aL (Cf a))),(16,(fF a)),(48,(aL (Cf a)))]))/\(¬db .i64 (aS (bq a) 0) (28)<=3->(b=77->(HY a c)/\(¬db .i64 (aS (bq a) 0) (28)<=2->(b=77->(32<=db .i64 (aS (bq a) 0) (28)->(xr a c)/\(¬db .i64 (aS (bq a) 0) (28)<=35->(b=77->(kA a c)/\(kC b a c))/\(kB b a c)))/\(¬32<=db .i64 (aS (bq a) 0) (28)->(b=77->(kA a c)/\(kC b a c))/\(kB b a c)))/\(¬b=77->(b=77->(kA a c)/\(kC b a c))/\(kB b a c))))/\(¬b=77->(b=77->(32<=db .i64 (aS (bq a) 0) (28)->(xr a c)/\(¬db .i64 (aS (bq a) 0) (28)<=35->(b=77->(kA a c)/\(kC b a c))/\(kB b a c)))/\(¬32<=db .i64 (aS (bq a) 0) (28)->(b=77->(kA a c)/\(kC b a c))/\(kB b a c)))/\(¬b=77->(b=77->(kA a c)/\(kC b a c))/\(kB b a c)))))/\(¬b=109->(b=77->(HY a c)/\(¬db .i64 (aS (bq a) 0) (28)<=2->(b=77->(32<=db .i64 (aS (bq a) 0) (28)->(xr a c)/\(¬db .i64 (aS (bq a) 0) (28)<=35->(b=77->(kA a c)/\(kC b a c))/\(kB b a c)))/\(¬32<=db .i64 (aS (bq a) 0) (28)->(b=77->(kA a c)/\(kC b a c))/\(kB b a c)))/\(¬b=77->(b=77->(kA a c)/\(kC b a c))/\(kB b a c))))/\(¬b=77->(b=77->(32<=db .i64 (aS (bq a) 0) (28)->(xr a c)/\(¬db .i64 (aS (bq a) 0) (28)<=35->(b=77->(kA a c)/\(kC b a c))/\(kB b a c)))/\(¬32<=db .i64 (aS (bq a) 0) (28)->(b=77->(kA a c)/\(kC b a c))/\(kB b a c)))/\(¬b=77->(b=77->(kA a c)/\(kC b a c))/\(kB b a c)))))))))/\(¬(↑(a.length):Int)=3->c (dw) (af 31 [(0,dk),(16,(fF a))])))/\((List.head? d == some 60)=false->numbers (d.drop 1)=some a/\(a=[]->False)/\(d.drop 1).length<100/\c (dw) (af 31 [(0,dk),(16,(fF a))]))) :
 bl 147 [.str d,.ac b] bG c :=
 pH c6 mixed (R8 a) (hs:= .al 1004 (.al 3009 (ab 5001 (ab 5002 (ab 5003 (ab 6001 (ab 6002 (ab 6003 (ab 6004 (ab 6005 (ab 6007 (ab 6008 (ab 6009 (ab 6011 (ab 6012 (ab 6013 (.al 8002 .nil (.al 8006 .nil (.al 8011 .nil (.al 8016 .nil (.al 10001 (.al 10004 .nil (.al 12001 (.al 12004 (ab 13001 .nil) oy) oy)) (.al 12001 (.al 12004 (ab 13001 .nil) oy) oy)))))))))))))))))))) .nil) .nil) ao e
def Sq(a:Bytes)(c:Int)(b:aU)(d:[(60:UInt8)]=[(60:UInt8)]/\(List.head? a=some (60:UInt8)->False)/\numbers a=none/\a.length<100/\b (dw) (af 30 [(0,dk)])) :
 bl 147 [.str a,.ac c] bG b :=
 bm Se (.nil) d
def Sr(a:Bytes)(c:Int)(b:aU)(d:[(60:UInt8)]=[(60:UInt8)]/\(List.head? a=some (60:UInt8)->False)/\numbers a=some []/\a.length<100/\b (dw) (af 30 [(0,dk)])) :
 bl 147 [.str a,.ac c] bG b :=
 bm Sf (.nil) d
def Ss(b:Bytes)(d:Int)(a:List Nat)(c:aU)(e:[(60:UInt8)]=[(60:UInt8)]/\(List.head? b=some (60:UInt8)->False)/\numbers b=some a/\(a=[]->False)/\b.length<100/\c (dw) (af 31 [(0,dk),(16,(fF a))])) :
 bl 147 [.str b,.ac d] bG c :=
 pH c6 mixed (Sg a) (hs:= .nil) ao e
def St(n:Nat):n &&& 28=4* (n/4%8):=by
 have h:∀r:Fin 32,(r.val &&& 28)=4* (r.val/4%8):= aC
 have e:n &&& 28=(n%32) &&& 28:=by rw [show n%32=n &&& 31 from(ve n 5).symm,Nat.and_assoc];rfl
 have ag:n%32 &&& 28=4* (n%32/4%8):=h ⟨n%32,Nat.mod_lt _ aC⟩;rw [e,ag];omega
def Su(n:Nat)(h:n<2^62):n &&& (2^64-29)=n-4* (n/4%8):=by
 have aQ:(n &&& (2^64-29))/2^5=n/2^5:=by rw [Nat.and_div_two_pow,show(2^64-29)/2^5=2^59-1 by decide,ve];exact so A
 have aZ:(n &&& (2^64-29))%2^5=n%4:=by rw [Nat.and_mod_two_pow,show(2^64-29)%2^5=2^2-1 by decide,ve];omega
 omega
def Sv(n:Nat)(h:n<2^30):a' .i64 (n:Int) 28=(4* (n/4%8):Nat):=by
 unfold a';rw [BitVec.toNat_and]
 have a:(BitVec.ofInt IntKind.i64.bits (n:Int)).toNat=n:=by show(BitVec.ofInt 64 (n:Int)).toNat=n;rw [BitVec.toNat_ofInt];omega
 have b:(BitVec.ofInt IntKind.i64.bits 28).toNat=28:= aC;rw [a,b,St];have:4* (n/4%8)<32:= A;generalize 4* (n/4%8)=k at this;have w:∀k:Fin 32,IntKind.i64.wrap (k.val:Int)=k.val:= aC;exact w ⟨k,this⟩
def Sw(n:Nat)(h:n<2^30):db .i64 (n:Int) 28=(n-4* (n/4%8):Nat):=by
 unfold db;rw [BitVec.toNat_and]
 have a:(BitVec.ofInt IntKind.i64.bits (n:Int)).toNat=n:=by show(BitVec.ofInt 64 (n:Int)).toNat=n;rw [BitVec.toNat_ofInt];omega
 have b:(~~~(BitVec.ofInt IntKind.i64.bits 28)).toNat=2^64-29:= aC;rw [a,b,Su n A];generalize c:n-4* (n/4%8)=k;have:k<2^30:= A;exact zc A A rfl
def Sx(k:Nat):bh .i64 ((4*k:Nat):Int) 2=k:=by unfold bh;show Int.fdiv ((4*k:Nat):Int) 4=k;rw [Int.fdiv_eq_ediv_of_nonneg _ aC];omega
set_option maxHeartbeats 8000000
def Ci(held b a n2 c:Nat):Option aP :=
 if a<1\/4096<a\/n2<1\/4096<n2 then none
 else if c=109/\b<=3 then some {kind:=3,code:=3,cI:=held,x:=(a:Int)-1,y:=(n2:Int)-1}
 else if c=77/\b<=2 then some {kind:=3,code:=b,cI:=held,x:=(a:Int)-1,y:=(n2:Int)-1}
 else if c=77/\32<=b/\b<=35 then some {kind:=3,code:=6,cI:=held,x:=(a:Int)-1,y:=(n2:Int)-1}
 else if c=77/\b=64 then some {kind:=3,code:=4,cI:=held,x:=(a:Int)-1,y:=(n2:Int)-1}
 else if c=77/\b=65 then some {kind:=3,code:=5,cI:=held,x:=(a:Int)-1,y:=(n2:Int)-1}
 else none
def Sy{rest:Bytes}{a b c:Nat}(h:Keys.numbers rest=some [a,b,n2]):Keys.dq (60::rest) c=Ci (a/4%8) (a-4* (a/4%8)) b n2 c:=by simp only [Keys.dq,h,Ci]
def Sz{rest:Bytes}{a c:Nat}(h:Keys.numbers rest=some [a,d,n2])(i:rest.length<100)(aM:a<2^30)(Y:d<2^30)(ag:n2<2^30)(H:T):be 147 [.str (60::rest),.ac c] H (fv (Keys.dq (60::rest) c)) H:=by
 refine bj.bU (Si (60::rest) c a d n2 (λv _=>v=fv (Keys.dq (60::rest) c)) ?_) rfl rfl H
 delta mT dk fE dw jV xp B9 HI Cd Ce HO Ca B7 HK jW jU HN B' B6 HJ ud HM Cb B8 Cc HL xo xn uc
 rw [Sy h,Sv a aM,Sw a aM,Sx];have g:a/4%8<8:= A;have f:a-4* (a/4%8)<2^30:= A;generalize a/4%8=held at g f⊢;generalize a-4*held=b at f⊢;refine⟨rfl,rfl,λ_=>⟨h,i,?_⟩,λe=>by cases e⟩
 repeat' (first|exact True.intro|apply And.intro|intro _)
 all_goals first
  |omega
  |decide
  |exact(show(0:Int)<=2 by decide)
  |(unfold Ci;(repeat' split)<;>first|rfl|(exfalso;omega))
end Go.Proofs.zz
namespace Go.Keys
def ue{w:Bytes}{l:List Nat}(h:numbers w=some l):∀n∈l,n<1000000000:=by
 unfold numbers at h;split at h
 .simp only [a8]at h;subst h;intro n aw;cases aw
 .exact Hi h
def rC{w:Bytes}{c:Nat}(h:w.head? ≠some 60):dq w c=none:=by
 unfold dq;split
 .simp at h
 .rfl
def SA{r:Bytes}{c:Nat}(h:numbers r=none):dq (60::r) c=none:=by simp only [dq,h]
def xt{r:Bytes}{c:Nat}{l:List Nat}(h:numbers r=some l)(b:l.length≠3):dq (60::r) c=none:=by
 simp only [dq,h];split
 .rename_i a;simp only [a8]at a;subst a;simp at b
 .rfl
end Go.Keys
namespace Go.Proofs.zz
open Go.br Go.Keys
def SB(w:Bytes)(c:Nat)(hw:w.length<100)(H:T):be 147 [.str w,.ac c] H (fv (Keys.dq w c)) H:=by
 by_cases f:w.head? =some 60
 .cases w with
  |nil=>cases f
  |cons b r =>
   simp only [List.head?_cons,a8]at f;subst f;have g:r.length<100:=by simp only [bK]at hw;omega
   cases aw:Keys.numbers r with
   |none =>
    rw [SA aw];exact bj.bU (Sh (60::r) c (λv _=>v=fv none) ⟨rfl,rfl,λ_=>⟨aw,g,rfl⟩,λe=>by cases e⟩) rfl rfl H
   |some l =>
    match l,aw with
    |[],aw =>
     rw [xt aw au];exact bj.bU (Sj (60::r) c (λv _=>v=fv none) ⟨rfl,rfl,λ_=>⟨aw,g,rfl⟩,λe=>by cases e⟩) rfl rfl H
    |[a,b,d],aw =>
     have i:=ue aw;exact Sz aw g (by have:=i a au ;omega) (by have:=i b au ;omega) (by have:=i d au ;omega) H
    |[a],aw =>
     rw [xt aw au];exact bj.bU (Ch (60::r) c [a] (λv _=>v=fv none) ⟨rfl,rfl,λ_=>⟨aw,au,g,(λh=>by simp only [bK,cq]at h;omega),λ_=>rfl⟩,λe=>by cases e⟩) rfl rfl H
    |[a,b],aw =>
     rw [xt aw au];exact bj.bU (Ch (60::r) c [a,b] (λv _=>v=fv none) ⟨rfl,rfl,λ_=>⟨aw,au,g,(λh=>by simp only [bK,cq]at h;omega),λ_=>rfl⟩,λe=>by cases e⟩) rfl rfl H
    |a::b::d::e::t,aw =>
     rw [xt aw au];exact bj.bU (Ch (60::r) c (a::b::d::e::t) (λv _=>v=fv none) ⟨rfl,rfl,λ_=>⟨aw,au,g,(λh=>by simp only [bK]at h;omega),λ_=>rfl⟩,λe=>by cases e⟩) rfl rfl H
 .rw [rC f];cases aw:Keys.numbers w with
  |none=>exact bj.bU (Sq w c (λv _=>v=fv none) ⟨rfl,f,aw,hw,rfl⟩) rfl rfl H
  |some l =>
   cases l with
   |nil=>exact bj.bU (Sr w c (λv _=>v=fv none) ⟨rfl,f,aw,hw,rfl⟩) rfl rfl H
   |cons a t=>exact bj.bU (Ss w c (a::t) (λv _=>v=fv none) ⟨rfl,f,aw,au,hw,rfl⟩) rfl rfl H
noncomputable def H3:List J->T->Option dx:=io λa=>match a with | [.str w,.int .u8 c]=>some (fv (Keys.dq w c.toNat),[w.length<100,0<=c/\c<=255])|_=>none
def uf:∀args h a,H3 args h=some a->a.cG Tryz.prog cz 147 args h:=by
 refine jo ?_;intro args v ps e ae H;split at e<;>first|(cases e;done)|skip
 rename_i w c;simp only [a8,bC]at e;obtain⟨rfl,rfl⟩:=e;have aM:=ae.tail.head.1;have:=SB w c.toNat ae.head H
 rwa [ja aM]at this
noncomputable def H4:List J->T->Option dx:=io λa=>match a with | [.int .i64 n,.int .u8 m]=>some (fv (Keys.c1 n.toNat m),[0<=n])|_=>none
def ug:∀args h a,H4 args h=some a->a.cG Tryz.prog cz 149 args h:=by
 refine jo ?_;intro args v ps e ae H;split at e<;>first|(cases e;done)|skip
 rename_i n m;simp only [a8,bC]at e;obtain⟨rfl,rfl⟩:=e;have aM:0<=n:=ae _ kQ;have:=Rm n.toNat m H
 rwa [ja aM]at this
noncomputable def uh(num:List J->T->Option dx):dQ:=((mJ.add 147 H3).add 149 H4).add 148 num
noncomputable def SC:dQ:=uh xj
noncomputable def SD:dQ:=uh xk
noncomputable def SE(a:Nat):dQ:=uh (HD a)
noncomputable def SF(a b:Nat):dQ:=uh (HE a b)
def SG:dC Tryz.prog cz SC:=((ci.add uf).add ug).add B0
def SH:dC Tryz.prog cz SD:=((ci.add uf).add ug).add B1
def SI(a:Nat):dC Tryz.prog cz (SE a):=((ci.add uf).add ug).add (R2 a)
def SJ(a b:Nat):dC Tryz.prog cz (SF a b):=((ci.add uf).add ug).add (R3 a b)
noncomputable def SK(l:List Nat):dQ:=uh (ub l)
def SL(l:List Nat):dC Tryz.prog cz (SK l):=((ci.add uf).add ug).add (B2 l)
abbrev eA(b:Bytes)(a:Int):J:=J.agg [.bA 6,.av 0,.ac 0,.V 0,.V 0,.str (b++[UInt8.ofNat (a.toNat)])]
abbrev fG(b:Bytes)(a:Int):J:=J.agg [.bA (aP.kind (Option.getD (dq b (a.toNat)) d')),.av (aP.code (Option.getD (dq b (a.toNat)) d')),.ac (aP.cI (Option.getD (dq b (a.toNat)) d')),.V (aP.x (Option.getD (dq b (a.toNat)) d')),.V (aP.y (Option.getD (dq b (a.toNat)) d')),.str (Option.getD (dq b (a.toNat)) d').6]
abbrev fP(b:Bytes)(a:Int):aa:=(aL (fG b a))
def SM(b:Bytes)(a:Int)(c:aU)(d:(a=82->bY (b.length+List.length [UInt8.ofNat (a.toNat)])/\c (.tuple [(eA b a),.aK]) (af 14 [(0,(aL (eA b a))),(2,bF),(8,aa.an [.ac a] 1 true)]))/\(¬a=82->(a=99->bY (b.length+List.length [UInt8.ofNat (a.toNat)])/\c (.tuple [(eA b a),.aK]) (af 16 [(0,(aL (eA b a))),(2,bF),(10,aa.an [.ac a] 1 true)]))/\(¬a=99->(a=110->bY (b.length+List.length [UInt8.ofNat (a.toNat)])/\c (.tuple [(eA b a),.aK]) (af 18 [(0,(aL (eA b a))),(2,bF),(12,aa.an [.ac a] 1 true)]))/\(¬a=110->(a=77->b.length<100/\(0<=a/\a<=255)/\(Option.isSome (dq b (a.toNat))=true->c (.tuple [(fG b a),.aK]) (af 19 [(0,(fP b a)),(2,bF)]))/\(Option.isSome (dq b (a.toNat))=false->c (.tuple [(fG b a),.aJ]) (af 19 [(0,(fP b a)),(2,bF)])))/\(¬a=77->(a=109->b.length<100/\(0<=a/\a<=255)/\(Option.isSome (dq b (a.toNat))=true->c (.tuple [(fG b a),.aK]) (af 21 [(0,(fP b a)),(2,bF)]))/\(Option.isSome (dq b (a.toNat))=false->c (.tuple [(fG b a),.aJ]) (af 21 [(0,(fP b a)),(2,bF)])))/\(¬a=109->numbers b=none/\b.length<100/\c (dw) (af 26 [(0,dk),(2,bF)]))))))) :
 bl 130 [.str b,.ac a] bG c :=
 bm SG (.al 3000 (ab 6004 .nil)<|.al 4000 (ab 6004 .nil)<|.al 5000 (ab 6004 .nil)<|.al 7000 (.al 9004 .nil .nil)<|.al 8000 (.al 9004 .nil .nil) .nil) d
abbrev lZ:J:=J.agg [.bA 2,.av 2,.ac 1,.V 0,.V 0,.str []]
abbrev jX:J:=J.agg [.bA 5,.av 0,.ac 0,.V 0,.V 0,.str []]
abbrev lf:J:=J.agg [.bA 5,.av 1,.ac 0,.V 0,.V 0,.str []]
def SN(b:Bytes)(a:Int)(c:aU)(d:(a=82->bY (b.length+List.length [UInt8.ofNat (a.toNat)])/\c (.tuple [(eA b a),.aK]) (af 14 [(0,(aL (eA b a))),(2,bF),(8,aa.an [.ac a] 1 true)]))/\(¬a=82->(a=99->bY (b.length+List.length [UInt8.ofNat (a.toNat)])/\c (.tuple [(eA b a),.aK]) (af 16 [(0,(aL (eA b a))),(2,bF),(10,aa.an [.ac a] 1 true)]))/\(¬a=99->(a=110->bY (b.length+List.length [UInt8.ofNat (a.toNat)])/\c (.tuple [(eA b a),.aK]) (af 18 [(0,(aL (eA b a))),(2,bF),(12,aa.an [.ac a] 1 true)]))/\(¬a=110->(a=77->b.length<100/\(0<=a/\a<=255)/\(Option.isSome (dq b (a.toNat))=true->c (.tuple [(fG b a),.aK]) (af 19 [(0,(fP b a)),(2,bF)]))/\(Option.isSome (dq b (a.toNat))=false->c (.tuple [(fG b a),.aJ]) (af 19 [(0,(fP b a)),(2,bF)])))/\(¬a=77->(a=109->b.length<100/\(0<=a/\a<=255)/\(Option.isSome (dq b (a.toNat))=true->c (.tuple [(fG b a),.aK]) (af 21 [(0,(fP b a)),(2,bF)]))/\(Option.isSome (dq b (a.toNat))=false->c (.tuple [(fG b a),.aJ]) (af 21 [(0,(fP b a)),(2,bF)])))/\(¬a=109->numbers b=some []/\b.length<100/\(a=90->c (.tuple [lZ,.aK]) (af 32 [(0,(aL lZ)),(2,bF)]))/\(¬a=90->(a=73->c (.tuple [lf,.aK]) (af 34 [(0,(aL lf)),(2,bF)]))/\(¬a=73->(a=79->c (.tuple [jX,.aK]) (af 36 [(0,(aL jX)),(2,bF)]))/\(¬a=79->(0<ft a->c (.tuple [(lc a),.aK]) (af 42 [(0,(aL (lc a))),(2,bF)]))/\(¬0<ft a->c (dw) (af 41 [(0,dk),(2,bF)]))))))))))) :
 bl 130 [.str b,.ac a] bG c :=
 bm SH (.al 3000 (ab 6004 .nil)<|.al 4000 (ab 6004 .nil)<|.al 5000 (ab 6004 .nil)<|.al 7000 (.al 9004 .nil .nil)<|.al 8000 (.al 9004 .nil .nil)<|.al 15000 .nil<|.al 17000 .nil<|.al 19000 .nil<|.al 22001 .nil .nil) d
abbrev xu(a:Nat):aa:=(aa.an ([.V a]) 1 false (some (3,0)))
abbrev ui:b7:=(.al 33001 (.al 33007 .nil<|.al 35001 (.al 36006 .nil .nil) .nil)<|.al 35001 (.al 36006 .nil .nil) .nil)
abbrev Cj(a:Nat):J:=J.agg [.bA 2,.av (fM (a:Int)),.ac 0,.V 0,.V 0,.str []]
abbrev xv(a:Nat):J:=J.agg [.bA (aP.kind (Option.getD (c1 a 0) d')),.av (aP.code (Option.getD (c1 a 0) d')),.ac (aP.cI (Option.getD (c1 a 0) d')),.V (aP.x (Option.getD (c1 a 0) d')),.V (aP.y (Option.getD (c1 a 0) d')),.str (Option.getD (c1 a (0)) d').6]
abbrev H5(a:Nat):J:=J.tuple [(xv a),.aK]
abbrev H6(a:Nat):J:=J.tuple [(xv a),.aJ]
abbrev H7(a:Nat):aa:=(aL (xv a))
abbrev H8(a:Nat):T:=(af 79 [(0,(aL (Cj a))),(2,bF),(21,(xu a))])
abbrev xw(a:Nat)(b:aU):Prop:=(0<fM (a:Int)->b (.tuple [(Cj a),.aK]) (H8 a))
abbrev Ck(a:Nat):T:=(af 77 [(0,dk),(2,bF),(21,(xu a))])
abbrev Cl(a:Nat):T:=(af 83 [(0,(H7 a)),(2,bF),(21,(xu a))])
abbrev Cm(a:Nat)(b:aU):Prop:=(Option.isSome (c1 a 0)=true->b ((H5 a)) (Cl a))
abbrev Cn(a:Nat)(b:aU):Prop:=(Option.isSome (c1 a 0)=false->b ((H6 a)) (Cl a))
abbrev xx(c:Int)(a:Nat)(b:aU):Prop:=(¬c=126->(c=117->0<=(a:Int)/\(Cm a b)/\(Cn a b))/\(¬c=117->b (dw) (Ck a)))
abbrev xy(c:Int)(a:Nat)(b:aU):Prop:=(¬0<fM (a:Int)->(c=117->0<=(a:Int)/\(Cm a b)/\(Cn a b))/\(¬c=117->b (dw) (Ck a)))
def SO(b:Bytes)(a:Int)(d:Nat)(c:aU)(e:(a=82->bY (b.length+List.length [UInt8.ofNat (a.toNat)])/\c (.tuple [(eA b a),.aK]) (af 14 [(0,(aL (eA b a))),(2,bF),(8,aa.an [.ac a] 1 true)]))/\(¬a=82->(a=99->bY (b.length+List.length [UInt8.ofNat (a.toNat)])/\c (.tuple [(eA b a),.aK]) (af 16 [(0,(aL (eA b a))),(2,bF),(10,aa.an [.ac a] 1 true)]))/\(¬a=99->(a=110->bY (b.length+List.length [UInt8.ofNat (a.toNat)])/\c (.tuple [(eA b a),.aK]) (af 18 [(0,(aL (eA b a))),(2,bF),(12,aa.an [.ac a] 1 true)]))/\(¬a=110->(a=77->b.length<100/\(0<=a/\a<=255)/\(Option.isSome (dq b (a.toNat))=true->c (.tuple [(fG b a),.aK]) (af 19 [(0,(fP b a)),(2,bF)]))/\(Option.isSome (dq b (a.toNat))=false->c (.tuple [(fG b a),.aJ]) (af 19 [(0,(fP b a)),(2,bF)])))/\(¬a=77->(a=109->b.length<100/\(0<=a/\a<=255)/\(Option.isSome (dq b (a.toNat))=true->c (.tuple [(fG b a),.aK]) (af 21 [(0,(fP b a)),(2,bF)]))/\(Option.isSome (dq b (a.toNat))=false->c (.tuple [(fG b a),.aJ]) (af 21 [(0,(fP b a)),(2,bF)])))/\(¬a=109->numbers b=some [d]/\b.length<100/\(0<ft a->((d:Int)=1->(a=126->(xw d c)/\(xy a d c))/\(xx a d c))/\(¬(d:Int)=1->(a=126->(xw d c)/\(xy a d c))/\(xx a d c)))/\(¬0<ft a->(a=126->(xw d c)/\(xy a d c))/\(xx a d c)))))))) :
 bl 130 [.str b,.ac a] bG c :=
 pH c6 mixed (SI d) (hs:= .al 3000 (ab 6004 .nil) (.al 4000 (ab 6004 .nil) (.al 5000 (ab 6004 .nil) (.al 7000 (.al 9004 .nil .nil) (.al 8000 (.al 9004 .nil .nil) (.al 31002 (.al 31007 ui ui) ui)))))) ao e
abbrev Co(a:Int)(b:Nat):J:=J.agg [.bA 2,.av (ft a),.ac ((b:Int)-1),.V 0,.V 0,.str []]
abbrev p2(a b:Nat):aa:=⟨[.V a,.V b],1,false,false,1,0,1,some (3,0)⟩
abbrev Cp(a b:Nat):J:=J.agg [.bA 2,.av (fM (a:Int)),.ac ((b:Int)-1),.V 0,.V 0,.str []]
abbrev xz(a b:Nat):J:=J.agg [.bA (aP.kind (Option.getD (c1 a ((b:Int)-1)) d')),.av (aP.code (Option.getD (c1 a ((b:Int)-1)) d')),.ac (aP.cI (Option.getD (c1 a ((b:Int)-1)) d')),.V (aP.x (Option.getD (c1 a ((b:Int)-1)) d')),.V (aP.y (Option.getD (c1 a ((b:Int)-1)) d')),.str (Option.getD (c1 a ((b:Int)-1)) d').6]
abbrev H9(a b:Nat):aa:=(aL (xz a b))
abbrev Ia(a b:Nat):T:=(af 83 [(0,(aL (Cp a b))),(2,bF),(21,(p2 a b))])
abbrev xA(a b:Nat):T:=(af 81 [(0,dk),(2,bF),(21,(p2 a b))])
abbrev Cq(a b:Nat):T:=(af 87 [(0,(H9 a b)),(2,bF),(21,(p2 a b))])
abbrev xB(a b:Nat)(c:aU):Prop:=(Option.isSome (c1 a ((b:Int)-1))=true->c (.tuple [(xz a b),.aK]) (Cq a b))
abbrev xC(a b:Nat)(c:aU):Prop:=(Option.isSome (c1 a ((b:Int)-1))=false->c (.tuple [(xz a b),.aJ]) (Cq a b))
abbrev Cr(d:Int)(a b:Nat)(c:aU):Prop:=(d=126->(0<fM (a:Int)->c (.tuple [(Cp a b),.aK]) (Ia a b))/\(¬0<fM (a:Int)->(d=117->0<=(a:Int)/\(xB a b c)/\(xC a b c))/\(¬d=117->c (dw) (xA a b))))
def SP(b:Bytes)(a:Int)(e c:Nat)(d:aU)(f:(a=82->bY (b.length+List.length [UInt8.ofNat (a.toNat)])/\d (.tuple [(eA b a),.aK]) (af 14 [(0,(aL (eA b a))),(2,bF),(8,aa.an [.ac a] 1 true)]))/\(¬a=82->(a=99->bY (b.length+List.length [UInt8.ofNat (a.toNat)])/\d (.tuple [(eA b a),.aK]) (af 16 [(0,(aL (eA b a))),(2,bF),(10,aa.an [.ac a] 1 true)]))/\(¬a=99->(a=110->bY (b.length+List.length [UInt8.ofNat (a.toNat)])/\d (.tuple [(eA b a),.aK]) (af 18 [(0,(aL (eA b a))),(2,bF),(12,aa.an [.ac a] 1 true)]))/\(¬a=110->(a=77->b.length<100/\(0<=a/\a<=255)/\(Option.isSome (dq b (a.toNat))=true->d (.tuple [(fG b a),.aK]) (af 19 [(0,(fP b a)),(2,bF)]))/\(Option.isSome (dq b (a.toNat))=false->d (.tuple [(fG b a),.aJ]) (af 19 [(0,(fP b a)),(2,bF)])))/\(¬a=77->(a=109->b.length<100/\(0<=a/\a<=255)/\(Option.isSome (dq b (a.toNat))=true->d (.tuple [(fG b a),.aK]) (af 21 [(0,(fP b a)),(2,bF)]))/\(Option.isSome (dq b (a.toNat))=false->d (.tuple [(fG b a),.aJ]) (af 21 [(0,(fP b a)),(2,bF)])))/\(¬a=109->numbers b=some [e,c]/\b.length<100/\((c:Int)<1->d (dw) (af 49 [(0,dk),(2,bF),(21,(p2 e c))]))/\(¬(c:Int)<1->(8<(c:Int)->d (dw) (af 49 [(0,dk),(2,bF),(21,(p2 e c))]))/\(¬8<(c:Int)->(bd ((c:Int)-1))/\(0<=(c:Int)-1/\(c:Int)-1<=255)/\(0<ft a->((e:Int)=1->d (.tuple [(Co a c),.aK]) (af 71 [(0,(aL (Co a c))),(2,bF),(21,(p2 e c))]))/\(¬(e:Int)=1->(Cr a e c d)/\(¬a=126->(a=117->0<=(e:Int)/\(xB e c d)/\(xC e c d))/\(¬a=117->d (dw) (xA e c)))))/\(¬0<ft a->(Cr a e c d)/\(¬a=126->(a=117->0<=(e:Int)/\(xB e c d)/\(xC e c d))/\(¬a=117->d (dw) (xA e c)))))))))))) :
 bl 130 [.str b,.ac a] bG d :=
 pH c6 mixed (SJ e c) (hs:= .al 3000 (ab 6004 .nil) (.al 4000 (ab 6004 .nil) (.al 5000 (ab 6004 .nil) (.al 7000 (.al 9004 .nil .nil) (.al 8000 (.al 9004 .nil .nil) (.al 28005 .nil (.al 28009 .nil (ab 30001 (ab 30002 (.al 31002 (.al 31007 .nil ui) ui)))))))))) ao f
abbrev Ib:b7:=(ab 36001<|ab 36002<|.al 36006 .nil .nil)
abbrev Cs(a:List Nat):J:=J.agg [.bA 2,.av (fM (aS (bq a) 0)),.ac 0,.V 0,.V 0,.str []]
abbrev Ct(a:Int)(b:List Nat):J:=J.agg [.bA 2,.av (ft a),.ac (aS (bq b) 1-1),.V 0,.V 0,.str []]
abbrev Cu(a:List Nat):J:=J.agg [.bA 2,.av (fM (aS (bq a) 0)),.ac (aS (bq a) 1-1),.V 0,.V 0,.str []]
abbrev xD(a:List Nat):J:=J.agg [.bA (aP.kind (Option.getD (c1 (Int.toNat (aS (bq a) 0)) 0) d')),.av (aP.code (Option.getD (c1 (Int.toNat (aS (bq a) 0)) 0) d')),.ac (aP.cI (Option.getD (c1 (Int.toNat (aS (bq a) 0)) 0) d')),.V (aP.x (Option.getD (c1 (Int.toNat (aS (bq a) 0)) 0) d')),.V (aP.y (Option.getD (c1 (Int.toNat (aS (bq a) 0)) 0) d')),.str (Option.getD (c1 (Int.toNat (aS (bq a) 0)) (0)) d').6]
abbrev xE(a:List Nat):J:=J.agg [.bA (aP.kind (Option.getD (c1 (Int.toNat (aS (bq a) 0)) (aS (bq a) 1-1)) d')),.av (aP.code (Option.getD (c1 (Int.toNat (aS (bq a) 0)) (aS (bq a) 1-1)) d')),.ac (aP.cI (Option.getD (c1 (Int.toNat (aS (bq a) 0)) (aS (bq a) 1-1)) d')),.V (aP.x (Option.getD (c1 (Int.toNat (aS (bq a) 0)) (aS (bq a) 1-1)) d')),.V (aP.y (Option.getD (c1 (Int.toNat (aS (bq a) 0)) (aS (bq a) 1-1)) d')),.str (Option.getD (c1 (Int.toNat (aS (bq a) 0)) (aS (bq a) 1-1)) d').6]
abbrev Ic(a:List Nat):J:=J.tuple [(xD a),.aK]
abbrev Ie(a:List Nat):J:=J.tuple [(xE a),.aK]
abbrev If(a:List Nat):J:=J.tuple [(xD a),.aJ]
abbrev Ig(a:List Nat):J:=J.tuple [(xE a),.aJ]
abbrev Ih(a:List Nat):aa:=(aL (xD a))
abbrev Ii(a:List Nat):aa:=(aL (xE a))
abbrev SQ:b7:=(.al 33007 (ab 34001<|ab 34002 .nil)<|.al 35001 Ib .nil)
abbrev Ij(a:List Nat):T:=(af 79 [(0,(aL (Cs a))),(2,bF),(21,(fF a))])
abbrev Ik(a:List Nat):T:=(af 83 [(0,(aL (Cu a))),(2,bF),(21,(fF a))])
abbrev Cv:b7:=(.al 33001 (ab 33004<|ab 33005 SQ)<|.al 35001 Ib .nil)
abbrev xF(a:List Nat):T:=(af 49 [(0,dk),(2,bF),(21,(fF a))])
abbrev uj(a:List Nat):T:=(af 77 [(0,dk),(2,bF),(21,(fF a))])
abbrev uk(a:List Nat):T:=(af 81 [(0,dk),(2,bF),(21,(fF a))])
abbrev Cw(a:List Nat):T:=(af 83 [(0,(Ih a)),(2,bF),(21,(fF a))])
abbrev Cx(a:List Nat):T:=(af 87 [(0,(Ii a)),(2,bF),(21,(fF a))])
abbrev xG(a:List Nat)(b:aU):Prop:=(0<fM (aS (bq a) 0)->((0:Int)<=0/\0<(↑(a.length):Int))/\a.length-1=a.length-1/\(bq a)[0]? =some (.V (aS (bq a) 0))/\b (.tuple [(Cs a),.aK]) (Ij a))
abbrev xH(a:List Nat)(b:aU):Prop:=(0<fM (aS (bq a) 0)->((0:Int)<=0/\0<(↑(a.length):Int))/\a.length-1=a.length-1/\(bq a)[0]? =some (.V (aS (bq a) 0))/\b (.tuple [(Cu a),.aK]) (Ik a))
abbrev Il:b7:=(.al 31002 (ab 31005 (ab 31006 (.al 31007 (.al 31012 .nil Cv) Cv))) Cv)
abbrev ul(c:Int)(a:List Nat)(b:aU):Prop:=(c=117->((0:Int)<=0/\0<(↑(a.length):Int))/\a.length-1=a.length-1/\(bq a)[0]? =some (.V (aS (bq a) 0))/\0<=aS (bq a) 0/\(Option.isSome (c1 (Int.toNat (aS (bq a) 0)) 0)=true->b ((Ic a)) (Cw a))/\(Option.isSome (c1 (Int.toNat (aS (bq a) 0)) 0)=false->b ((If a)) (Cw a)))
abbrev um(c:Int)(a:List Nat)(b:aU):Prop:=(c=117->((0:Int)<=0/\0<(↑(a.length):Int))/\a.length-1=a.length-1/\(bq a)[0]? =some (.V (aS (bq a) 0))/\0<=aS (bq a) 0/\(Option.isSome (c1 (Int.toNat (aS (bq a) 0)) (aS (bq a) 1-1))=true->b ((Ie a)) (Cx a))/\(Option.isSome (c1 (Int.toNat (aS (bq a) 0)) (aS (bq a) 1-1))=false->b ((Ig a)) (Cx a)))
abbrev xI(c:Int)(a:List Nat)(b:aU):Prop:=(¬0<fM (aS (bq a) 0)->(ul c a b)/\(¬c=117->b (dw) (uj a)))
abbrev xJ(c:Int)(a:List Nat)(b:aU):Prop:=(¬0<fM (aS (bq a) 0)->(um c a b)/\(¬c=117->b (dw) (uk a)))
def SR(d:Bytes)(b:Int)(a:List Nat)(c:aU)(e:(b=82->bY (d.length+List.length [UInt8.ofNat (b.toNat)])/\c (.tuple [(eA d b),.aK]) (af 14 [(0,(aL (eA d b))),(2,bF),(8,aa.an [.ac b] 1 true)]))/\(¬b=82->(b=99->bY (d.length+List.length [UInt8.ofNat (b.toNat)])/\c (.tuple [(eA d b),.aK]) (af 16 [(0,(aL (eA d b))),(2,bF),(10,aa.an [.ac b] 1 true)]))/\(¬b=99->(b=110->bY (d.length+List.length [UInt8.ofNat (b.toNat)])/\c (.tuple [(eA d b),.aK]) (af 18 [(0,(aL (eA d b))),(2,bF),(12,aa.an [.ac b] 1 true)]))/\(¬b=110->(b=77->d.length<100/\(0<=b/\b<=255)/\(Option.isSome (dq d (b.toNat))=true->c (.tuple [(fG d b),.aK]) (af 19 [(0,(fP d b)),(2,bF)]))/\(Option.isSome (dq d (b.toNat))=false->c (.tuple [(fG d b),.aJ]) (af 19 [(0,(fP d b)),(2,bF)])))/\(¬b=77->(b=109->d.length<100/\(0<=b/\b<=255)/\(Option.isSome (dq d (b.toNat))=true->c (.tuple [(fG d b),.aK]) (af 21 [(0,(fP d b)),(2,bF)]))/\(Option.isSome (dq d (b.toNat))=false->c (.tuple [(fG d b),.aJ]) (af 21 [(0,(fP d b)),(2,bF)])))/\(¬b=109->numbers d=some a/\(a=[]->False)/\d.length<100/\((↑(a.length):Int)=0->(b=90->c (.tuple [lZ,.aK]) (af 33 [(0,(aL lZ)),(2,bF),(21,(fF a))]))/\(¬b=90->(b=73->c (.tuple [lf,.aK]) (af 35 [(0,(aL lf)),(2,bF),(21,(fF a))]))/\(¬b=73->(b=79->c (.tuple [jX,.aK]) (af 37 [(0,(aL jX)),(2,bF),(21,(fF a))]))/\(¬b=79->(0<ft b->c (.tuple [(lc b),.aK]) (af 43 [(0,(aL (lc b))),(2,bF),(21,(fF a))]))/\(¬0<ft b->c (dw) (af 42 [(0,dk),(2,bF),(21,(fF a))]))))))/\(¬(↑(a.length):Int)=0->((↑(a.length):Int)=2->((0:Int)<=1/\1<(↑(a.length):Int))/\a.length-1=a.length-1/\(bq a)[1]? =some (.V (aS (bq a) 1))/\(2<(↑(a.length):Int)->c (dw) (xF a))/\(¬2<(↑(a.length):Int)->(aS (bq a) 1<1->c (dw) (xF a))/\(¬aS (bq a) 1<1->(8<aS (bq a) 1->c (dw) (xF a))/\(¬8<aS (bq a) 1->(bd (aS (bq a) 1-1))/\(0<=aS (bq a) 1-1/\aS (bq a) 1-1<=255)/\(0<ft b->((0:Int)<=0/\0<(↑(a.length):Int))/\a.length-1=a.length-1/\(bq a)[0]? =some (.V (aS (bq a) 0))/\(aS (bq a) 0=1->((↑(a.length):Int)=2->c (.tuple [(Ct b a),.aK]) (af 71 [(0,(aL (Ct b a))),(2,bF),(21,(fF a))]))/\(¬(↑(a.length):Int)=2->(b=126->((0:Int)<=0/\0<(↑(a.length):Int))/\a.length-1=a.length-1/\(bq a)[0]? =some (.V (aS (bq a) 0))/\(xH a c)/\(xJ b a c))/\(¬b=126->(um b a c)/\(¬b=117->c (dw) (uk a)))))/\(¬aS (bq a) 0=1->(b=126->((0:Int)<=0/\0<(↑(a.length):Int))/\a.length-1=a.length-1/\(bq a)[0]? =some (.V (aS (bq a) 0))/\(xH a c)/\(xJ b a c))/\(¬b=126->(um b a c)/\(¬b=117->c (dw) (uk a)))))/\(¬0<ft b->(b=126->((0:Int)<=0/\0<(↑(a.length):Int))/\a.length-1=a.length-1/\(bq a)[0]? =some (.V (aS (bq a) 0))/\(xH a c)/\(xJ b a c))/\(¬b=126->(um b a c)/\(¬b=117->c (dw) (uk a))))))))/\(¬(↑(a.length):Int)=2->(2<(↑(a.length):Int)->c (dw) (af 45 [(0,dk),(2,bF),(21,(fF a))]))/\(¬2<(↑(a.length):Int)->(0<ft b->((0:Int)<=0/\0<(↑(a.length):Int))/\a.length-1=a.length-1/\(bq a)[0]? =some (.V (aS (bq a) 0))/\(aS (bq a) 0=1->((↑(a.length):Int)=2->c (.tuple [(lc b),.aK]) (af 67 [(0,(aL (lc b))),(2,bF),(21,(fF a))]))/\(¬(↑(a.length):Int)=2->(b=126->((0:Int)<=0/\0<(↑(a.length):Int))/\a.length-1=a.length-1/\(bq a)[0]? =some (.V (aS (bq a) 0))/\(xG a c)/\(xI b a c))/\(¬b=126->(ul b a c)/\(¬b=117->c (dw) (uj a)))))/\(¬aS (bq a) 0=1->(b=126->((0:Int)<=0/\0<(↑(a.length):Int))/\a.length-1=a.length-1/\(bq a)[0]? =some (.V (aS (bq a) 0))/\(xG a c)/\(xI b a c))/\(¬b=126->(ul b a c)/\(¬b=117->c (dw) (uj a)))))/\(¬0<ft b->(b=126->((0:Int)<=0/\0<(↑(a.length):Int))/\a.length-1=a.length-1/\(bq a)[0]? =some (.V (aS (bq a) 0))/\(xG a c)/\(xI b a c))/\(¬b=126->(ul b a c)/\(¬b=117->c (dw) (uj a))))))))))))) :
 bl 130 [.str d,.ac b] bG c :=
 pH c6 mixed (SL a) (hs:= .al 3000 (ab 6004 .nil) (.al 4000 (ab 6004 .nil) (.al 5000 (ab 6004 .nil) (.al 7000 (.al 9004 .nil .nil) (.al 8000 (.al 9004 .nil .nil) (.al 13002 (.al 15000 .nil (.al 17000 .nil (.al 19000 .nil (.al 22001 .nil .nil)))) (.al 26002 (ab 27001 (ab 27002 (.al 28002 .nil (.al 28005 .nil (.al 28009 .nil (ab 30001 (ab 30002 Il))))))) (.al 28002 .nil Il)))))))) ao e
set_option maxHeartbeats 4000000
def gb{c k:UInt8}(h:c.toNat=k.toNat):c=k:=fz.1 h
def p3{o:Option aP}{b:Bool}(h:o.isSome=b):J.tuple [bp (o.getD d'),.bool b]=fv o:=by subst h;rfl
def SS{w:Bytes}{c:UInt8}(h:Keys.numbers w=none)(hw:w.length<100)(H:T):be 130 [.str w,.ac c.toNat] H (fv (Keys.told w c)) H:=by
 refine bj.bU (SM w c.toNat (λv _=>v=fv (Keys.told w c)) ?_) rfl rfl H
 delta fE dk dw fP fG eA
 have aj:=c.toNat_lt;rw [lW,show Int.toNat (c.toNat:Int)=c.toNat by simp];have i:(c.toNat:Int)=82->c=82:=λe=>gb (by show c.toNat=82;omega)
 have j:(c.toNat:Int)=99->c=99:=λe=>gb (by show c.toNat=99;omega)
 have d:(c.toNat:Int)=110->c=110:=λe=>gb (by show c.toNat=110;omega)
 have g:(c.toNat:Int)=77->c=77:=λe=>gb (by show c.toNat=77;omega)
 have b:(c.toNat:Int)=109->c=109:=λe=>gb (by show c.toNat=109;omega)
 have m:c=82\/c=99\/c=110->Keys.told w c=some {kind:=6,text:=w++[c]} :=λe=>by simp only [Keys.told,az e]
 have k:¬(c=82\/c=99\/c=110)->c=77\/c=109->Keys.told w c=Keys.dq w c.toNat:=λe aZ=>by simp only [Keys.told,ai e,az aZ]
 have l:¬(c=82\/c=99\/c=110)-> ¬(c=77\/c=109)->Keys.told w c=none:=λe aZ=>by simp only [Keys.told,ai e,ai aZ,h]
 have a:¬(c.toNat:Int)=82->c≠82:=λe f=>e (by rw [f];rfl)
 have n99:¬(c.toNat:Int)=99->c≠99:=λe f=>e (by rw [f];rfl)
 have n110:¬(c.toNat:Int)=110->c≠110:=λe f=>e (by rw [f];rfl)
 have n:¬(c.toNat:Int)=77->c≠77:=λe f=>e (by rw [f];rfl)
 have n109:¬(c.toNat:Int)=109->c≠109:=λe f=>e (by rw [f];rfl)
 have lw:List.length w+List.length [c]<2^62:=by simp;omega
 repeat' (first|assumption|exact nJ lw|apply And.intro|intro _)
 all_goals first
  |omega
  |(rw [m (by first|exact .inl (i ‹_›)|exact .inr (.inl (j ‹_›))|exact .inr (.inr (d ‹_›)))];rfl)
  |(rw [k (by simp only [a ‹_›,n99 ‹_›,n110 ‹_›,or_self,lB]) (by first|exact .inl (g ‹_›)|exact .inr (b ‹_›))];exact p3 ‹_›)
  |(rw [l (by simp only [a ‹_›,n99 ‹_›,n110 ‹_›,or_self,lB]) (by simp only [n ‹_›,n109 ‹_›,or_self,lB])];rfl)
def SU{w:Bytes}{c:UInt8}(h:Keys.numbers w=some [])(hw:w.length<100)(H:T):be 130 [.str w,.ac c.toNat] H (fv (Keys.told w c)) H:=by
 refine bj.bU (SN w c.toNat (λv _=>v=fv (Keys.told w c)) ?_) rfl rfl H
 delta fE dk dw lc jX lf lZ fP fG eA
 have aj:=c.toNat_lt;rw [lW,show Int.toNat (c.toNat:Int)=c.toNat by simp,tL];have s:(c.toNat:Int)=82->c=82:=λe=>gb (by show c.toNat=82;omega)
 have u:(c.toNat:Int)=99->c=99:=λe=>gb (by show c.toNat=99;omega)
 have o:(c.toNat:Int)=110->c=110:=λe=>gb (by show c.toNat=110;omega)
 have q:(c.toNat:Int)=77->c=77:=λe=>gb (by show c.toNat=77;omega)
 have n:(c.toNat:Int)=109->c=109:=λe=>gb (by show c.toNat=109;omega)
 have E:c=82\/c=99\/c=110->Keys.told w c=some {kind:=6,text:=w++[c]} :=λe=>by simp only [Keys.told,az e]
 have C:¬(c=82\/c=99\/c=110)->c=77\/c=109->Keys.told w c=Keys.dq w c.toNat:=λe aZ=>by simp only [Keys.told,ai e,az aZ]
 have t:(c.toNat:Int)=90->c=90:=λe=>gb (by show c.toNat=90;omega)
 have p:(c.toNat:Int)=73->c=73:=λe=>gb (by show c.toNat=73;omega)
 have r:(c.toNat:Int)=79->c=79:=λe=>gb (by show c.toNat=79;omega)
 have m:¬(c.toNat:Int)=90->c≠90:=λe f=>e (by rw [f];rfl)
 have j:¬(c.toNat:Int)=73->c≠73:=λe f=>e (by rw [f];rfl)
 have l:¬(c.toNat:Int)=79->c≠79:=λe f=>e (by rw [f];rfl)
 have z:c=90->Keys.told w c=some (dp 2 1):=λe=>by subst e;simp [Keys.told,h]
 have x:c=73->Keys.told w c=some {kind:=5,code:=1} :=λe=>by subst e;simp [Keys.told,h]
 have y:c=79->Keys.told w c=some {kind:=5} :=λe=>by subst e;simp [Keys.told,h]
 have B:¬(c=82\/c=99\/c=110)-> ¬(c=77\/c=109)->c≠90->c≠73->c≠79->0<dJ c.toNat->Keys.told w c=some (dp (dJ c.toNat)):=λe aZ a b d g=>by simp only [Keys.told,ai e,ai aZ,h,ai a,ai b,ai d,az g]
 have D:¬(c=82\/c=99\/c=110)-> ¬(c=77\/c=109)->c≠90->c≠73->c≠79-> ¬0<dJ c.toNat->Keys.told w c=none:=λe aZ a b d g=>by simp only [Keys.told,ai e,ai aZ,h,ai a,ai b,ai d,ai g]
 have i:¬(c.toNat:Int)=82->c≠82:=λe f=>e (by rw [f];rfl)
 have n99:¬(c.toNat:Int)=99->c≠99:=λe f=>e (by rw [f];rfl)
 have n110:¬(c.toNat:Int)=110->c≠110:=λe f=>e (by rw [f];rfl)
 have k:¬(c.toNat:Int)=77->c≠77:=λe f=>e (by rw [f];rfl)
 have n109:¬(c.toNat:Int)=109->c≠109:=λe f=>e (by rw [f];rfl)
 have lw:List.length w+List.length [c]<2^62:=by simp;omega
 repeat' (first|assumption|exact nJ lw|apply And.intro|intro _)
 all_goals first
  |omega
  |(rw [E (by first|exact .inl (s ‹_›)|exact .inr (.inl (u ‹_›))|exact .inr (.inr (o ‹_›)))];rfl)
  |(rw [C (by simp only [i ‹_›,n99 ‹_›,n110 ‹_›,or_self,lB]) (by first|exact .inl (q ‹_›)|exact .inr (n ‹_›))];exact p3 ‹_›)
  |(rw [z (t ‹_›)];rfl)
  |(rw [x (p ‹_›)];rfl)
  |(rw [y (r ‹_›)];rfl)
  |(rw [B (by simp only [i ‹_›,n99 ‹_›,n110 ‹_›,or_self,lB]) (by simp only [k ‹_›,n109 ‹_›,or_self,lB]) (m ‹_›) (j ‹_›) (l ‹_›) ‹_›];rfl)
  |(rw [D (by simp only [i ‹_›,n99 ‹_›,n110 ‹_›,or_self,lB]) (by simp only [k ‹_›,n109 ‹_›,or_self,lB]) (m ‹_›) (j ‹_›) (l ‹_›) ‹_›];rfl)
end Go.Proofs.zz
namespace Go.Keys
variable {c:UInt8}
def rD{k:UInt8}(h:(c.toNat:Int)=(k.toNat:Int)):c=k:=fz.1 A
def Im(c k:UInt8):(c=k)=((c.toNat:Int)=(k.toNat:Int)):=propext ⟨λe=>by rw [e],rD⟩
structure xK(c:UInt8):Prop where
 cw:¬(c.toNat:Int)=82
 cy:¬(c.toNat:Int)=99
 et:¬(c.toNat:Int)=110
 il:¬(c.toNat:Int)=77
 jQ:¬(c.toNat:Int)=109
def Cy(r:List Nat):Int:=match r with | [x]=>(x:Int)|_=>1
def told_other{w:Bytes}(o:xK c){b:Nat}{r:List Nat}(h:numbers w=some (b::r)):told w c =
 (let m:Int:=Cy r
  if 1<r.length\/m<1\/8<m then none
  else if 0<dJ c.toNat/\b=1/\r.length=1 then some (dp (dJ c.toNat) (m-1))
  else if(c.toNat:Int)=126/\0<gQ b then some (dp (gQ b) (m-1))
  else if(c.toNat:Int)=117 then c1 b (m-1)
  else none):=by
 have Y:¬(c=82\/c=99\/c=110):=by
  rintro (e|e|e)
  .exact o.cw (by rw [e];rfl)
  .exact o.cy (by rw [e];rfl)
  .exact o.et (by rw [e];rfl)
 have ag:¬(c=77\/c=109):=by
  rintro (e|e)
  .exact o.il (by rw [e];rfl)
  .exact o.jQ (by rw [e];rfl)
 have f:(c=126)=((c.toNat:Int)=126):=Im c 126;have d:(c=117)=((c.toNat:Int)=117):=Im c 117;simp only [told,ai Y,ai ag,h,f,d];cases r with
 |nil=>rfl
 |cons a t=>cases t<;>rfl
def Cz{w:Bytes}(o:xK c){a:Nat}(h:numbers w=some [a]):told w c=if(c.toNat:Int)=126/\0<gQ a then some (dp (gQ a) 0)else if(c.toNat:Int)=117 then c1 a 0 else none:=by rw [told_other o h];simp [show Cy []=1 from rfl]
def uo{w:Bytes}(o:xK c){b a:Nat}(h:numbers w=some [b,a]):told w c=if(a:Int)<1\/8<(a:Int)then none else if 0<dJ c.toNat/\b=1 then some (dp (dJ c.toNat) ((a:Int)-1))else if(c.toNat:Int)=126/\0<gQ b then some (dp (gQ b) ((a:Int)-1))else if(c.toNat:Int)=117 then c1 b ((a:Int)-1)else none:=by have aQ:(1< [a].length\/(a:Int)<1\/8<(a:Int))=((a:Int)<1\/8<(a:Int)):=propext au;have aZ:(0<dJ c.toNat/\b=1/\ [a].length=1)=(0<dJ c.toNat/\b=1):=propext au;rw [told_other o h];simp only [show Cy [a]=(a:Int)from rfl,aQ,aZ]
def SV{w:Bytes}(o:xK c){l:List Nat}(h:numbers w=some l)(b:2<l.length):told w c=none:=by
 cases l with
 |nil=>simp at b
 |cons a r =>
  rw [told_other o h];simp only [bK]at b;have d:1<r.length:= A;simp [d]
def CA{w:Bytes}(h:(c.toNat:Int)=82\/(c.toNat:Int)=99\/(c.toNat:Int)=110):told w c=some {kind:=6,text:=w++[c]} :=by
 have Y:c=82\/c=99\/c=110:=by
  rcases h with h|h|h
  .exact .inl (rD h)
  .exact .inr (.inl (rD h))
  .exact .inr (.inr (rD h))
 simp only [told,az Y]
def CB{w:Bytes}(h:(c.toNat:Int)=77\/(c.toNat:Int)=109):told w c=dq w c.toNat:=by
 have ag:c=77\/c=109:=by
  rcases h with h|h
  .exact .inl (rD h)
  .exact .inr (rD h)
 have Y:¬(c=82\/c=99\/c=110):=by rcases ag with rfl|rfl<;>decide
 simp only [told,ai Y,az ag]
end Go.Keys
namespace Go.Proofs.zz
open Go.br Go.Keys
set_option maxHeartbeats 4000000
def Io(n:Nat):fM (n:Int)=gQ n:=by unfold fM gQ;have aq:((n:Int)=1\/(n:Int)=7)=(n=1\/n=7):=propext A;have a2:((n:Int)=4\/(n:Int)=8)=(n=4\/n=8):=propext A;have a3:((n:Int)=2\/(n:Int)=3)=(n=2\/n=3):=propext A;have a4:((n:Int)=5\/(n:Int)=6)=(n=5\/n=6):=propext A;have a5:(11<=(n:Int)/\(n:Int)<=15)=(11<=n/\n<=15):=propext A;have a:(17<=(n:Int)/\(n:Int)<=21)=(17<=n/\n<=21):=propext A;have b:((n:Int)=23\/(n:Int)=24)=(n=23\/n=24):=propext A;simp only [aq,a2,a3,a4,a5,a,b]
variable {c:UInt8}
def SW{w:Bytes}{a:Nat}(h:Keys.numbers w=some [a])(hw:w.length<100)(H:T):be 130 [.str w,.ac c.toNat] H (fv (Keys.told w c)) H:=by
 refine bj.bU (SO w c.toNat a (λv _=>v=fv (Keys.told w c)) ?_) rfl rfl H
 delta xx Ck xu fE dk dw Cn Cl H7 xv H6 Cm H5 xy xw H8 Cj fP fG eA
 have aj:=c.toNat_lt;rw [lW,show Int.toNat (c.toNat:Int)=c.toNat by simp,tL,Io];have lw:List.length w+List.length [c]<2^62:=by simp;omega
 have b:(0:Int)<=(a:Int):= A
 repeat' (first|assumption|exact nJ lw|apply And.intro|intro _)
 all_goals first
  |omega
  |(rw [CA A];rfl)
  |(rw [CB A];exact p3 ‹_›)
  |(rw [Cz ⟨A,A,A,A,A⟩ h,az A];rfl)
  |(rw [Cz ⟨A,A,A,A,A⟩ h,ai A,az A];exact p3 ‹_›)
  |(rw [Cz ⟨A,A,A,A,A⟩ h,ai A,ai A];rfl)
def SX{w:Bytes}{a b:Nat}(h:Keys.numbers w=some [a,b])(hw:w.length<100)(H:T):be 130 [.str w,.ac c.toNat] H (fv (Keys.told w c)) H:=by
 have d:=ue h;have e:=d a au;have f:=d b au;refine bj.bU (SP w c.toNat a b (λv _=>v=fv (Keys.told w c)) ?_) rfl rfl H
 delta xA p2 fE dk dw xC Cq H9 xz xB Cr Ia Cp Co fP fG eA
 have aj:=c.toNat_lt;rw [lW,show Int.toNat (c.toNat:Int)=c.toNat by simp,tL,Io];have lw:List.length w+List.length [c]<2^62:=by simp;omega
 have g:(0:Int)<=(a:Int):= A
 repeat' (first|assumption|exact nJ lw|apply And.intro|intro _)
 all_goals first
  |omega
  |(rw [CA A];rfl)
  |(rw [CB A];exact p3 ‹_›)
  |(rw [uo ⟨A,A,A,A,A⟩ h,az A];rfl)
  |(rw [uo ⟨A,A,A,A,A⟩ h,ai A,az A];rfl)
  |(rw [uo ⟨A,A,A,A,A⟩ h,ai A,ai A,az A];rfl)
  |(rw [uo ⟨A,A,A,A,A⟩ h,ai A,ai A,ai A,az A];exact p3 ‹_›)
  |(rw [uo ⟨A,A,A,A,A⟩ h,ai A,ai A,ai A,ai A];rfl)
def SY{w:Bytes}{l:List Nat}(h:Keys.numbers w=some l)(a:2<l.length)(hw:w.length<100)(H:T):be 130 [.str w,.ac c.toNat] H (fv (Keys.told w c)) H:=by
 refine bj.bU (SR w c.toNat l (λv _=>v=fv (Keys.told w c)) ?_) rfl rfl H
 delta uj fF fE dk dw ul Cw Ih xD If Ic xI xG Ij Cs lc uk um Cx Ii xE Ig Ie xJ xH Ik Cu Ct xF jX lf lZ fP fG eA
 have aj:=c.toNat_lt;rw [lW,show Int.toNat (c.toNat:Int)=c.toNat by simp,tL];have lw:List.length w+List.length [c]<2^62:=by simp;omega
 have b:l=[]->False:=by rintro rfl;simp at a
 repeat' (first|assumption|exact nJ lw|apply And.intro|intro _)
 all_goals first
  |(exfalso;omega)
  |omega
  |(rw [CA A];rfl)
  |(rw [CB A];exact p3 ‹_›)
  |(rw [SV ⟨A,A,A,A,A⟩ h a];rfl)
def SZ(w:Bytes)(c:UInt8)(hw:w.length<100)(H:T):be 130 [.str w,.ac c.toNat] H (fv (Keys.told w c)) H:=by
 cases h:Keys.numbers w with
 |none=>exact SS h hw H
 |some l =>
  match l,h with
  |[],h=>exact SU h hw H
  |[a],h=>exact SW h hw H
  |[a,b],h=>exact SX h hw H
  |a::b::d::t,h=>exact SY h (by simp only [bK];omega) hw H
noncomputable def trimS:List J->T->Option dx:=io λa=>match a with | [.str s,.str k]=>some (.str (s.dropWhile (· == 48)),[k=[48],s.length<2^40])|_=>none
noncomputable def Ip:List J->T->Option dx:=io λa=>match a with | [.str w,.int .u8 c]=>some (.tuple [bp ((Keys.told w (dU c)).getD d'),.bool (Keys.told w (dU c)).isSome],[w.length<100,0<=c/\c<=255])|_=>none
def S0:∀args h a,trimS args h=some a->a.cG Tryz.prog cz 128 args h:=by
 refine jo ?_;intro args v ps e ae H;split at e<;>first|(cases e;done)|skip
 simp only [a8,bC]at e;obtain⟨rfl,rfl⟩:=e;rw [ae.head];exact Rt _ H
def S1:∀args h a,Ip args h=some a->a.cG Tryz.prog cz 130 args h:=by
 refine jo ?_;intro args v ps e ae H;split at e<;>first|(cases e;done)|skip
 rename_i w c;simp only [a8,bC]at e;obtain⟨rfl,rfl⟩:=e;have:=SZ w (dU c) ae.head H
 rwa [oj ae.tail.head]at this
noncomputable def Iq:dQ:=(G9.add 128 trimS).add 130 Ip
def Ir:dC Tryz.prog cz Iq:=(Rk.add S0).add S1
abbrev Is:J:= .func (.func 129) [J.aT 0] []
abbrev It:b7:=(.al 12 (.al 17 .nil<|.al 4005 .nil<|ab 6004 .nil)<|.al 4005 .nil<|ab 6004 .nil)
abbrev xL(a:List J)(b:Nat):J:=J.agg [.bA 7,.av 0,.ac 0,.V 0,.V 0,.str (strOf (a.take b))]
abbrev xM(a:Int)(b:Bytes):J:=J.agg [.bA (aP.kind (Option.getD (told b (dU a)) d')),.av (aP.code (Option.getD (told b (dU a)) d')),.ac (aP.cI (Option.getD (told b (dU a)) d')),.V (aP.x (Option.getD (told b (dU a)) d')),.V (aP.y (Option.getD (told b (dU a)) d')),.str (Option.getD (told b (dU a)) d').6]
abbrev Iu(a:Int)(b:Bytes):aa:=(aL (xM a b))
abbrev Iv(a:List J)(b:Nat):aa:=(aL (xL a b))
abbrev Iw(b a:J):J:=J.agg [Is,.slice none 0 0,b,.aK,.ptr (some ⟨1,0,0,0,5⟩),a]
abbrev CC(c b:J)(a:bw)(d:Nat):aa:=⟨[(Iw c b)],6,true,false,0,0,0,a⟩
abbrev CD(g:Nat)(m l:J)(f:bw)(d c b:aa)(i:List J)(a k h j:Nat)(e:Int)(n:Bytes):T:=(af 39 [(0,(ga g m l f a j)),(1,d),(2,(dE i a k h)),(3,c),(4,b),(31,(Iu e n))])
abbrev CE(h:Nat)(l k:J)(g:bw)(f e d:aa)(a:List J)(c j i b:Nat):T:=(af 46 [(0,(ga h l k g c b)),(1,f),(2,(dE a c j i)),(3,e),(4,d),(31,(Iv a b))])
abbrev uq(h:Nat)(n m:J)(g:bw)(f e d:aa)(j:List J)(o l i k:Nat)(a:Int)(b:Bytes)(p:aU):Prop:=(Option.isSome (told b (dU a))=true->cJ (CD h n m g f e d j o l i k a b) bH ((xM a b))/\∀(c:T),cK (CD h n m g f e d j o l i k a b) bH ((xM a b)) c->bif Nat.ble 5 (c.M)then p .bZ c else False)
abbrev ur(k:Nat)(m l:J)(j:bw)(i h g:aa)(a:List J)(c f d b:Nat)(o:Int)(q:Bytes)(n:aU):Prop:=(Option.isSome (told q (dU o))=false->c=c/\0+b<=a.length/\(∃p,((aa.bg (dE a c f d)).drop (bB.idx ⟨2,c,0,0,1⟩)).take b=aE p)/\cJ (CE k m l j i h g a c f d b) bH ((xL a b))/\∀(e:T),cK (CE k m l j i h g a c f d b) bH ((xL a b)) e->bif Nat.ble 5 (e.M)then n .bZ e else False)
abbrev CF(n:Nat)(m l:J)(h:bw)(g f e:aa)(j:List J)(c k i o:Nat)(b:Int)(a:Bytes)(d:aU):Prop:=(b=126-> [(48:UInt8)]=[(48:UInt8)]/\a.length<1099511627776/\(List.dropWhile (λx=>x == 48) a=[(50:UInt8),48,48]->((↑(a.length):Int)<=9->d .bZ (af 39 [(0,(CC m l h c)),(1,g),(2,(dE j c k i)),(3,f),(4,e)]))/\(¬(↑(a.length):Int)<=9->a.length<100/\(0<=b/\b<=255)/\(uq n m l h g f e j c k i o b a d)/\(ur n m l h g f e j c k i o b a d)))/\(¬List.dropWhile (λx=>x == 48) a=[(50:UInt8),48,48]->a.length<100/\(0<=b/\b<=255)/\(uq n m l h g f e j c k i o b a d)/\(ur n m l h g f e j c k i o b a d)))
def S2(o:Nat)(n m:J)(h:bw)(g f e:aa)(j:List J)(c l i k:Nat)(a:Int)(b:Bytes)(d:aU)(p:(a=126->(b=[(50:UInt8),48,48]->d .bZ (af 39 [(0,(CC n m h c)),(1,g),(2,(dE j c l i)),(3,f),(4,e)]))/\(¬b=[(50:UInt8),48,48]->(CF o n m h g f e j c l i k a b d)/\(¬a=126->b.length<100/\(0<=a/\a<=255)/\(uq o n m h g f e j c l i k a b d)/\(ur o n m h g f e j c l i k a b d))))/\(¬a=126->(CF o n m h g f e j c l i k a b d)/\(¬a=126->b.length<100/\(0<=a/\a<=255)/\(uq o n m h g f e j c l i k a b d)/\(ur o n m h g f e j c l i k a b d)))) :
 bl 105 [J.aT 0,.str b,.ac a] (T.of [bJ 0 o 1 (.aB 2 c 0 k k) n false m h,g,b4 j 1 c l i b',f,e]) d :=
 bm Ir (.al 1 (.al 4 .nil<|.al 8 It<|.al 4005 .nil<|ab 6004 .nil)<|.al 8 It<|.al 4005 .nil<|ab 6004 .nil) p
set_option maxHeartbeats 4000000
structure CG(N:Nat)(h:T)(a:bB)(w:Bytes)(c:Int):Prop where
 at':a=⟨a.id,0,0,0,6⟩
 ex:∃I s es,b1 h a.id I s es/\es.length<N/\s.ay=[]/\s.nx=.sequence
 c:0<=c/\c<=255
 w:w.length<100
structure CH(h:T)(a:bB)(w:Bytes)(c:Int)(Z:T):Prop where
 all:∀I s es,b1 h a.id I s es->s.ay.length<=4-> ∃aH,b1 Z a.id aH (Keys.done s w (dU c)).1 (es++(Keys.done s w (dU c)).2)/\Fr h Z a.id I aH
 M:h.M<=Z.M
def CI(N:Nat):List J->T->Option dx:=λargs h =>
 match args with
 |[.ptr (some a),.str w,.int .u8 c]=>some (.some (.tuple []) [CG N h a w c] (CH h a w c))
 |_=>none
def S3{ak ax w:Bytes}(aj:c.toNat=126)(hw:iR w=true):Keys.done ⟨.sequence,ak,[],ax⟩ w c=(⟨.cD,[],[],ax⟩,[]):=by have:c=126:=fz.1 (by show c.toNat=126;exact aj);simp [Keys.done,this,hw]
def Ix{ak ax w:Bytes}(h:¬(c.toNat=126/\iR w=true)):Keys.done ⟨.sequence,ak,[],ax⟩ w c=(⟨.ground,[],[],ax⟩,[(Keys.told w c).getD (dc ak)]):=by
 have:¬(c=126/\iR w=true):=λe=>h ⟨by rw [e.1];rfl,e.2⟩
 simp only [Keys.done,this,ez,tell]
def S4{w ak:Bytes}(h:(Keys.told w c).isSome=true):(Keys.told w c).getD (dc ak)=(Keys.told w c).getD d':=by
 cases a:Keys.told w c with
 |none=>rw [a]at h;cases h
 |some e=>rfl
def told_none{w ak:Bytes}(h:(Keys.told w c).isSome=false):(Keys.told w c).getD (dc ak)=dc ak:=by
 cases a:Keys.told w c with
 |none=>rfl
 |some e=>rw [a]at h;cases h
set_option hygiene false in
def S5{H:T}{d:Nat}{I:b3}{s:bI}{es:List aP}{w:Bytes}(g:b1 H d I s es)(F:es.length<2^30)(Y:s.ay=[])(ag:s.nx=.sequence)(hw:w.length<100):∃H',be 105 [.ptr (some ⟨d,0,0,0,6⟩),.str w,.ac c.toNat] H (.tuple []) H' /\
 ∃aH,b1 H' d aH (Keys.done s w c).1 (es++(Keys.done s w c).2)/\Fr H H' d I aH:=by
 obtain⟨ks,g,hs⟩:=g
 refine g.lift (Q:=λh d I=>b1 h d I (Keys.done s w c).1 (es++(Keys.done s w c).2)) (rest:=[.str w,.ac c.toNat]) (λa N=>by
  rcases dR.1 N with e|e
  .rw [e];exact b0.of rfl
  .rw [cF.1 e];exact b0.int _ _) (b0.of rfl) (λZ H' r d I a0 U X q=>q.lU a0 U X) ?_
 intro kv pv ov ty uty j0 j1 j2 j3 K P O n gs C;obtain⟨G,ae,l⟩:=kw gs;obtain⟨nx,ak,ay,ax⟩:=s;simp only at Y ag hs gs G ae l⊢;subst Y ag
 have W:ks=.grown []:=by
  cases ks with
  |grown j=>cases j with
   |nil=>rfl
   |cons a b=>exact hs.elim
  |_=>exact hs.elim
 subst W;obtain⟨bn,ad,m,f,rfl,D⟩:=G;have z:n.k=2:= A;rw [z,T.dI]at D;simp only [fR,hj,a8,eQ]at D;subst D;rw [z]at ae l⊢;simp only [cq]at ae l⊢;have a5:=c.toNat_lt;have a4:=ld ak
 suffices S:∃v Z,be 105 [.ptr (some ⟨0,0,0,0,6⟩),.str w,.ac c.toNat] (T.of [bJ 0 (b9 .sequence) 1 (.aB 2 ad 0 ak.length ak.length) pv false ov ty,bT [] j0 j1 j2 j3 uty,b4 (aE ak) 1 ad m f b',P,O]) v Z /\
  (v=.tuple []/\∃aH,b1 Z 0 aH (Keys.done ⟨.sequence,ak,[],ax⟩ w c).1 (es++(Keys.done ⟨.sequence,ak,[],ax⟩ w c).2)/\Fr (T.of [bJ 0 (b9 .sequence) 1 (.aB 2 ad 0 ak.length ak.length) pv false ov ty,bT [] j0 j1 j2 j3 uty,b4 (aE ak) 1 ad m f b',P,O]) Z 0 n aH)by
  obtain⟨v,Z,R,rfl,q⟩:=S;exact⟨Z,R,q⟩
 refine S2 (b9 .sequence) pv ov ty (bT [] j0 j1 j2 j3 uty) P O (aE ak) ad m f ak.length c.toNat w _ ?_
 delta ur xL CE Iv dE ga rv ru dy uq xM CD Iu CF CC Iw Is
 rw [show dU (c.toNat:Int)=c from ry c,show strOf (List.take ak.length (aE ak))=ak by rw [tJ,gY]];by_cases B:c.toNat=126/\iR w=true
 .obtain⟨aj,E⟩:=B
  have t:∀{h:T},h.get 0=some (bJ 0 (b9 .cD) 1 (.slice none 0 0) pv true ov ty)->h.get 1=some (bT [] j0 j1 j2 j3 uty)->h.get 3=some P->h.get 4=some O->Nat.ble 5 h.M=true->J.tuple []=.tuple []/\∃aH,b1 h 0 aH (Keys.done ⟨.sequence,ak,[],ax⟩ w c).1 (es++(Keys.done ⟨.sequence,ak,[],ax⟩ w c).2)/\Fr (T.of [bJ 0 (b9 .sequence) 1 (.aB 2 ad 0 ak.length ak.length) pv false ov ty,bT [] j0 j1 j2 j3 uty,b4 (aE ak) 1 ad m f b',P,O]) h 0 n aH:=by intro h e0 aQ o p i;have i:=hU i;refine⟨rfl,?_⟩;rw [S3 aj E,gy];exact lV (s:=⟨.cD,[],[],ax⟩) (ks:= .nil) (gG (k:=0) rfl i e0 aQ (.inr z) o p (w0 _) A ae l C (.inl rfl)) trivial
  have a9:(c.toNat:Int)=126:= A
  have am:w=[(50:UInt8),(48:UInt8),(48:UInt8)]\/(List.dropWhile (λx=>x == 48) w=[(50:UInt8),(48:UInt8),(48:UInt8)]/\(w.length:Int)<=9):=by
   simp only [iR,eC,jB,cC,eP]at E;rcases E with e|⟨e,aZ⟩
   .exact .inl e
   .exact .inr ⟨e,A⟩
  rcases am with aQ|⟨aQ,aZ⟩
  .repeat' (first
    |exact True.intro
    |assumption
    |contradiction
    |exact t ao ao ao ao ao
    |exact y (by assumption) ao ao ao ao ao ao rfl
    |exact u (by assumption) ao ao ao ao ao ao rfl
    |intro _
    |refine And.intro ?_ ?_
    |rfl
    |omega
    |exact lY _ _ _)
  .repeat' (first
    |exact True.intro
    |assumption
    |contradiction
    |exact t ao ao ao ao ao
    |exact y (by assumption) ao ao ao ao ao ao rfl
    |exact u (by assumption) ao ao ao ao ao ao rfl
    |intro _
    |refine And.intro ?_ ?_
    |rfl
    |omega
    |exact lY _ _ _)
 .have y:∀{h:T}{ca:J},(Keys.told w c).isSome=true->Nat.ble 5 h.M=true->h.get 0=some (bJ 0 (b9 .sequence) 1 (.aB 2 ad 0 ak.length ak.length) pv false ov ty)->h.get 1=some (bT [] j0 j1 j2 j3 uty)->h.get 2=some (b4 (aE ak) 1 ad m f b')->h.get 3=some P->h.get 4=some O->ca=bp ((Keys.told w c).getD d') ->
   cJ h ⟨0,0,0,0,6⟩ ca/\∀Z,cK h ⟨0,0,0,0,6⟩ ca Z->_root_.cond (Nat.ble 5 Z.M) (J.tuple []=.tuple []/\∃aH,b1 Z 0 aH (Keys.done ⟨.sequence,ak,[],ax⟩ w c).1 (es++(Keys.done ⟨.sequence,ak,[],ax⟩ w c).2)/\Fr (T.of [bJ 0 (b9 .sequence) 1 (.aB 2 ad 0 ak.length ak.length) pv false ov ty,bT [] j0 j1 j2 j3 uty,b4 (aE ak) 1 ad m f b',P,O]) Z 0 n aH) False:=by
   intro h ca hs i e0 aQ aZ o p he;exact pX i e0 aQ aZ o p rfl rfl ae l C z he F au λZ aH g cd=>⟨rfl,aH,by rw [Ix B,S4 hs];exact g,cd⟩
  have u:∀{h:T}{ca:J},(Keys.told w c).isSome=false->Nat.ble 5 h.M=true->h.get 0=some (bJ 0 (b9 .sequence) 1 (.aB 2 ad 0 ak.length ak.length) pv false ov ty)->h.get 1=some (bT [] j0 j1 j2 j3 uty)->h.get 2=some (b4 (aE ak) 1 ad m f b')->h.get 3=some P->h.get 4=some O->ca=bp (dc ak) ->
   cJ h ⟨0,0,0,0,6⟩ ca/\∀Z,cK h ⟨0,0,0,0,6⟩ ca Z->_root_.cond (Nat.ble 5 Z.M) (J.tuple []=.tuple []/\∃aH,b1 Z 0 aH (Keys.done ⟨.sequence,ak,[],ax⟩ w c).1 (es++(Keys.done ⟨.sequence,ak,[],ax⟩ w c).2)/\Fr (T.of [bJ 0 (b9 .sequence) 1 (.aB 2 ad 0 ak.length ak.length) pv false ov ty,bT [] j0 j1 j2 j3 uty,b4 (aE ak) 1 ad m f b',P,O]) Z 0 n aH) False:=by
   intro h ca hs i e0 aQ aZ o p he;exact pX i e0 aQ aZ o p rfl rfl ae l C z he F au λZ aH g cd=>⟨rfl,aH,by rw [Ix B,told_none hs];exact g,cd⟩
  by_cases aj:(c.toNat:Int)=126
  .have L:iR w=false:=by
    cases ah:iR w with
    |false=>rfl
    |true=>exact absurd ⟨A,ah⟩ B
   simp only [iR,Bool.or_eq_false_iff,Bool.and_eq_false_iff,mu,o4]at L;obtain⟨a2,n2⟩:=L;have bs:¬w=[(50:UInt8),(48:UInt8),(48:UInt8)]:=a2;rcases n2 with n2|n2
   .have a3:¬List.dropWhile (λx=>x == 48) w=[(50:UInt8),(48:UInt8),(48:UInt8)]:=n2
    repeat' (first
     |exact True.intro
     |assumption
     |contradiction
     |exact t ao ao ao ao ao
     |exact y (by assumption) ao ao ao ao ao ao rfl
     |exact u (by assumption) ao ao ao ao ao ao rfl
     |intro _
     |refine And.intro ?_ ?_
     |rfl
     |omega
     |exact lY _ _ _)
   .have a3:¬(w.length:Int)<=9:= A
    repeat' (first
     |exact True.intro
     |assumption
     |contradiction
     |exact t ao ao ao ao ao
     |exact y (by assumption) ao ao ao ao ao ao rfl
     |exact u (by assumption) ao ao ao ao ao ao rfl
     |intro _
     |refine And.intro ?_ ?_
     |rfl
     |omega
     |exact lY _ _ _)
  .repeat' (first
    |exact True.intro
    |assumption
    |contradiction
    |exact t ao ao ao ao ao
    |exact y (by assumption) ao ao ao ao ao ao rfl
    |exact u (by assumption) ao ao ao ao ao ao rfl
    |intro _
    |refine And.intro ?_ ?_
    |rfl
    |omega
    |exact lY _ _ _)
def S6:∀args h a,CI (2^30) args h=some a->a.cG Tryz.prog cz 105 args h:=by
 intro args h a e;unfold CI at e;split at e<;>first|(cases e;done)|skip
 rename_i a w c;simp only [a8]at e;subst e;intro ae;have i:=ae.head.at';obtain⟨_,⟨I,s,es,g,j,d,aw⟩,aj,hw⟩:=ae.head;obtain⟨Z,b,aH,f,cd⟩:=S5 (c:=dU c) g j d aw hw;rw [<-i,GB aj]at b;refine⟨Z,b,⟨?_,cd.M⟩⟩;intro k s2 l g2 m;obtain⟨rfl,rfl,rfl⟩:=g.nY g2 (by rw [d];simp);exact⟨aH,f,cd⟩
noncomputable def Iy:dQ:=Iq.add 105 (CI (2^30))
def Iz:dC Tryz.prog cz Iy:=Ir.add S6
abbrev IA:b7:=(.al 5001 (.al 5004 .nil<|ab 7007<|.al 8005 (ab 9005 .nil) .nil)<|ab 7007<|.al 8005 (ab 9005 .nil) .nil)
abbrev mU(f:Nat)(l k:J)(e:bw)(d c b:aa)(h:List J)(a j g i:Nat):T:=(af 35 [(0,(ga f l k e a i)),(1,d),(2,(dE h a j g)),(3,c),(4,b)])
abbrev xN(g:Nat)(m l:J)(f:bw)(e d c:aa)(i:List J)(b k h j:Nat)(a:Int):T:=(af 56 [(0,(fC g m l f b j)),(1,e),(2,(dK i b k h a)),(3,d),(4,c),(45,aa.an [.ac a] 1 true)])
abbrev CJ(g:Nat)(m l:J)(f:bw)(e d c:aa)(i:List J)(b k h j:Nat)(a:Int):T:=(af 64 [(0,(fC g m l f b j)),(1,e),(2,(dK i b k h a)),(3,d),(4,c),(45,aa.an [.ac a] 1 true)])
abbrev IB(j:Nat)(n m:J)(i:bw)(g f e:aa)(c:List J)(a l k d:Nat)(h:Int)(o:aU):Prop:=(aS c (0+((d:Int)-1).toNat)<48->dA (2^30-8) eV (af 42 [(0,(ga j n m i a d)),(1,g),(2,(dE c a l k)),(3,f),(4,e)]) bH h/\∀(b:T),dB bad (af 42 [(0,(ga j n m i a d)),(1,g),(2,(dE c a l k)),(3,f),(4,e)]) bH h b->bif Nat.ble 5 (b.M)then o .bZ b else False)
abbrev xO(l:Nat)(n m:J)(k:bw)(j i h:aa)(c:List J)(d g e a:Nat)(b:Int)(o:aU):Prop:=((↑(a+1):Int)=64->d+1=d+1/\0+(a+1)<=List.length (c++[.ac b])/\(∃p,((aa.bg (dK c d g e b)).drop (bB.idx ⟨2,d+1,0,0,1⟩)).take (a+1)=aE p)/\cJ (CJ l n m k j i h c d g e a b) bH ((gH c a b))/\∀(f:T),cK (CJ l n m k j i h c d g e a b) bH ((gH c a b)) f->bif Nat.ble 5 (f.M)then o .bZ f else False)
abbrev CK(j:Nat)(n m:J)(i:bw)(h g f:aa)(b:List J)(c l k a:Nat)(d:Int)(e:aU):Prop:=(48<=d->(IB j n m i h g f b c l k a d e)/\(¬aS b (0+((a:Int)-1).toNat)<48->(c=c/\0+a=b.length/\a<a+1/\(a+1+(a+1)/4+512)*1<=281474976710656/\a+1<4611686018427387904)/\(xO j n m i h g f b c l k a d e)/\(¬(↑(a+1):Int)=64->e .bZ (xN j n m i h g f b c l k a d))))
def S7(k:Nat)(m l:J)(j:bw)(i h g:aa)(d:List J)(c f e a:Nat)(b:Int)(o:aU)(r:(bd ((a:Int)-1))/\(0<=(a:Int)-1/\(a:Int)-1<(a:Int))/\c=c/\d[0+((a:Int)-1).toNat]? =some (.ac (aS d (0+((a:Int)-1).toNat)))/\(64<=b->(b<=126->(c=c/\0+a=d.length/\a<a+1/\(a+1+(a+1)/4+512)*1<=281474976710656/\a+1<4611686018427387904)/\(-9223372036854775808<=(↑(a+1):Int)-1/\(↑(a+1):Int)-1<=9223372036854775807)/\((0:Int)<=2/\2<=(↑(a+1):Int)-1/\(↑(a+1):Int)-1<=(↑(a+1):Int))/\c+1=c+1/\2+(((↑(a+1):Int)-1).toNat-2)<=List.length (d++[.ac b])/\(∃q,((aa.bg (dK d c f e b)).drop (bB.idx ⟨2,c+1,2,0,1⟩)).take (((↑(a+1):Int)-1).toNat-2)=aE q)/\CG (2^30) (af 51 [(0,(fC k m l j c a)),(1,i),(2,(dK d c f e b)),(3,h),(4,g),(31,aa.an [.ac b] 1 true)]) bH (strOf (((d.append [.ac b]).drop 2).take (((↑(a+1):Int)-1).toNat-2))) b/\∀(p:T),CH (af 51 [(0,(fC k m l j c a)),(1,i),(2,(dK d c f e b)),(3,h),(4,g),(31,aa.an [.ac b] 1 true)]) bH (strOf (((d.append [.ac b]).drop 2).take (((↑(a+1):Int)-1).toNat-2))) b p->cc 5 (p.M) (o .bZ p))/\(¬b<=126->(b<32->dA (2^30-8) eV (mU k m l j i h g d c f e a) bH b/\∀(n:T),dB bad (mU k m l j i h g d c f e a) bH b n->cc 5 (n.M) (o .bZ n))/\(¬b<32->(63<b->dA (2^30-8) eV (mU k m l j i h g d c f e a) bH b/\∀(n:T),dB bad (mU k m l j i h g d c f e a) bH b n->cc 5 (n.M) (o .bZ n))/\(¬63<b->(CK k m l j i h g d c f e a b o)/\(¬48<=b->(c=c/\0+a=d.length/\a<a+1/\(a+1+(a+1)/4+512)*1<=281474976710656/\a+1<4611686018427387904)/\(xO k m l j i h g d c f e a b o)/\(¬(↑(a+1):Int)=64->o .bZ (xN k m l j i h g d c f e a b)))))))/\(¬64<=b->(b<32->dA (2^30-8) eV (mU k m l j i h g d c f e a) bH b/\∀(n:T),dB bad (mU k m l j i h g d c f e a) bH b n->cc 5 (n.M) (o .bZ n))/\(¬b<32->(63<b->dA (2^30-8) eV (mU k m l j i h g d c f e a) bH b/\∀(n:T),dB bad (mU k m l j i h g d c f e a) bH b n->cc 5 (n.M) (o .bZ n))/\(¬63<b->(CK k m l j i h g d c f e a b o)/\(¬48<=b->(c=c/\0+a=d.length/\a<a+1/\(a+1+(a+1)/4+512)*1<=281474976710656/\a+1<4611686018427387904)/\(xO k m l j i h g d c f e a b o)/\(¬(↑(a+1):Int)=64->o .bZ (xN k m l j i h g d c f e a b))))))) :
 bl 87 [J.aT 0,.ac b] (T.of [bJ 0 k 1 (.aB 2 c 0 a a) m false l j,i,b4 d 1 c f e b',h,g]) o :=
 bm Iz (ab 9<|ab 10<|ab 11<|.al 1001 (.al 1004 (ab 2007<|ab 3010<|ab 3011<|ab 3012 .nil)<|.al 4001 .nil<|.al 4004 .nil IA)<|.al 4001 .nil<|.al 4004 .nil IA) r
set_option maxHeartbeats 4000000
def S8(x:Bytes)(n k:Nat):List.take n (List.drop k (aE x))=aE ((x.drop k).take n):=by simp [aE,ss,List.map_take]
def S9(x:Bytes)(c:UInt8)(h:2<=x.length):strOf (List.take (Int.toNat (((x.length+1:Nat):Int)-1)-2) (List.drop 2 (List.append (aE x) [J.ac c.toNat])))=x.drop 2:=by show strOf (List.take _ (List.drop 2 (aE x++_)))=_;rw [ky,S8,gY,yO h,show Int.toNat (((x.length+1:Nat):Int)-1)-2=(x.drop 2).length by rw [eF];omega,List.take_append_of_le_length (Nat.le_refl _),kj]
def IC(x:Bytes)(h:x≠[]):(aE x)[0+Int.toNat ((x.length:Int)-1)]? =some (J.ac (x.getLastD 0).toNat):=by
 have e:0+Int.toNat ((x.length:Int)-1)=x.length-1:= A;rw [e]
 have:x[x.length-1]? =some (x.getLastD 0):=by rw [<-List.getLast?_eq_getElem?,List.getLastD_eq_getLast?,List.getLast?_eq_some_getLast h];rfl
 unfold aE;rw [hD,this];rfl
def S'(x:Bytes)(h:x≠[]):aS (aE x) (0+Int.toNat ((x.length:Int)-1))=(x.getLastD 0).toNat:=by unfold aS;rw [IC x h]
variable {j0 j1 j2 j3:Int}{ty uty:bw}
def Ta{D a1 K P O:aa}{h:T}{pv ov:J}{ad m g:Nat}{ak ax:Bytes}{es:List aP}{a:b3}(b:Nat.ble 5 h.M=true)(e0:h.get 0=some (bJ 0 (b9 .sequence) 1 (.aB 2 ad 0 ak.length ak.length) pv false ov ty))(aQ:h.get 1=some (bT [] j0 j1 j2 j3 uty))
 (aZ:h.get 2=some (b4 (aE ak) 1 ad m g b')) (e:h.get 3=some P) (f:h.get 4=some O) (n:ak≠[]) (ae:hb (T.of [D,a1,K,P,O]) 0 a.p pv ax) (q:hv (T.of [D,a1,K,P,O]) 0 a.o ov es) (i:a.u=1/\(a.k=0\/a.k=2)/\(a.p=0\/a.p=3)/\(a.o=0\/a.o=4)) (d:a.k=2)
 (l:es.length<2^30-8) {R:T->Prop} (j:∀Z aH,b1 Z 0 aH (Keys.bad ⟨.sequence,ak,[],ax⟩ c).1 (es++(Keys.bad ⟨.sequence,ak,[],ax⟩ c).2)->Fr (T.of [D,a1,K,P,O]) Z 0 a aH->R Z) :
 dA (2^30-8) eV h ⟨0,0,0,0,6⟩ c.toNat/\∀Z,dB Keys.bad h ⟨0,0,0,0,6⟩ c.toNat Z->_root_.cond (Nat.ble 5 Z.M) (R Z) False:=by
 have b:=hU b;exact tG (s:=⟨.sequence,ak,[],ax⟩) rfl b (w2 (ks:= .grown []) (gG rfl b e0 aQ (.inr d) e f (k9 aC rfl rfl aZ) A ae q i (.inr (.inr ⟨rfl,d⟩))) n) l au ⟨rfl,.inr rfl⟩ j
def ID{D a1 K P O:aa}{h:T}{pv ov:J}{ad m f len:Nat}{l:List J}{ak ax:Bytes}{es:List aP}{a:b3}(b:Nat.ble 5 h.M=true)(e0:h.get 0=some (bJ 0 (b9 .sequence) 1 (.aB 2 ad 0 len len) pv false ov ty))(aQ:h.get 1=some (bT [] j0 j1 j2 j3 uty))
 (aZ:h.get 2=some (b4 l 1 ad m f b')) (d:h.get 3=some P) (e:h.get 4=some O) (hlen:len=ak.length) (hle:l=aE ak) (i:ak≠[]) (ae:hb (T.of [D,a1,K,P,O]) 0 a.p pv ax) (j:hv (T.of [D,a1,K,P,O]) 0 a.o ov es) (g:a.u=1/\(a.k=0\/a.k=2)/\(a.p=0\/a.p=3)/\(a.o=0\/a.o=4)) (c:a.k=2) :
 ∃aH,b1 h 0 aH ⟨.sequence,ak,[],ax⟩ es/\Fr (T.of [D,a1,K,P,O]) h 0 a aH:=by
 have b:=hU b;exact lV (s:=⟨.sequence,ak,[],ax⟩) (ks:= .grown []) (gG rfl b e0 aQ (.inr c) d e (k9 aC hlen hle aZ) A ae j g (.inr (.inr ⟨rfl,c⟩))) i
def Tb{ak ax:Bytes}(h:64<=c.toNat/\c.toNat<=126):Keys.sequence ⟨.sequence,ak,[],ax⟩ c=Keys.done ⟨.sequence,ak++[c],[],ax⟩ (ak.drop 2) c:=by simp only [Keys.sequence,az h]
def Tc{ak ax:Bytes}(h:¬(64<=c.toNat/\c.toNat<=126))(ag:c.toNat<32\/63<c.toNat\/48<=c.toNat/\(ak.getLastD 0).toNat<48):Keys.sequence ⟨.sequence,ak,[],ax⟩ c=Keys.bad ⟨.sequence,ak,[],ax⟩ c:=by simp only [Keys.sequence,ai h,az ag]
def Td{ak ax:Bytes}(h:¬(64<=c.toNat/\c.toNat<=126))(ag:¬(c.toNat<32\/63<c.toNat\/48<=c.toNat/\(ak.getLastD 0).toNat<48))(a:ak.length+1=64):Keys.sequence ⟨.sequence,ak,[],ax⟩ c=(⟨.ground,[],[],ax⟩,[dc (ak++[c])]):=by simp only [Keys.sequence,ai h,ai ag,az a,tell]
def Te{ak ax:Bytes}(h:¬(64<=c.toNat/\c.toNat<=126))(ag:¬(c.toNat<32\/63<c.toNat\/48<=c.toNat/\(ak.getLastD 0).toNat<48))(a:ak.length+1≠64):Keys.sequence ⟨.sequence,ak,[],ax⟩ c=(⟨.sequence,ak++[c],[],ax⟩,[]):=by simp only [Keys.sequence,ai h,ai ag,ai a]
set_option hygiene false in
def us(s:bI)(c:UInt8):Prop:=s.nx=.sequence/\s.ay=[]/\2<=s.ak.length/\s.ak.length<64
def Tf{H:T}{d:Nat}{I:b3}{s:bI}{es:List aP}(g:b1 H d I s es)(U:es.length<2^30-8)(R:us s c):∃H',be 87 [.ptr (some ⟨d,0,0,0,6⟩),.ac c.toNat] H (.tuple []) H' /\
 ∃aH,b1 H' d aH (Keys.sequence s c).1 (es++(Keys.sequence s c).2)/\Fr H H' d I aH:=by
 refine pU ?_ g;intro ks kv pv ov ty uty j0 j1 j2 j3 K P O n hs gs u;obtain⟨F,ae,f⟩:=kw gs;obtain⟨nx,ak,ay,ax⟩:=s;obtain⟨ag,Y,G,am⟩:=R;simp only at Y ag G am hs gs F ae f⊢;subst Y ag
 have X:ks=.grown []:=by
  cases ks with
  |grown j=>cases j with
   |nil=>rfl
   |cons a b=>exact hs.elim
  |_=>exact hs.elim
 subst X;have x:ak≠[]:=hs;obtain⟨a9,ad,m,o,rfl,w⟩:=F;have r:n.k=2:= A;rw [r,T.dI]at w;simp only [fR,hj,a8,eQ]at w;subst w;rw [r]at ae f⊢;simp only [cq]at ae f⊢;simp only [show decide (h1.sequence=h1.cD)=false from rfl]at ae f⊢;have a5:=c.toNat_lt;have a0:=ld ak;have a4:=w' ak c;have bn:=IC ak x;generalize p:T.of [bJ 0 (b9 .sequence) 1 (.aB 2 ad 0 ak.length ak.length) pv false ov ty,bT [] j0 j1 j2 j3 uty,b4 (aE ak) 1 ad m o b',P,O]=L at ae f⊢
 suffices W:∃v Z,be 87 [.ptr (some ⟨0,0,0,0,6⟩),.ac c.toNat] L v Z /\
  (v=.tuple []/\∃aH,b1 Z 0 aH (Keys.sequence ⟨.sequence,ak,[],ax⟩ c).1 (es++(Keys.sequence ⟨.sequence,ak,[],ax⟩ c).2)/\Fr L Z 0 n aH)by
  obtain⟨v,Z,S,rfl,q⟩:=W;exact⟨Z,S,q⟩
 have D:∀{h:T},¬(64<=c.toNat/\c.toNat<=126)-> ¬(c.toNat<32\/63<c.toNat\/48<=c.toNat/\(ak.getLastD 0).toNat<48)->ak.length+1≠64->Nat.ble 5 h.M=true->h.get 0=some (bJ 0 (b9 .sequence) 1 (.aB 2 (ad+1) 0 (ak.length+1) (ak.length+1)) pv false ov ty)->h.get 1=some (bT [] j0 j1 j2 j3 uty)->h.get 2=some (b4 (aE ak++[.ac c.toNat]) 1 (ad+1) m (if m=ad then(aE ak).length else min o (aE ak).length) b')->h.get 3=some P->h.get 4=some O ->
  True/\∃aH,b1 h 0 aH (Keys.sequence ⟨.sequence,ak,[],ax⟩ c).1 (es++(Keys.sequence ⟨.sequence,ak,[],ax⟩ c).2)/\Fr L h 0 n aH:=by
  intro h aq a2 a3 e e0 aQ aZ i l;rw [Te aq a2 a3,gy];subst p;exact⟨trivial,ID (ak:=ak++[c]) e e0 aQ aZ i l au (ky _ _) au ae f u r⟩
 have C:∀{h:T},(64<=c.toNat/\c.toNat<=126)->Nat.ble 5 h.M=true->h.get 0=some (bJ 0 (b9 .sequence) 1 (.aB 2 (ad+1) 0 (ak.length+1) (ak.length+1)) pv false ov ty)->h.get 1=some (bT [] j0 j1 j2 j3 uty)->h.get 2=some (b4 (aE ak++[.ac c.toNat]) 1 (ad+1) m (if m=ad then(aE ak).length else min o (aE ak).length) b')->h.get 3=some P->h.get 4=some O ->
  CG (2^30) h ⟨0,0,0,0,6⟩ (ak.drop 2) c.toNat/\∀Z,CH h ⟨0,0,0,0,6⟩ (ak.drop 2) c.toNat Z->_root_.cond (Nat.ble 5 Z.M) (True/\∃aH,b1 Z 0 aH (Keys.sequence ⟨.sequence,ak,[],ax⟩ c).1 (es++(Keys.sequence ⟨.sequence,ak,[],ax⟩ c).2)/\Fr L Z 0 n aH) False:=by
  intro h aq e e0 aQ aZ i l;rw [Tb aq];subst p;obtain⟨y,g1,Q⟩:=ID (ak:=ak++[c]) e e0 aQ aZ i l au (ky _ _) au ae f u r;have e:=hU e;refine⟨⟨rfl,⟨y,_,es,g1,A,rfl,rfl⟩,A,by rw [eF];omega⟩,λZ t=> ?_⟩;have aw:=t.M;obtain⟨aH,z,N⟩:=t.all y _ es g1 au;rw [rm]at z;exact jS A ⟨trivial,aH,z,Q.trans N⟩
 have B:∀{h:T},¬(64<=c.toNat/\c.toNat<=126)->(c.toNat<32\/63<c.toNat\/48<=c.toNat/\(ak.getLastD 0).toNat<48)->Nat.ble 5 h.M=true->h.get 0=some (bJ 0 (b9 .sequence) 1 (.aB 2 ad 0 ak.length ak.length) pv false ov ty)->h.get 1=some (bT [] j0 j1 j2 j3 uty)->h.get 2=some (b4 (aE ak) 1 ad m o b')->h.get 3=some P->h.get 4=some O ->
  dA (2^30-8) eV h ⟨0,0,0,0,6⟩ c.toNat/\∀Z,dB Keys.bad h ⟨0,0,0,0,6⟩ c.toNat Z->_root_.cond (Nat.ble 5 Z.M) (True/\∃aH,b1 Z 0 aH (Keys.sequence ⟨.sequence,ak,[],ax⟩ c).1 (es++(Keys.sequence ⟨.sequence,ak,[],ax⟩ c).2)/\Fr L Z 0 n aH) False:=by
  intro h aq a2 e e0 aQ aZ i l;rw [Tc aq a2];subst p;exact Ta e e0 aQ aZ i l x ae f u r U λZ aH g cd=>⟨trivial,aH,g,cd⟩
 have E:∀{h:T}{ca:J},¬(64<=c.toNat/\c.toNat<=126)-> ¬(c.toNat<32\/63<c.toNat\/48<=c.toNat/\(ak.getLastD 0).toNat<48)->ak.length+1=64->Nat.ble 5 h.M=true->h.get 0=some (bJ 0 (b9 .sequence) 1 (.aB 2 (ad+1) 0 (ak.length+1) (ak.length+1)) pv false ov ty)->h.get 1=some (bT [] j0 j1 j2 j3 uty)->h.get 2=some (b4 (aE ak++[.ac c.toNat]) 1 (ad+1) m (if m=ad then(aE ak).length else min o (aE ak).length) b')->h.get 3=some P->h.get 4=some O->ca=bp (dc (ak++[c])) ->
  cJ h ⟨0,0,0,0,6⟩ ca/\∀Z,cK h ⟨0,0,0,0,6⟩ ca Z->_root_.cond (Nat.ble 5 Z.M) (True/\∃aH,b1 Z 0 aH (Keys.sequence ⟨.sequence,ak,[],ax⟩ c).1 (es++(Keys.sequence ⟨.sequence,ak,[],ax⟩ c).2)/\Fr L Z 0 n aH) False:=by
  intro h ca aq a2 a3 e e0 aQ aZ i l he;rw [Td aq a2 a3];subst p;exact pX (ak:=ak++[c]) e e0 aQ aZ i l au (ky _ _) ae f u r he A au λZ aH g cd=>⟨trivial,aH,g,cd⟩
 rw [<-p];rw [<-p]at D C B E;refine S7 (b9 .sequence) pv ov ty (bT [] j0 j1 j2 j3 uty) P O (aE ak) ad m o ak.length c.toNat _ ?_
 delta xN dK fC tP tO dy xO gH CJ CK IB dE ga rv ru mU
 simp only [xb,S9 ak c G,S' ak x]
 repeat' (first
  |exact True.intro
  |assumption
  |exact D A A A ao ao ao ao ao ao
  |exact C A ao ao ao ao ao ao
  |exact B A A ao ao ao ao ao ao
  |exact E A A A ao ao ao ao ao ao rfl
  |(exfalso;omega)
  |intro _
  |refine And.intro ?_ ?_
  |rfl
  |omega
  |exact lY _ _ _
  |exact w9 _ _ _ _)
def Tg:∀args h a,hN (2^30-8) us Keys.sequence args h=some a->a.cG Tryz.prog cz 87 args h:=om λH d I s es c g e f b=>Tf g e b
def IE:List J->T->Option dx:=io λa=>match a with | [.str s,.str p]=>some (.bool (p.isPrefixOf s),[])|_=>none
def Th:∀args h a,IE args h=some a->a.cG Tryz.prog cz 146 args h:=by
 refine jo ?_;intro args v ps e ae H;split at e<;>first|(cases e;done)|skip
 simp only [a8,bC]at e;obtain⟨rfl,rfl⟩:=e;exact Ru _ _ H
noncomputable def Ti:dQ:=A2.add 146 IE
def oz:dC Tryz.prog cz Ti:=wZ.add Th
abbrev hc(d c a:Nat)(b:List J):aa:=⟨b,1,false,false,d,c,a,some (5,0)⟩
abbrev xP(c e d a:Nat)(f:J)(b:bw):aa:=⟨[.agg [(dy c),.aB 2 d e a a,.slice none 0 0,.aK,.ptr (some ⟨1,0,0,0,5⟩),f]],6,true,false,0,0,0,b⟩
def IF(n d b g f a:Nat)(c:List J)(o:J)(k j i:aa)(m:bw)(h:b8->bc->T->Prop)(q:(0<(a:Int)->b=b/\d+a<=c.length/\(∃l,((aa.bg (hc b g f c)).drop (bB.idx ⟨2,b,d,0,1⟩)).take a=aE l)/\(List.isPrefixOf (strOf ((c.drop d).take a)) (Array.toList #[27,91,50,48,49,126])=true->h (.exit 0) [(0,J.aT 0)] (af 20 [(0,(xP n d b a o m)),(1,k),(2,(hc b g f c)),(3,j),(4,i)]))/\(List.isPrefixOf (strOf ((c.drop d).take a)) (Array.toList #[27,91,50,48,49,126])=false->(fL 0 a)/\b=b/\c[d+0]? =some (.ac (aS c (d+0)))/\((0:Int)<=1/\1<=(a:Int)/\a<=a)/\h .normal [(0,J.aT 0)] (af 51 [(0,⟨[.agg [(dy n),.aB 2 b (d+1) (a-1) (a-1),.slice (b5 38) 1 1,.aK,.ptr (some ⟨1,0,0,0,5⟩),o]],6,true,false,0,0,0,m⟩),(1,k),(2,(hc b g f c)),(3,j),(4,i),(37,aa.an [.ac (aS c (d+0))] 1 true),(38,aa.an [.ac (aS c (d+0))] 1 false (some (5,0)))])))/\(¬0<(a:Int)->h (.exit 0) [(0,J.aT 0)] (af 20 [(0,(xP n d b a o m)),(1,k),(2,(hc b g f c)),(3,j),(4,i)]))) :
 ∃e p Y,bN 5 80 (bu 129 0) [(0,J.aT 0)] (T.rows 5 [(0,bJ 0 n 1 (.aB 2 b d a a) (.slice none 0 0) true o m),(1,k),(2,b4 c 1 b g f b'),(3,j),(4,i)]) e p Y/\h e p Y :=
 dD c6 mixed oz (hs:= .al 1005 (ab 1011 (.al 1012 .nil (ab 3009 (ab 3010 (ab 4005 .nil))))) .nil) (keep:=[0]) ao q
abbrev jY(d c a:Nat)(b:List J):aa:=⟨b,1,false,false,d,c,a,some (5,0)⟩
abbrev xQ(d f e a h b:Nat)(g:J)(c:bw):aa:=⟨[.agg [(dy d),.aB 2 e f a a,.aB 3 h 0 b b,.aK,.ptr (some ⟨1,0,0,0,5⟩),g]],6,true,false,0,0,0,c⟩
def IG(q f b j i a g k s c:Nat)(d h:List J)(r:J)(o n:aa)(p:bw)(m:b8->bc->T->Prop)(u:(0<(a:Int)->b=b/\f+a<=d.length/\(∃l,((aa.bg (hc b j i d)).drop (bB.idx ⟨2,b,f,0,1⟩)).take a=aE l)/\(List.isPrefixOf (strOf ((d.drop f).take a)) (Array.toList #[27,91,50,48,49,126])=true->m (.exit 0) [(0,J.aT 0)] (af 20 [(0,(xQ q f b a g c r p)),(1,o),(2,(hc b j i d)),(3,(jY g k s h)),(4,n)]))/\(List.isPrefixOf (strOf ((d.drop f).take a)) (Array.toList #[27,91,50,48,49,126])=false->((c:Int)<65536->(fL 0 a)/\b=b/\d[f+0]? =some (.ac (aS d (f+0)))/\(g=g/\0+c=h.length/\c<c+1/\(c+1+(c+1)/4+512)*1<=281474976710656/\c+1<4611686018427387904)/\((0:Int)<=1/\1<=(a:Int)/\a<=a)/\m .normal [(0,J.aT 0)] (af 51 [(0,{bg:=[.agg [(dy q),.aB 2 b (f+1) (a-1) (a-1),.aB 3 (g+1) 0 (c+1) (c+1),.aK,.ptr (some ⟨1,0,0,0,5⟩),r]],es:=6,exact:=true,ro:=false,ad:=0,eH:=0,fo:=0,ty:=p}),(1,o),(2,(hc b j i d)),(3,⟨h++[.ac (aS d (f+0))],1,false,false,g+1,k,if k=g then h.length else min s (h.length),some (5,0)⟩),(4,n),(37,aa.an [.ac (aS d (f+0))] 1 true)]))/\(¬(c:Int)<65536->((0:Int)<=1/\1<=(a:Int)/\a<=a)/\m .normal [(0,J.aT 0)] (af 35 [(0,⟨[.agg [(dy q),.aB 2 b (f+1) (a-1) (a-1),.aB 3 g 0 c c,.aK,.ptr (some ⟨1,0,0,0,5⟩),r]],6,true,false,0,0,0,p⟩),(1,o),(2,(hc b j i d)),(3,(jY g k s h)),(4,n)]))))/\(¬0<(a:Int)->m (.exit 0) [(0,J.aT 0)] (af 20 [(0,(xQ q f b a g c r p)),(1,o),(2,(hc b j i d)),(3,(jY g k s h)),(4,n)]))) :
 ∃e t Y,bN 5 80 (bu 129 0) [(0,J.aT 0)] (T.rows 5 [(0,bJ 0 q 1 (.aB 2 b f a a) (.aB 3 g 0 c c) true r p),(1,o),(2,b4 d 1 b j i b'),(3,b4 h 1 g k s b'),(4,n)]) e t Y/\m e t Y :=
 dD c6 mixed oz (hs:= .al 1005 (ab 1011 (.al 1012 .nil (.al 2005 (ab 3009 (ab 3010 (ab 3012 (ab 4005 .nil)))) (ab 4005 .nil)))) .nil) (keep:=[0]) ao u
abbrev xR(d f e a h b:Nat)(g:J)(c:bw):aa:=⟨[.agg [(dy d),.aB 2 e f a a,.aB 30 h 0 b b,.aK,.ptr (some ⟨1,0,0,0,5⟩),g]],6,true,false,0,0,0,c⟩
def IH(r f b j i a g k t c:Nat)(d h:List J)(s:J)(p o n:aa)(q:bw)(m:b8->bc->T->Prop)(v:(0<(a:Int)->b=b/\f+a<=d.length/\(∃l,((aa.bg (hc b j i d)).drop (bB.idx ⟨2,b,f,0,1⟩)).take a=aE l)/\(List.isPrefixOf (strOf ((d.drop f).take a)) (Array.toList #[27,91,50,48,49,126])=true->m (.exit 0) [(0,J.aT 0)] (af 55 [(0,(xR r f b a g c s q)),(1,p),(2,(hc b j i d)),(3,o),(4,n),(30,(jY g k t h))]))/\(List.isPrefixOf (strOf ((d.drop f).take a)) (Array.toList #[27,91,50,48,49,126])=false->((c:Int)<65536->(fL 0 a)/\b=b/\d[f+0]? =some (.ac (aS d (f+0)))/\(g=g/\0+c=h.length/\c<c+1/\(c+1+(c+1)/4+512)*1<=281474976710656/\c+1<4611686018427387904)/\((0:Int)<=1/\1<=(a:Int)/\a<=a)/\m .normal [(0,J.aT 0)] (af 86 [(0,{bg:=[.agg [(dy r),.aB 2 b (f+1) (a-1) (a-1),.aB 30 (g+1) 0 (c+1) (c+1),.aK,.ptr (some ⟨1,0,0,0,5⟩),s]],es:=6,exact:=true,ro:=false,ad:=0,eH:=0,fo:=0,ty:=q}),(1,p),(2,(hc b j i d)),(3,o),(4,n),(30,⟨h++[.ac (aS d (f+0))],1,false,false,g+1,k,if k=g then h.length else min t (h.length),some (5,0)⟩),(72,aa.an [.ac (aS d (f+0))] 1 true)]))/\(¬(c:Int)<65536->((0:Int)<=1/\1<=(a:Int)/\a<=a)/\m .normal [(0,J.aT 0)] (af 70 [(0,⟨[.agg [(dy r),.aB 2 b (f+1) (a-1) (a-1),.aB 30 g 0 c c,.aK,.ptr (some ⟨1,0,0,0,5⟩),s]],6,true,false,0,0,0,q⟩),(1,p),(2,(hc b j i d)),(3,o),(4,n),(30,(jY g k t h))]))))/\(¬0<(a:Int)->m (.exit 0) [(0,J.aT 0)] (af 55 [(0,(xR r f b a g c s q)),(1,p),(2,(hc b j i d)),(3,o),(4,n),(30,(jY g k t h))]))) :
 ∃e u Y,bN 5 80 (bu 129 0) [(0,J.aT 0)] (T.rows 40 [(0,bJ 0 r 1 (.aB 2 b f a a) (.aB 30 g 0 c c) true s q),(1,p),(2,b4 d 1 b j i b'),(3,o),(4,n),(30,b4 h 1 g k t b')]) e u Y/\m e u Y :=
 dD c6 mixed oz (hs:= .al 1005 (ab 1011 (.al 1012 .nil (.al 2005 (ab 3009 (ab 3010 (ab 3012 (ab 4005 .nil)))) (ab 4005 .nil)))) .nil) (keep:=[0]) ao v
abbrev kD(e d c a:Nat)(b:List J):aa:=⟨b,1,false,false,d,c,a,some (5,0)⟩
abbrev CL:J:=J.agg [.bA 4,.av 0,.ac 0,.V 0,.V 0,.str []]
abbrev mV(c g d e a:Nat)(f:J)(b:bw):aa:=⟨[.agg [(dy c),.aB 2 d e a a,.slice none 0 0,.aJ,.ptr (some ⟨1,0,0,0,5⟩),f]],6,true,false,0,0,0,b⟩
def Tj(g s ad r u b a l j n c:Nat)(m k:List J)(p:Int)(v h:J)(e t i d:aa)(f:bw)(o:aU)(w:(ad=ad/\s+b=m.length/\b<b+1/\(b+1+(b+1)/4+512)*1<=281474976710656/\b+1<4611686018427387904)/\bN 5 80 (Code.loop (bu 129 0)) [(0,J.aT 0)] (af 16 [(0,{bg:=[.agg [(dy g),.aB 2 (ad+1) s (b+1) (b+1),v,.aK,.ptr (some ⟨1,0,0,0,5⟩),h]],es:=6,exact:=true,ro:=false,ad:=0,eH:=0,fo:=0,ty:=f}),(1,e),(2,⟨m++[.ac p],1,false,false,ad+1,r,if r=ad then m.length else min u (m.length),some (5,0)⟩),(3,t),(4,d),(11,aa.an [.ac p] 1 true)]) (.exit 0) [(0,J.aT 0)] (af 40 [(0,bJ 0 g 1 (.aB 2 a n c c) (.slice none 0 0) true h f),(1,e),(2,b4 k 1 a l j b'),(3,i),(4,d)])/\((c:Int)=6->cJ (af 64 [(0,(mV g ad a n c h f)),(1,e),(2,(kD ad a l j k)),(3,i),(4,d)]) bH (CL)/\∀(q:T),cK (af 64 [(0,(mV g ad a n c h f)),(1,e),(2,(kD ad a l j k)),(3,i),(4,d)]) bH (CL) q->cc 5 (q.M) (o .bZ q))/\(¬(c:Int)=6->o .bZ (af 46 [(0,⟨[.agg [(dy g),.aB 2 a n c c,.slice none 0 0,.aK,.ptr (some ⟨1,0,0,0,5⟩),h]],6,true,false,0,0,0,f⟩),(1,e),(2,(kD ad a l j k)),(3,i),(4,d)]))) :
 bl 129 [J.aT 0,.ac p] (T.of [bJ 0 g 1 (.aB 2 ad s b b) v true h f,e,b4 m 1 ad r u b',t,d]) o :=
 bm oz (ab 7<|.aG (.keep [0])<|.aG (.loop [(0,J.aT 0)] (af 40 [(0,bJ 0 g 1 (.aB 2 a n c c) (.slice none 0 0) true h f),(1,e),(2,b4 k 1 a l j b'),(3,i),(4,d)]) (.exit 0))<|.al 5005 .nil .nil) w
abbrev l0(e d c a:Nat)(b:List J):aa:=⟨b,1,false,false,d,c,a,some (5,0)⟩
abbrev rE(b:Nat)(a:List J):J:=J.agg [.bA 4,.av 0,.ac 0,.V 0,.V 0,.str (strOf (a.take b))]
def Tk(j w ad v y c b q o r d a n m e:Nat)(k p f:List J)(t:Int)(z l:J)(h x g:aa)(i:bw)(s:aU)(B:(ad=ad/\w+c=k.length/\c<c+1/\(c+1+(c+1)/4+512)*1<=281474976710656/\c+1<4611686018427387904)/\bN 5 80 (Code.loop (bu 129 0)) [(0,J.aT 0)] (af 16 [(0,{bg:=[.agg [(dy j),.aB 2 (ad+1) w (c+1) (c+1),z,.aK,.ptr (some ⟨1,0,0,0,5⟩),l]],es:=6,exact:=true,ro:=false,ad:=0,eH:=0,fo:=0,ty:=i}),(1,h),(2,⟨k++[.ac t],1,false,false,ad+1,v,if v=ad then k.length else min y (k.length),some (5,0)⟩),(3,x),(4,g),(11,aa.an [.ac t] 1 true)]) (.exit 0) [(0,J.aT 0)] (af 40 [(0,bJ 0 j 1 (.aB 2 b r d d) (.aB 3 a 0 e e) true l i),(1,h),(2,b4 p 1 b q o b'),(3,b4 f 1 a n m b'),(4,g)])/\((d:Int)=6->a=a/\0+e<=f.length/\(∃k,((aa.bg (l0 ad a n m f)).drop (bB.idx ⟨3,a,0,0,1⟩)).take e=aE k)/\cJ (af 64 [(0,(mV j ad b r d l i)),(1,h),(2,(kD ad b q o p)),(3,(l0 ad a n m f)),(4,g)]) bH ((rE e f))/\∀(u:T),cK (af 64 [(0,(mV j ad b r d l i)),(1,h),(2,(kD ad b q o p)),(3,(l0 ad a n m f)),(4,g)]) bH ((rE e f)) u->cc 5 (u.M) (s .bZ u))/\(¬(d:Int)=6->s .bZ (af 46 [(0,⟨[.agg [(dy j),.aB 2 b r d d,.aB 3 a 0 e e,.aK,.ptr (some ⟨1,0,0,0,5⟩),l]],6,true,false,0,0,0,i⟩),(1,h),(2,(kD ad b q o p)),(3,(l0 ad a n m f)),(4,g)]))) :
 bl 129 [J.aT 0,.ac t] (T.of [bJ 0 j 1 (.aB 2 ad w c c) z true l i,h,b4 k 1 ad v y b',x,g]) s :=
 bm oz (ab 7<|.aG (.keep [0])<|.aG (.loop [(0,J.aT 0)] (af 40 [(0,bJ 0 j 1 (.aB 2 b r d d) (.aB 3 a 0 e e) true l i),(1,h),(2,b4 p 1 b q o b'),(3,b4 f 1 a n m b'),(4,g)]) (.exit 0))<|.al 5005 (ab 6004 .nil) .nil) B
def Tl(j x ad w z c b r p s d a n m e:Nat)(k q f:List J)(u:Int)(B l:J)(h y o g:aa)(i:bw)(t:aU)(C:(ad=ad/\x+c=k.length/\c<c+1/\(c+1+(c+1)/4+512)*1<=281474976710656/\c+1<4611686018427387904)/\bN 5 80 (Code.loop (bu 129 0)) [(0,J.aT 0)] (af 16 [(0,{bg:=[.agg [(dy j),.aB 2 (ad+1) x (c+1) (c+1),B,.aK,.ptr (some ⟨1,0,0,0,5⟩),l]],es:=6,exact:=true,ro:=false,ad:=0,eH:=0,fo:=0,ty:=i}),(1,h),(2,⟨k++[.ac u],1,false,false,ad+1,w,if w=ad then k.length else min z (k.length),some (5,0)⟩),(3,y),(4,g),(11,aa.an [.ac u] 1 true)]) (.exit 0) [(0,J.aT 0)] (af 40 [(0,bJ 0 j 1 (.aB 2 b s d d) (.aB 30 a 0 e e) true l i),(1,h),(2,b4 q 1 b r p b'),(3,o),(4,g),(30,b4 f 1 a n m b')])/\((d:Int)=6->a=a/\0+e<=f.length/\(∃k,((aa.bg (l0 ad a n m f)).drop (bB.idx ⟨30,a,0,0,1⟩)).take e=aE k)/\cJ (af 64 [(0,(mV j ad b s d l i)),(1,h),(2,(kD ad b r p q)),(3,o),(4,g),(30,(l0 ad a n m f))]) bH ((rE e f))/\∀(v:T),cK (af 64 [(0,(mV j ad b s d l i)),(1,h),(2,(kD ad b r p q)),(3,o),(4,g),(30,(l0 ad a n m f))]) bH ((rE e f)) v->cc 5 (v.M) (t .bZ v))/\(¬(d:Int)=6->t .bZ (af 46 [(0,⟨[.agg [(dy j),.aB 2 b s d d,.aB 30 a 0 e e,.aK,.ptr (some ⟨1,0,0,0,5⟩),l]],6,true,false,0,0,0,i⟩),(1,h),(2,(kD ad b r p q)),(3,o),(4,g),(30,(l0 ad a n m f))]))) :
 bl 129 [J.aT 0,.ac u] (T.of [bJ 0 j 1 (.aB 2 ad x c c) B true l i,h,b4 k 1 ad w z b',y,g]) t :=
 bm oz (ab 7<|.aG (.keep [0])<|.aG (.loop [(0,J.aT 0)] (af 40 [(0,bJ 0 j 1 (.aB 2 b s d d) (.aB 30 a 0 e e) true l i),(1,h),(2,b4 q 1 b r p b'),(3,o),(4,g),(30,b4 f 1 a n m b')]) (.exit 0))<|.al 5005 (ab 6004 .nil) .nil) C
def Tm(h:Nat)(a:Int)(i:J)(f b e d:aa)(g:bw)(c:aU)(j:(List.isPrefixOf [UInt8.ofNat (a.toNat)] (Array.toList #[27,91,50,48,49,126])=true->c .bZ (af 37 [(0,⟨[.agg [(dy h),.slice (b5 12) 1 1,.slice none 0 0,.aK,.ptr (some ⟨1,0,0,0,5⟩),i]],6,true,false,0,0,0,g⟩),(1,f),(2,b),(3,e),(4,d),(11,aa.an [.ac a] 1 true),(12,aa.an [.ac a] 1 false (some (5,0)))]))/\(List.isPrefixOf [UInt8.ofNat (a.toNat)] (Array.toList #[27,91,50,48,49,126])=false->c .bZ (af 83 [(0,⟨[.agg [(dy h),.aB 12 0 1 0 0,.slice (b5 49) 1 1,.aK,.ptr (some ⟨1,0,0,0,5⟩),i]],6,true,false,0,0,0,g⟩),(1,f),(2,b),(3,e),(4,d),(11,aa.an [.ac a] 1 true),(12,aa.an [.ac a] 1 false (some (5,0))),(48,aa.an [.ac a] 1 true),(49,aa.an [.ac a] 1 false (some (5,0)))]))) :
 bl 129 [J.aT 0,.ac a] (T.of [bJ 0 h 1 (.slice none 0 0) (.slice none 0 0) true i g,f,b,e,d]) c :=
 bm oz (.aG (.rounds 300)<|.al 1012 .nil .nil) j
def Tn(k c e m a:Nat)(d:List J)(b:Int)(l:J)(i f h:aa)(j:bw)(g:aU)(n:(List.isPrefixOf [UInt8.ofNat (b.toNat)] (Array.toList #[27,91,50,48,49,126])=true->g .bZ (af 37 [(0,⟨[.agg [(dy k),.slice (b5 12) 1 1,.aB 3 c 0 a a,.aK,.ptr (some ⟨1,0,0,0,5⟩),l]],6,true,false,0,0,0,j⟩),(1,i),(2,f),(3,(jY c e m d)),(4,h),(11,aa.an [.ac b] 1 true),(12,aa.an [.ac b] 1 false (some (5,0)))]))/\(List.isPrefixOf [UInt8.ofNat (b.toNat)] (Array.toList #[27,91,50,48,49,126])=false->((a:Int)<65536->(c=c/\0+a=d.length/\a<a+1/\(a+1+(a+1)/4+512)*1<=281474976710656/\a+1<4611686018427387904)/\g .bZ (af 83 [(0,{bg:=[.agg [(dy k),.aB 12 0 1 0 0,.aB 3 (c+1) 0 (a+1) (a+1),.aK,.ptr (some ⟨1,0,0,0,5⟩),l]],es:=6,exact:=true,ro:=false,ad:=0,eH:=0,fo:=0,ty:=j}),(1,i),(2,f),(3,⟨d++[.ac b],1,false,false,c+1,e,if e=c then d.length else min m (d.length),some (5,0)⟩),(4,h),(11,aa.an [.ac b] 1 true),(12,aa.an [.ac b] 1 false (some (5,0))),(48,aa.an [.ac b] 1 true)]))/\(¬(a:Int)<65536->g .bZ (af 67 [(0,⟨[.agg [(dy k),.aB 12 0 1 0 0,.aB 3 c 0 a a,.aK,.ptr (some ⟨1,0,0,0,5⟩),l]],6,true,false,0,0,0,j⟩),(1,i),(2,f),(3,(jY c e m d)),(4,h),(11,aa.an [.ac b] 1 true),(12,aa.an [.ac b] 1 false (some (5,0)))])))) :
 bl 129 [J.aT 0,.ac b] (T.of [bJ 0 k 1 (.slice none 0 0) (.aB 3 c 0 a a) true l j,i,f,b4 d 1 c e m b',h]) g :=
 bm oz (.aG (.rounds 300)<|.al 1012 .nil<|.al 2005 (ab 3012 .nil) .nil) n
end Go.Proofs.zz
