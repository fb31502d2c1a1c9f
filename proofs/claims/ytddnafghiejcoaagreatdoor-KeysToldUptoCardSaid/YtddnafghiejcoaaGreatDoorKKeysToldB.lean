/-
  Parts of the proof of KeysTold.
-/
import Derived.Laws.IdiomCopy
import Derived.Scope
import Derived.Test.YtddnafghiejcoaaGreatDoorKKeysToldA
set_option linter.unusedVariables false
set_option linter.unusedSimpArgs false
namespace Go.cH
noncomputable section
open Go.RowKit
def ns(P:Program)(bd:Nat→Prop)(bo:World)(call:dZ):Prop :=
 ∀f args h v aa,call f args h=some (v,aa)→ ∀(ak:Map)(w:World)(dD:Array Value),c2 ak bd h w→Safe bd bo w→bG ak args dD.toList →
  (∃fn c,P.funcs[f]? =some fn∧fn.body=some c) ∧
  Calls P f dD w fun e bA=> ∃bp bM,e=.returned bp∧fh ak bM h.next∧aK bM v bp∧c2 bM bd aa bA∧Safe bd bo bA∧h.next≤aa.next
def Dg(P:Program)(cb:(Nat→Prop)→World→Prop)(f:FuncId)(g:yL):Prop :=
 ∀(bd:Nat→Prop)(bo:World),fv bd bo.heap.size→cb bd bo→ ∀args h v aa,g args h=some (v,aa)→ ∀(ak:Map)(w:World)(dD:Array Value),c2 ak bd h w→Safe bd bo w→bG ak args dD.toList →
  (∃fn c,P.funcs[f]? =some fn∧fn.body=some c) ∧
  Calls P f dD w fun e bA=> ∃bp bM,e=.returned bp∧fh ak bM h.next∧aK bM v bp∧c2 bM bd aa bA∧Safe bd bo bA∧h.next≤aa.next
def vI:Nat→Option (Array Value→Sem Value)
 |0=>some Extern.BytealgCount.count
 |1=>some Extern.BytealgIndexByte.indexByte
 |2=>some Extern.BytealgCompare.compare
 |_=>none
structure ho(P:Program)(E:b4):Prop where
 hS:E.D.dr P
 eqs:∀t,E.ie t=true→qt P t
 names:∀(f:Nat) fn,P.funcs[f]? =some fn→(fn.name == "runtime.NumGoroutine")=false
 Jn:∀(f:Nat) g,E.tl f=some g→Dg P E.cond f g
 Jo:∀(f:Nat) k,E.ext f=some k→ ∃fn e,P.funcs[f]? =some fn∧fn.body.isNone=true∧Extern.findNext fn=none∧Extern.find fn=some e∧vI k=some e
section
variable {P:Program}{ak:Map}{E:b4}
def fD(P:Program)(ak:Map)(bd:Nat→Prop)(bo:World)(h:j)(bh:Nat)(v:o)(aa:j)(r:Result Next):Prop :=
 (∃bp bA bM,(r=.ok (.value bp) bA∨(r=.ok .skip bA∧bp=undef))∧hj ak bM h.next bh∧aK bM v bp∧c2 bM bd aa bA∧Safe bd bo bA∧h.next≤aa.next)
 ∨(∃f args bA,r=.ok (.enter f args) bA∧Calls P f args bA fun e mr=> ∃bp bM,e=.returned bp∧hj ak bM h.next bh∧aK bM v bp∧c2 bM bd aa mr∧Safe bd bo mr∧h.next≤aa.next)
theorem fD.r9{bd:Nat→Prop}{bo:World}{h:j}{bh:Nat}{v:o}{aa:j}{s:Sem Value}{w:World}(k:pk P ak bd bo h bh v aa s w){r:Result Next}
 (be:r=(s.run P w).andThen fun v w=> .ok (.value v) w):fD P ak bd bo h bh v aa r:=by
 obtain⟨bp,bA,bM,p,ae,bg,bO,bJ,du⟩:=k;refine .inl ⟨bp,bA,bM,.inl ?_,ae,bg,bO,bJ,by omega⟩;rw [be,p];rfl
theorem fD.h8{bd:Nat→Prop}{bo:World}{h:j}{bh:Nat}{v:o}{s:Sem Value}{w:World}(jZ:c2 ak bd h w)(av:Safe bd bo w)(k:∃bp,s.run P w=.ok bp w∧aK ak v bp){r:Result Next}
 (be:r=(s.run P w).andThen fun v w=> .ok (.value v) w):fD P ak bd bo h bh v h r :=
 fD.r9 (pk.pure jZ av k) be
theorem lN.of_map{bf:Operand→o}{dW:Operand→Value}(cZ:∀x,aK ak (bf x) (dW x))(U:Option Operand):lN ak (U.map bf) (U.map dW):=by
 cases U with
 |none=>trivial
 |some x=>exact cZ x
theorem vJ{bf:Operand→o}{dW:Operand→Value}(cZ:∀x,aK ak (bf x) (dW x))(xs:Array Operand):bG ak (xs.toList.map bf) (xs.map dW).toList:=by rw [Array.toList_map];exact bG.map _ _ _ fun x _=>cZ x
theorem R5{l:List o}(h:l.all (·.jD)=true):flat l=l:=by
 induction l with
 |nil=>rfl
 |cons a r ih =>
  simp only [List.all_cons,Bool.and_eq_true]at h;have e:a.cells=[a]:=by cases a<;>first|rfl|(simp [o.jD]at h)
  show a.cells++flat r=a::r;rw [e,ih h.2];rfl
theorem R6{D:dI}(b5:D.dr P){bd:Nat→Prop}{h aa:j}{bo w:World}(r:c2 ak bd h w)(dC:Safe bd bo w){t u an:TypeId}{s x v:o}{bK bS:Value}(aq:aK ak s bK)(af:aK ak x bS)(ai:Cp D t s x h=some (v,aa)) :
 ∃bp bA,(Builtin.copy_ #[t,u] an #[bK,bS]).run P w=.ok bp bA∧aK ak v bp∧c2 ak bd aa bA∧Safe bd bo bA∧aa.next=h.next:=by
 unfold Cp at ai;split at ai
 ·rename_i d a len cap h3 n aeS aD;obtain⟨Db,Dc,Dd,qA,qB, -⟩:=b5.get aD;split at ai
  ·rename_i e ao;rw [qB]at ao;have:=ld ao;subst this;split at ai
   ·rename_i cR n' b fN R7 lU;obtain⟨ea,om,fU, -, -,fc, -⟩:=b5.get fN;split at ai
    ·rename_i ar;obtain⟨dJ,ef,fR,kP,lT,kp,pq,mq,vH,zb⟩:=ar;split at ai
     ·rename_i bn fC;split at ai
      ·rename_i kN;obtain⟨Jk,R8⟩:=kN;simp only [Option.some.injEq,Prod.mk.injEq]at ai;obtain⟨rfl,rfl⟩:=ai;simp only [aK]at aq af;obtain⟨xs,R9,rfl,zd,pr,iC⟩:=aq;obtain⟨Jp,Jq,rfl,dU,fA,vK⟩:=af;rcases iC with ⟨a6,_⟩|⟨f,a6,q,aC,aeT,Jr,rfl⟩
       ·omega
       ·obtain⟨I,ac,lR,qx,_⟩:=vK.plain fR;rw [kP]at lR;have R':¬Jq=0:=by omega
        rcases qx with eO|⟨eS,rfl,oi⟩
        ·exact absurd eO R'
        ·obtain⟨news,a1,aP,fi,iD,hn⟩:=r.C0 ac R7 eS pq mq;rw [R5 R8]at a1;have C4:news.length=n:=by rw [hn,←lR,Nat.mul_one]
         rw [zb]at aC;have lb:b.cE b.R=b.bi.length:=by simp [J.cE]
         have rV:a.idx<b.bi.length:=(List.getElem?_eq_some_iff.1 fC).1
         have hl:bn.length=q.es:=by obtain⟨_,c,ae,_,_,_,_,_,cr⟩:=r.dB a.id b.R q aC;rw [lU]at ae;simp at ae;subst ae;exact(cr.cont a.idx (.agg bn) Jr (by rw [lb];exact rV) fC).1
         have qv:a.bP-1=f:=by omega
         have Sa:((n'.bi.drop h3.idx).take n).length=n:=by have:=a1.length;omega
         obtain⟨aL,aQ⟩:=r.store aC lU vH (idx:=a.idx) (bP:=f) (e:= .agg bn) (dT:= .agg (iQ bn f ((n'.bi.drop h3.idx).take n))) Jr fC a1 fi (by rw [Sa];omega) rfl;rw [qv];refine⟨_,_,run_copy_cells w t u an e q.ck (q.off+(a.idx-q.a7)*q.es+f) len R9 (I.at h3.idx 0) n Jq news qA (by rw [fU];simp [fc▸dJ]) (by rw [C4];exact(Nat.min_eq_left kp).symm) ?_ (fun C aX=>(aQ C aX).1) (fun C aX=>(aQ C aX).2) fi,?_,aL,?_,rfl⟩
         ·intro C v a';have:=aP C v a';cases C with
          |zero=>simpa [Place.at,Addr.add]using this
          |succ C=>simpa [Place.at,Addr.add]using this
         ·rw [C4];rfl
         ·obtain⟨_,c,ae,g3,g4,g5,g6,g7,cr⟩:=r.dB a.id b.R q aC;rw [lU]at ae;simp at ae;subst ae;exact vq q.ck (cr.base (g6 vH)) news _ dC
      ·cases ai
     ·cases ai
    ·cases ai
   ·cases ai
  ·cases ai
 ·cases ai
theorem Sb(cA:ho P E){bd:Nat→Prop}{h aa:j}{bo w:World}(r:c2 ak bd h w)(dC:Safe bd bo w)(dl:fv bd bo.heap.size){bh:Nat}(hid:∀v,ak bh v=none)(aM:bh<h.next)
 {b:Builtin} {e6:Array TypeId} (an:TypeId) (vL:Array Bool) {args:List o} {dD:Array Value} (aS:bG ak args dD.toList) {v:o} (ai:gn E b e6 args bh h=some (v,aa)) :
 fD P ak bd bo h bh v aa ((builtin b e6 an vL dD).run P w):=by
 unfold gn at ai;split at ai
 ·split at ai
  ·rename_i x t b7;simp only [Option.map_eq_some_iff,Prod.mk.injEq]at ai;obtain⟨v1,p,rfl,rfl⟩:=ai;exact fD.h8 r dC (RO cA.hS an aS b7 p w) (by simp [builtin])
  ·cases ai
 ·split at ai
  ·rename_i s x t u b7 hu
   have ao:(∃k8,E.D u=some k8∧(k8.kind matches .slice _|.string)=true∧hi E.D t s x bh h=some (v,aa)):=by
    split at ai
    ·rename_i k8 ms;split at ai
     ·rename_i he;exact⟨k8,ms,by simp [he],ai⟩
     ·rename_i he;exact⟨k8,ms,by simp [he],ai⟩
     ·cases ai
    ·cases ai
   obtain⟨k8,ms,Js,ai⟩:=ao;obtain⟨Jt,Sc,aeU,Ju,Dh, -⟩:=cA.hS.get ms
   have Sd:(∃dT,P.underlying u=some (.slice dT))∨P.underlying u=some .string:=by
    rw [Dh]at Js;cases Sc<;>simp [gV]at Js
    ·right;exact Ju
    ·left;exact⟨_,Ju⟩
   simp only [bG]at aS;obtain⟨bK,eC,bu,aq,bS,ci,bC,af,b2⟩:=aS;subst bC b2;have gx:dD= #[bK,bS]:=by apply Array.ext';simpa using bu
   have gY:=RS cA.hS r dC dl hid aM an aq af Sd ai;refine fD.r9 (s:=Builtin.append_ e6 an dD) (w:=w) ?_ (by simp [builtin]);obtain⟨bp,bA,bM,aL,aQ⟩:=gY;refine⟨bp,bA,bM,?_,aQ⟩;rw [←aL,gx];have j4:e6[0]? =(#[t,u]:Array TypeId)[0]? :=by rw [b7];rfl
   have qu:e6[1]? =(#[t,u]:Array TypeId)[1]? :=by rw [hu];rfl
   simp only [Builtin.append_,j4,qu]
  ·cases ai
 ·split at ai
  ·rename_i x fG;simp only [Option.map_eq_some_iff,Prod.mk.injEq]at ai;obtain⟨v1,p,rfl,rfl⟩:=ai;exact fD.h8 r dC (Rd e6 an aS p w) (by simp [builtin])
  ·cases ai
 ·split at ai
  ·rename_i x fG;simp only [Option.map_eq_some_iff,Prod.mk.injEq]at ai;obtain⟨v1,p,rfl,rfl⟩:=ai;exact fD.h8 r dC (Re e6 an aS p w) (by simp [builtin])
  ·cases ai
 ·
   split at ai
   ·rename_i s x t u b7 hu;simp only [bG]at aS;obtain⟨bK,eC,bu,aq,bS,ci,bC,af,b2⟩:=aS;subst bC b2;have gx:dD= #[bK,bS]:=by apply Array.ext';simpa using bu
    obtain⟨bp,bA,aL,aQ,bq,hk,ij⟩:=R6 (P:=P) (u:=u) (an:=an) cA.hS r dC aq af ai;refine fD.r9 (s:=Builtin.copy_ e6 an dD) (w:=w) ⟨bp,bA,ak,?_,hj.refl _ _ _,aQ,bq,hk,ij⟩ (by simp [builtin]);rw [←aL,gx];have j4:e6[0]? =(#[t,u]:Array TypeId)[0]? :=by rw [b7];rfl
    have qu:e6[1]? =(#[t,u]:Array TypeId)[1]? :=by rw [hu];rfl
    simp only [Builtin.copy_,j4,qu]
   ·cases ai
 ·
   split at ai
   ·rename_i x;simp only [Option.map_eq_some_iff,Prod.mk.injEq]at ai;obtain⟨v1,p,rfl,rfl⟩:=ai;simp only [bG]at aS;obtain⟨bK,eC,bu,aq,bC⟩:=aS;subst bC;have gx:dD= #[bK]:=by apply Array.ext';simpa using bu
    subst gx;exact fD.h8 r dC (R1 (e6:=e6) (an:=an) aq p w) (by simp [builtin])
   ·cases ai
 ·
   split at ai
   ·rename_i I n t b7;simp only [bG]at aS;obtain⟨bK,eC,bu,aq,bS,ci,bC,af,b2⟩:=aS;subst bC b2;have gx:dD= #[bK,bS]:=by apply Array.ext';simpa using bu
    subst gx;have Se:bS=.int .i64 n:=by simpa only [aK]using af
    subst Se;obtain⟨bp,bA,aL,aQ,bq,hk,ij⟩:=R2 cA.hS r dC (an:=an) b7 aq ai;exact fD.r9 (s:=Builtin.unsafeString_ e6 an #[bK,.int .i64 n]) ⟨bp,bA,ak,aL,hj.refl _ _ _,aQ,bq,hk,ij⟩ (by simp [builtin])
   ·cases ai
 ·cases ai
theorem Sf(cA:ho P E){bd:Nat→Prop}{h aa:j}{bo w:World}{call:dZ}(fV:ns P bd bo call)(r:c2 ak bd h w)(dC:Safe bd bo w)(dl:fv bd bo.heap.size){bh:Nat}(hid:∀v,ak bh v=none)
 (aM:bh<h.next) {bf:Operand→o} {dW:Operand→Value} (cZ:∀x,aK ak (bf x) (dW x)) {U:Oper} {v:o} (ai:bX E call bh bf h U.op=some (v,aa)) :
 fD P ak bd bo h bh v aa ((execOp dW U).run P w):=by
 unfold bX at ai;split at ai
 ·
   rename_i x e;simp only [Option.some.injEq,Prod.mk.injEq]at ai;obtain⟨rfl,rfl⟩:=ai;exact fD.h8 (s:=pure (dW x)) r dC ⟨_,rfl,cZ x⟩ (by simp [execOp,e])
 ·rename_i x e;simp only [Option.some.injEq,Prod.mk.injEq]at ai;obtain⟨rfl,rfl⟩:=ai;exact fD.h8 (s:=pure (dW x)) r dC ⟨_,rfl,cZ x⟩ (by simp [execOp,e])
 ·
   rename_i c a b e;split at ai
   ·rename_i t ar;simp only [Option.some.injEq,Prod.mk.injEq]at ai;obtain⟨rfl,rfl⟩:=ai;have p:=cZ c;rw [ar]at p;simp only [aK]at p;refine fD.h8 (s:=pure (if t then dW a else dW b)) r dC ⟨_,rfl,?_⟩ (by simp [execOp,e,p,asBool]);cases t
    ·exact cZ b
    ·exact cZ a
   ·cases ai
 ·
   rename_i t e;split at ai
   ·rename_i d aD;obtain⟨iW,u,hD,hu,ao,aq, -,eO⟩:=cA.hS.get aD;split at ai
    ·rename_i z vD;split at ai
     ·rename_i ar;simp only [Option.some.injEq,Prod.mk.injEq]at ai;obtain⟨rfl,rfl⟩:=ai;simp only [Bool.and_eq_true,decide_eq_true_eq]at ar;obtain⟨fH,lQ,np⟩:=tx (P:=P) (ak:=ak) (t:=t) cA.hS eO vD;obtain⟨bA,bM,aL,aQ,bq,hk,ij⟩:=I3 (P:=P) (D:=E.D) r dC dl hid aM t np ar.1 ar.2;refine .inl ⟨_,bA,bM,.inl ?_,aQ,bq,hk,ij,Nat.le_refl _⟩;simp [execOp,e,Instr.alloc,vs hD lQ,aL]
     ·cases ai
    ·cases ai
   ·cases ai
 ·
   rename_i t x e;split at ai
   ·rename_i d aD;split at ai
    ·rename_i ar;simp only [Option.some.injEq,Prod.mk.injEq]at ai;obtain⟨rfl,rfl⟩:=ai;simp only [Bool.and_eq_true,decide_eq_true_eq]at ar;obtain⟨bA,bM,aL,aQ,bq,hk,ij⟩:=I3 (P:=P) (D:=E.D) r dC dl hid aM t (cZ x) ar.1 ar.2;refine .inl ⟨_,bA,bM,.inl ?_,aQ,bq,hk,ij,Nat.le_refl _⟩;simp [execOp,e,Instr.box,aL]
    ·cases ai
   ·cases ai
 ·
   rename_i t parts e;simp only [Option.map_eq_some_iff,Prod.mk.injEq]at ai;obtain⟨v1,p,rfl,rfl⟩:=ai;exact fD.h8 r dC (Ry cA.hS cZ p w) (by simp [execOp,e])
 ·
   rename_i t n parts e;exact fD.r9 (RG cA.hS r dC dl hid aM cZ ai) (by simp [execOp,e])
 ·
   rename_i t x e;split at ai
   ·rename_i a aS;simp only [Option.map_eq_some_iff,Prod.mk.injEq]at ai;obtain⟨v1,p,rfl,rfl⟩:=ai;exact fD.h8 r dC (I1 cA.hS r (by have:=cZ x;rw [aS]at this;exact this) p) (by simp [execOp,e])
   ·cases ai
 ·
   rename_i t x y e;split at ai
   ·rename_i a aS;simp only [Option.map_eq_some_iff,Prod.mk.injEq]at ai;obtain⟨p,bE,rfl,rfl⟩:=ai;obtain⟨bA,aL,aQ,bq,hk⟩:=Ru cA.hS r dC (by have:=cZ x;rw [aS]at this;exact this) (cZ y) bE;refine .inl ⟨undef,bA,ak,.inr ⟨?_,rfl⟩,hj.refl _ _ _,aK.gf ak,aQ,bq,by omega⟩;simp [execOp,e,aL]
   ·cases ai
 ·
   rename_i x e;split at ai
   ·rename_i a aS;simp only [Option.some.injEq,Prod.mk.injEq]at ai;obtain⟨rfl,rfl⟩:=ai;have p:=cZ x;rw [aS]at p;have ae:=p;simp only [aK]at ae;obtain⟨fI,ae,bg⟩:=ae;exact fD.h8 (s:=pure (dW x)) r dC ⟨_,rfl,p⟩ (by simp [execOp,e,ae])
   ·rename_i g cV bn aS;simp only [Option.some.injEq,Prod.mk.injEq]at ai;obtain⟨rfl,rfl⟩:=ai;have p:=cZ x;rw [aS]at p;have ae:=p;simp only [aK]at ae;obtain⟨gb,fr,ae,bg,bO⟩:=ae;exact fD.h8 (s:=pure (dW x)) r dC ⟨_,rfl,p⟩ (by simp [execOp,e,ae])
   ·cases ai
 ·
   rename_i op t x y an e;simp only [Option.map_eq_some_iff,Prod.mk.injEq]at ai;obtain⟨v1,p,rfl,rfl⟩:=ai;obtain⟨bp,aL,aQ,bq⟩:=Q8 cA.hS cA.eqs (cZ x) (cZ y) p w;exact fD.h8 (s:=binOp op t (dW x) (dW y)) r dC ⟨bp,aQ,bq⟩ (by simp [execOp,e,aL])
 ·
   rename_i op t x e;simp only [Option.map_eq_some_iff,Prod.mk.injEq]at ai;obtain⟨v1,p,rfl,rfl⟩:=ai;exact fD.h8 r dC (Q9 (cZ x) p w) (by simp [execOp,e])
 ·
   rename_i s d x e;simp only [Option.map_eq_some_iff,Prod.mk.injEq]at ai;obtain⟨v1,p,rfl,rfl⟩:=ai;exact fD.h8 r dC (Q' cA.hS (cZ x) p w) (by simp [execOp,e])
 ·
   rename_i g cV bn e;simp only [Option.some.injEq,Prod.mk.injEq]at ai;obtain⟨rfl,rfl⟩:=ai;refine fD.h8 (s:=pure (.func (.func g) (cV.map dW) (bn.map dW))) r dC ⟨_,rfl,?_⟩ (by simp [execOp,e,Instr.makeFunc]);simp only [aK];exact⟨_,_,rfl,vJ cZ cV,vJ cZ bn⟩
 ·
   rename_i t x e;split at ai
   ·rename_i d aD;obtain⟨iW,u,hD,hu,ao, -⟩:=cA.hS.get aD;split at ai
    ·cases ai
    ·rename_i vM;simp only [Option.some.injEq,Prod.mk.injEq]at ai;obtain⟨rfl,rfl⟩:=ai;refine fD.h8 (s:=Instr.makeInterface t (dW x)) r dC ⟨.iface t (dW x),?_,by simp only [aK];exact⟨_,rfl,cZ x⟩⟩ (by simp [execOp,e]);rw [ao]at vM;simp only [Instr.makeInterface,Sem.run_bind,run_underlying hu,Result.andThen_ok];cases u<;>first|rfl|exact absurd rfl (vM _)
   ·cases ai
 ·
   rename_i t l c e;exact fD.r9 (RJ cA.hS r dC dl hid aM (cZ l) (cZ c) ai) (by simp [execOp,e])
 ·
   rename_i t x a7 al fL e;simp only [Option.map_eq_some_iff,Prod.mk.injEq]at ai;obtain⟨v1,p,rfl,rfl⟩:=ai;exact fD.h8 r dC (Rp cA.hS (cZ x) (lN.of_map cZ a7) (lN.of_map cZ al) (lN.of_map cZ fL) p w) (by simp [execOp,e])
 ·
   rename_i t x f e;simp only [Option.map_eq_some_iff,Prod.mk.injEq]at ai;obtain⟨v1,p,rfl,rfl⟩:=ai;exact fD.h8 r dC (Rj cA.hS (cZ x) p w) (by simp [execOp,e])
 ·
   rename_i t x f e;simp only [Option.map_eq_some_iff,Prod.mk.injEq]at ai;obtain⟨v1,p,rfl,rfl⟩:=ai;exact fD.h8 r dC (Rf cA.hS (cZ x) p w) (by simp [execOp,e])
 ·
   rename_i t x i e;simp only [Option.map_eq_some_iff,Prod.mk.injEq]at ai;obtain⟨v1,p,rfl,rfl⟩:=ai;exact fD.h8 r dC (Rn cA.hS (cZ x) (cZ i) p w) (by simp [execOp,e])
 ·
   rename_i t x i e;simp only [Option.map_eq_some_iff,Prod.mk.injEq]at ai;obtain⟨v1,p,rfl,rfl⟩:=ai;exact fD.h8 r dC (Rg cA.hS (cZ x) (cZ i) p w) (by simp [execOp,e])
 ·
   rename_i x i e;split at ai
   ·rename_i cd a';simp only [Option.map_eq_some_iff,Prod.mk.injEq]at ai;obtain⟨v1,p,rfl,rfl⟩:=ai;exact fD.h8 r dC (Ri (by have:=cZ x;rw [a']at this;exact this) p w) (by simp [execOp,e])
   ·cases ai
 ·
   rename_i c e;split at ai
   ·rename_i f a6;unfold n9 at ai;split at ai
    ·rename_i g first captured Di
     have p:=cZ f;rw [Di]at p;simp only [aK]at p;obtain⟨gb,fr,p,ze,Sg⟩:=p
     have gx:bG ak (first++c.args.toList.map bf++captured) (gb++c.args.map dW++fr).toList:=by simp only [Array.toList_append];exact(ze.append (vJ cZ c.args)).append Sg
     obtain⟨⟨fn,body,o',zf⟩,hl⟩:=fV _ _ _ _ _ ai ak w _ r dC gx;refine .inr ⟨g,gb++c.args.map dW++fr,w,?_,hl.mono ?_⟩
     ·have Sh:¬fn.name= "runtime.NumGoroutine" :=by simpa using cA.names g fn o'
      simp [execOp,e,resolve,a6,p,Deferred.ofValue,invoke,callFunc,o',Sh,zf]
     ·rintro dT mr ⟨bp,bM,aL,aQ,hk,ij,mo,Dj⟩;exact⟨bp,bM,aL,⟨aQ.le,fun i al _ lS=>aQ.new i al lS,aQ.ro⟩,hk,ij,mo,Dj⟩
    ·cases ai
   ·rename_i b a6;have he:∃vL,(execOp dW U).run P w=(builtin b c.argTypes U.type vL (c.args.map dW)).run P w:=⟨_,by simp [execOp,e,resolve,a6,invoke];rfl⟩
    obtain⟨vL,he⟩:=he;rw [he];exact Sb cA r dC dl hid aM U.type vL (vJ cZ c.args) ai
   ·cases ai
 ·cases ai
theorem Jv:∀(bL:List Int)(r:ByteArray),(bL.foldl (fun r n=>r.push (UInt8.ofNat n.toNat)) r).data.toList=r.data.toList++bL.map (fun n=>UInt8.ofNat n.toNat)
 |[],r=>by simp
 |n::l,r=>by simp only [List.foldl_cons,List.map_cons];rw [Jv l];simp [ByteArray.push]
theorem vN(w:World)(a:Addr)(k:Nat):(w.freeze a 1).heap[k]? =if a.block=k then(w.heap[k]?).map fun U=>match U with
 |.cells c elem (a7,al)=> .cells c elem (if a7 == al then(a.off,a.off+1)else(min a7 a.off,max al (a.off+1)))
 |U=>U else w.heap[k]? :=by
 unfold World.freeze;rw [if_neg (by decide)];simp only [Array.getElem?_modify];rfl
theorem Jw(w:World)(a x:Addr):(w.freeze a 1).cell? x=w.cell? x:=by
 unfold World.cell?;rw [vN];by_cases h:a.block=x.block
 ·rw [if_pos h];cases bQ:w.heap[x.block]? with
  |none=>rfl
  |some U =>
   cases U;case cells c t f=>obtain⟨a7,al⟩:=f;rfl
   all_goals rfl
 ·rw [if_neg h]
theorem kI.freeze{w:World}{a:Addr}{n:Nat}(aM:∃t a7 al,fz w a.block=some (t,n,a7,al)∧(a7=al∨n≤a7))(aS:a.off=n){k:Nat}(h:kI w k):kI (w.freeze a 1) k:=by
 by_cases e:a.block=k
 ·subst e;obtain⟨vO,a7,al,p,ae⟩:=aM;unfold kI fz;rw [vN,if_pos rfl];unfold fz at p;cases bQ:w.heap[a.block]? with
  |none=>rw [bQ]at p;cases p
  |some U =>
   rw [bQ]at p;cases U
   case cells c t f =>
    obtain⟨h6,fS⟩:=f;simp only [Option.some.injEq,Prod.mk.injEq]at p;obtain⟨rfl,rfl,rfl,rfl⟩:=p;simp only [Option.map_some];by_cases aB:h6=fS
    ·refine⟨t,c.size,a.off,a.off+1,by simp [aB],.inr (by omega)⟩
    ·refine⟨t,c.size,min h6 a.off,max fS (a.off+1),by simp [aB],.inr ?_⟩;rcases ae with ae|ae
     ·exact absurd ae aB
     ·omega
   all_goals cases p
 ·exact h.of_eq (rT (by rw [vN,if_neg e]))
theorem kI.free{w:World}{b U:Nat}(h:kI w b)(ar:(w.cell? ⟨b,U,none⟩).isSome=true):w.frozen? ⟨b,U,none⟩=false:=by
 obtain⟨vO,n,a7,al,p,ae⟩:=h;unfold fz at p;unfold World.cell? at ar;unfold World.frozen?;simp only at ar⊢;cases bQ:w.heap[b]? with
 |none=>simp [bQ]at p
 |some Da =>
  rw [bQ]at p ar;cases Da
  case cells c t f =>
   obtain⟨h6,fS⟩:=f;simp only [Option.some.injEq,Prod.mk.injEq]at p;obtain⟨rfl,rfl,rfl,rfl⟩:=p;simp only [Option.isSome_none,Bool.false_eq_true,if_false]at ar
   have ai:U<c.size:=by
    rcases Nat.lt_or_ge U c.size with h|h
    ·exact h
    ·rw [Array.getElem?_eq_none h]at ar;cases ar
   simp;omega
  all_goals cases p
theorem Si{w:World}{a:Addr}{k:Nat}{t:TypeId}{n a7 al:Nat}(h:fz w k=some (t,n,a7,al)):∃a7 al,fz (w.freeze a 1) k=some (t,n,a7,al):=by
 unfold fz at h⊢;rw [vN];by_cases e:a.block=k
 ·rw [if_pos e];cases bQ:w.heap[k]? with
  |none=>rw [bQ]at h;cases h
  |some U =>
   rw [bQ]at h;cases U
   case cells c fu f =>
    obtain⟨h6,fS⟩:=f;simp only [Option.some.injEq,Prod.mk.injEq]at h;obtain⟨rfl,rfl,rfl,rfl⟩:=h;simp only [Option.map_some];by_cases aB:h6=fS
    ·exact⟨a.off,a.off+1,by simp [aB]⟩
    ·exact⟨min h6 a.off,max fS (a.off+1),by simp [aB]⟩
   all_goals cases h
 ·rw [if_neg e];exact⟨a7,al,h⟩
theorem c2.freeze{bd:Nat→Prop}{h:j}{w:World}(r:c2 ak bd h w){a:Addr}{n:Nat}(aM:∃t a7 al,fz w a.block=some (t,n,a7,al)∧(a7=al∨n≤a7))(aS:a.off=n):c2 ak bd h (w.freeze a 1) where
 dB i v I ac:=by
  obtain⟨p,b,ae,bg,bO,bJ,du,cI,cr⟩:=r.dB i v I ac;have hm:b.ro=false→kI (w.freeze a 1) I.ck:=fun be=>(cr.mark be).freeze aM aS
  have hl:∀U,U<I.fy*I.es→((w.freeze a 1).cell? ⟨I.ck,I.off+U,none⟩).isSome=true:=fun U ai=>by rw [Jw];exact cr.cells U ai
  refine⟨p,b,ae,bg,bO,bJ,du,cI,⟨?_,cr.base,hl,fun be U ai=>(hm be).free (hl U ai),hm,fun t9 fB=>(by obtain⟨r7,C7,i9,C8,C9,C'⟩:=cr.jp t9 fB;obtain⟨li,i8,vF⟩:=Si (a:=a) C8;exact⟨r7,li,i8,vF,C9,C'⟩),fun i e g1 g2 g3=> ?_⟩⟩
  ·have:=cr.ck;unfold World.freeze;rw [if_neg (by decide)];simpa using this
  ·obtain⟨dK,dL,gd⟩:=cr.cont i e g1 g2 g3
   exact⟨dK,dL,fun C bS af=>by
    obtain⟨x,pn,r5⟩:=gd C bS af
    exact⟨x,by rw [Jw];exact pn,r5⟩⟩
 apart:=r.apart
 same:=r.same
theorem Safe.freeze{S:Nat→Prop}{a w:World}(h:Safe S a w){I:Addr}(ac:¬S I.block):Safe S a (w.freeze I 1) :=
 h.trans ⟨by unfold World.freeze;rw [if_neg (by decide)],by unfold World.freeze;rw [if_neg (by decide)],by unfold World.freeze;rw [if_neg (by decide)],by unfold World.freeze;rw [if_neg (by decide)];simp,fun k ao=>by
  have bZ:¬I.block=k:=fun e=>ac (by rw [e];exact ao)
  rw [vN,if_neg bZ]⟩
theorem Sj(w:World)(s e:TypeId)(x:Addr)(n c:Nat)(aq:P.underlying s=some (.slice e))(he:P.underlying e=some (.int .u8)){vO:TypeId}{m a7 al:Nat}(hm:fz w x.block=some (vO,m,a7,al)) :
 (convert s s (.slice (some x) n c)).run P w=.ok (.slice (some x) n c) (w.freeze ⟨x.block,m,none⟩ 1):=by
 unfold fz at hm;cases bQ:w.heap[x.block]? with
 |none=>rw [bQ]at hm;cases hm
 |some U =>
  rw [bQ]at hm;cases U
  case cells zg t f =>
   obtain⟨h6,fS⟩:=f;simp only [Option.some.injEq,Prod.mk.injEq]at hm;obtain⟨rfl,rfl,rfl,rfl⟩:=hm;have hT:w.shape? x.block=some (t,zg.size):=by unfold World.shape?;rw [bQ]
   simp [convert,run_underlying aq,run_underlying he,markStringish,hT]
  all_goals cases hm
theorem Sk{D:dI}(b5:D.dr P){bd:Nat→Prop}{h aa:j}{bo w:World}(r:c2 ak bd h w)(dC:Safe bd bo w)(dl:fv bd bo.heap.size){bh:Nat}(hid:∀v,ak bh v=none)(aM:bh<h.next)
 {s d:TypeId} {x v:o} {bS:Value} (af:aK ak x bS) (ai:oa D s d x bh h=some (v,aa)):pk P ak bd bo h bh v aa (convert s d bS) w:=by
 unfold oa at ai;split at ai
 ·rename_i nk ft bs Dk vP;obtain⟨hF,Sl,Sm,tB,zh, -, -⟩:=b5.get Dk;obtain⟨Db,Dc,Dd,qA,qB, -, -⟩:=b5.get vP;split at ai
  ·rename_i e cs he;rw [zh]at cs;rw [qB]at he;have:=qs cs;subst this;have:=ld he;subst this;split at ai
   ·rename_i gW pg;obtain⟨yW,qu,oj,ph,lg, -, -⟩:=b5.get pg;split at ai
    ·rename_i ao;rw [lg]at ao;have:=vr ao;subst this;simp only [Option.some.injEq,Prod.mk.injEq]at ai;obtain⟨rfl,rfl⟩:=ai;simp only [aK]at af;obtain⟨t,rfl,rfl⟩:=af;have km:=Go.run_bytes_of_string (P:=P) w s d e t tB qA ph;have gh:t.size≤grownCap w t.size 0 e:=grownCap_ge w t.size 0 e;have eQ:(bytesRow t (grownCap w t.size 0 e)).size=grownCap w t.size 0 e:=by simp [bytesRow];omega
     have hlen:(t.data.toList.map fun b=>o.int .u8 b.toNat).length=t.size:=by rw [List.length_map,Array.length_toList];rfl
     have Jx:t.data.toList.length=t.size:=by rw [Array.length_toList];rfl
     have jL:fv bd w.heap.size:=dl.le dC.size;refine⟨_,_,ak.add bh 0 ⟨w.heap.size,0,0,1,grownCap w t.size 0 e,false,false⟩,km,hj.add ak _ (hid 0) _,?_,?_,dC.drew.alloc (by simpa using jL) _,rfl⟩
     ·rw [Jx];exact aK.j1 (ex:=false) (Nat.le_refl _) gh (Nat.le_refl _) (by simp)
     ·have Sn:flat (t.data.toList.map fun b=>o.int .u8 b.toNat)=t.data.toList.map fun b=>o.int .u8 b.toNat:=by
       generalize t.data.toList=l;induction l with
       |nil=>rfl
       |cons a r ih=>simp only [List.map_cons,flat,List.flatMap_cons,o.cells]at ih⊢; rw [ih];rfl
      have Jy:(bytesRow t (grownCap w t.size 0 e)).toList.take ((t.data.toList.map fun b=>o.int .u8 b.toNat).length*1)=t.data.toList.map fun b=>Value.int .u8 b.toNat:=by rw [hlen,Nat.mul_one];simp [bytesRow,List.take_append,Jx]
      refine(r.alike (Alike.vB w)).QU hid aM (by simpa using jL) (Nat.one_pos) ?_ ?_ (by rw [eQ];simp) (by rw [hlen];exact gh) ?_ ?_ nofun
      ·intro e he;obtain⟨b,_,rfl⟩:=List.mem_map.1 he;rfl
      ·rw [Jy,Sn];exact bG.map _ _ _ fun b _=>by simp only [aK]
      ·rw [Jy];intro u hu;obtain⟨_,_,rfl⟩:=List.mem_map.1 hu;rfl
      ·exact .inr (Nat.le_refl _)
    ·cases ai
   ·cases ai
  ·cases ai
 ·rename_i nk ft a n c Dk vP;obtain⟨hF,Sl,Sm,tB,zh, -, -⟩:=b5.get Dk;obtain⟨Db,Dc,Dd,qA,qB, -, -⟩:=b5.get vP;split at ai
  ·rename_i e dT qC nt;rw [zh]at qC;rw [qB]at nt;have:=ld qC;subst this;have:=ld nt;subst this;split at ai
   ·rename_i gW rQ pg;obtain⟨yW,qu,oj,ph,lg, -, -⟩:=b5.get pg;split at ai
    ·rename_i b ao av;rw [lg]at ao;have:=vr ao;subst this;split at ai
     ·rename_i ar;obtain⟨rfl,eR,a6,ii⟩:=ar;simp only [Option.some.injEq,Prod.mk.injEq]at ai;obtain⟨rfl,rfl⟩:=ai;have rI:=af;simp only [aK]at af;obtain⟨fI,dk,rfl,eC,ci,iC⟩:=af;obtain⟨I,ac,jK,j3,hex⟩:=iC.plain a6;obtain⟨g1,iV,g2,g3,g4,g5,g6,g7,g8⟩:=r.dB _ _ _ ac;rw [av]at g2;simp at g2;subst g2;have tC:b.ro=false:=eR;rcases j3 with bm|⟨eS,rfl,oh⟩
      ·omega
      ·obtain⟨vO,m,a7,al,m1,m2⟩:=g8.mark tC;exact⟨_,_,ak,Sj w s e (I.at rQ.idx 0) n dk tB ph m1,hj.refl _ _ _,rI,r.freeze (a:=⟨I.ck,m,none⟩) ⟨vO,a7,al,m1,m2⟩ rfl,dC.freeze (g8.base (g6 tC)),rfl⟩
     ·cases ai
    ·cases ai
   ·cases ai
  ·rename_i e qC nt;rw [zh]at qC;rw [qB]at nt;have:=ld qC;subst this;have:=qs nt;subst this;split at ai
   ·rename_i gW pg;obtain⟨yW,qu,oj,ph,lg, -, -⟩:=b5.get pg;split at ai
    ·rename_i ao;rw [lg]at ao;have:=vr ao;subst this;split at ai
     ·rename_i l aB;cases av:bytesOf l with
      |none=>rw [av]at ai;cases ai
      |some q =>
       rw [av]at ai;simp only [Option.map_some,Option.some.injEq,Prod.mk.injEq]at ai;obtain⟨rfl,rfl⟩:=ai;obtain⟨news,src,po,fC⟩:=y6 (P:=P) (fT:=s) r af aB (Nat.one_pos) (.inl ⟨e,tB⟩);obtain⟨bL,bu,bC⟩:=Jh av po;refine pk.pure r dC ?_;cases a with
       |none =>
        simp only [aK]at af;obtain⟨rfl,_,_⟩:=af;have bm:=src.cells;refine⟨.string .empty,?_,?_⟩
        ·rw [run_convert_bytes_string w s d e none 0 0 tB ph qA];rfl
        ·simp only [aK];refine⟨_,rfl,?_⟩
         have jG:l=[]:=by have:=src.len w;simp [Builtin.lenOf]at this;exact List.length_eq_zero_iff.1 this.symm
         subst jG;simp [bytesOf]at av;subst av;rfl
       |some a =>
        simp only [aK]at af;obtain⟨fI,dk,rfl,eC,ci,iC⟩:=af
        have kl:l.length=n:=by have:=src.len w;simp [Builtin.lenOf]at this;exact this.symm
        have bm:=src.cells;rw [kl]at bm
        have mu:(loadCells fI n).run P w=.ok (bL.map (Value.int .u8)).toArray w:=by rw [bu]at bm;simpa [Builtin.firstCells]using bm
        refine⟨_,by rw [run_convert_bytes_string w s d e (some fI) n dk tB ph qA];exact run_bytesToString w fI n dk bL mu,?_⟩;simp only [aK];refine⟨_,rfl,?_⟩;rw [Jv,bC];rfl
     ·cases ai
    ·cases ai
   ·cases ai
  ·cases ai
 ·cases ai
theorem So{k:Nat}{args:List o}{dD:Array Value}(aS:bG ak args dD.toList){v:o}(h:Cq k args=some v){tD:Array Value→Sem Value}(he:vI k=some tD)(w:World) :
 ∃bp,(tD dD).run P w=.ok bp w∧aK ak v bp:=by
 unfold Cq at h;split at h
 ·rename_i s c;obtain⟨l⟩:=dD;simp only [bG]at aS;obtain⟨a,t,rfl,qD,b,u,rfl,hE,rfl⟩:=aS;simp only [aK]at qD hE;obtain⟨fu,rfl,rfl⟩:=qD;subst hE;split at h
  ·simp only [Option.some.injEq]at h;subst h;simp only [vI,Option.some.injEq]at he;subst he;exact⟨_,Go.Lib.run_countString fu c w,by simp only [aK]⟩
  ·simp only [Option.some.injEq]at h;subst h;simp only [vI,Option.some.injEq]at he;subst he;exact⟨_,Go.Lib.run_indexByteString fu c w,by simp only [aK]⟩
  ·cases h
 ·rename_i s s2;obtain⟨l⟩:=dD;simp only [bG]at aS;obtain⟨a,t,rfl,qD,b,u,rfl,hE,rfl⟩:=aS;simp only [aK]at qD hE;obtain⟨fu,rfl,rfl⟩:=qD;obtain⟨tw,rfl,rfl⟩:=hE;split at h
  ·rename_i ao;subst ao;simp only [Option.some.injEq]at h;subst h;simp only [vI,Option.some.injEq]at he;subst he;exact⟨_,Go.Lib.run_compareString fu tw w,by simp only [aK]⟩
  ·cases h
 ·cases h
theorem Sp(cA:ho P E){bd:Nat→Prop}{h aa:j}{bo w:World}{call:dZ}(fV:ns P bd bo call)(r:c2 ak bd h w)(dC:Safe bd bo w)(dl:fv bd bo.heap.size){bh:Nat}(hid:∀v,ak bh v=none)
 (aM:bh<h.next) {bf:Operand→o} {dW:Operand→Value} (cZ:∀x,aK ak (bf x) (dW x)) {U:Oper} {v:o} (ai:jm E call bh bf h U.op=some (v,aa)) :
 fD P ak bd bo h bh v aa ((execOp dW U).run P w):=by
 unfold jm at ai;split at ai
 ·rename_i jZ bm;simp only [Option.some.injEq]at ai;subst ai;exact Sf cA fV r dC dl hid aM cZ bm
 ·unfold eB at ai;split at ai
  ·rename_i s d x e;exact fD.r9 (Sk cA.hS r dC dl hid aM (cZ x) ai) (by simp [execOp,e])
  ·rename_i c e;split at ai
   ·rename_i f a6;split at ai
    ·rename_i g Di;split at ai
     ·rename_i k ao;simp only [Option.map_eq_some_iff,Prod.mk.injEq]at ai;obtain⟨v1,p,rfl,rfl⟩:=ai;obtain⟨fn,tD,ko,qz,ps,Sq,Sr⟩:=cA.Jo g k ao;have a':=cZ f;rw [Di]at a';simp only [aK,bG]at a';obtain⟨gb,fr,y4,tv,Jz⟩:=a';have Ss:gb= #[]:=by cases gb;simp at tv;subst tv;rfl
      have tE:fr= #[]:=by cases fr;simp at Jz;subst Jz;rfl
      subst Ss;subst tE;have gx:=vJ cZ c.args;have jr:=So (P:=P) gx p Sr w;refine fD.h8 (s:=tD (c.args.map dW)) r dC jr ?_;have km:=run_callFunc_extern ko (cA.names g fn ko) qz ps Sq (c.args.map dW) w;rw [←km];simp [execOp,e,resolve,a6,y4,Deferred.ofValue,invoke]
     ·cases ai
    ·cases ai
   ·cases ai
  ·cases ai
theorem St(cA:ho P E){bd:Nat→Prop}{h aa:j}{bo w:World}{call:dZ}(fV:ns P bd bo call)(r:c2 ak bd h w)(dC:Safe bd bo w)(dl:fv bd bo.heap.size){bh:Nat}(hid:∀v,ak bh v=none)
 (aM:bh<h.next) {bf:Operand→o} {a:Act} (cZ:∀x,aK ak (bf x) (a.eval x)) {U:Oper} {v:o} (ai:jm E call bh bf h U.op=some (v,aa)) {next:Act→World→Prop} {Q:Exit→Act→World→Prop}
 (ao:∀bp bA bM,hj ak bM h.next bh→aK bM v bp→c2 bM bd aa bA→Safe bd bo bA→h.next≤aa.next→next (a.put U.dst bp) bA):U.wp P a w next Q:=by
 unfold Oper.wp;rcases Sp cA fV r dC dl hid aM cZ ai with ⟨bp,bA,bM,be,aQ,bq,hk,ij,mo⟩|⟨f,args,bA,be,ar⟩
 ·rcases be with be|⟨be,rfl⟩
  ·rw [be];exact ao _ _ _ aQ bq hk ij mo
  ·rw [be];exact ao _ _ _ aQ bq hk ij mo
 ·rw [be]
  exact ar.mono fun e mr ⟨bp,bM,aL,aQ,bq,hk,ij,mo⟩=>by subst aL;exact ao _ _ _ aQ bq hk ij mo
end
end
end Go.cH
namespace Go.cH
noncomputable section
open Go.RowKit
structure gJ(ak:Map)(bd:Nat→Prop)(bo:World)(s:fq)(a:Act)(w:World):Prop where
 e7:bG ak s.e7 a.tmps.toList
 heap:c2 ak bd s.heap w
 below:Safe bd bo w
 defers:a.defers=[]
section
variable {P:Program}{ak:Map}{E:b4}
theorem bG.Dl{l:List o}{t:Array Value}(h:bG ak l t.toList)(i:Nat):aK ak (l.getD i .undef) (t.getD i undef):=by
 have ae:t.getD i undef=t.toList.getD i undef:=by simp [Array.getD_eq_getD_getElem?,List.getD_eq_getElem?_getD]
 rw [ae];exact h.getD i
theorem gJ.eval{bd:Nat→Prop}{bo w:World}{s:fq}{a:Act}(r:gJ ak bd bo s a w)(x:Operand):aK ak (dd s.e7 x) (a.eval x):=by
 cases x with
 |tmp t=>exact r.e7.Dl t
 |const v=>exact IC ak v
 |global g=>simp [dd,aK]
 |func f=>simp only [dd,aK];exact⟨#[],#[],rfl,by simp [bG],by simp [bG]⟩
theorem JA{s:List o}{a:Act}(h:bG ak s a.tmps.toList)(dst:Option Tmp){v:o}{bp:Value}(a':aK ak v bp):bG ak (hR s dst v) (a.put dst bp).tmps.toList:=by
 cases dst with
 |none=>exact h
 |some d =>
  simp only [hR,Act.put,Array.toList_setIfInBounds];exact h.set d a'
theorem put_defers(a:Act)(dst:Option Tmp)(v:Value):(a.put dst v).defers=a.defers:=by cases dst<;>rfl
theorem JB{s:List o}{a:Act}(h:bG ak s a.tmps.toList){ops:Array Oper}{U:Oper}{b:Bool}(hw:jn ops s U=some b):Region.wanted U (yielded ops a.tmps)=b:=by
 unfold jn at hw;unfold Region.wanted;split at hw
 ·rename_i e;simp at hw;subst hw;simp [e]
 ·rename_i C want e;rw [e];simp only;split at hw
  ·rename_i d aD;unfold yielded;rw [aD];simp only [Option.bind_some];split at hw
   ·rename_i c ar;simp at hw;subst hw;obtain⟨v,a',pd⟩:=h.get ar;simp only [aK]at pd;subst pd;have Dm:a.tmps[d]? =some (.bool c):=by simpa using a'
    rw [Dm];cases c<;>cases want<;>rfl
   ·rename_i ar;simp at hw;subst hw;obtain⟨v,a',pd⟩:=h.get ar;simp only [aK]at pd;obtain⟨xs,rfl,_⟩:=pd;have Dm:a.tmps[d]? =some (.tuple xs):=by simpa using a'
    rw [Dm];cases want<;>rfl
   ·cases hw
  ·cases hw
theorem JC(cA:ho P E){bd:Nat→Prop}{bo w:World}(dl:fv bd bo.heap.size){call:dZ}(fV:ns P bd bo call){ops:Array Oper}{aj i:Nat}{s bK:fq}{a:Act}(r:gJ ak bd bo s a w)
 (hid:aj+i<s.heap.next∧∀v,ak (aj+i) v=none) (h:qn E call ops aj i s=some bK) {K:Act→World→Prop} {Q:Exit→Act→World→Prop}
 (ao:∀cz bA bM,hj ak bM s.heap.next (aj+i)→gJ bM bd bo bK cz bA→s.heap.next≤bK.heap.next→K cz bA):wpOp P ops Q i K a w:=by
 unfold qn at h;unfold wpOp;split at h
 ·rename_i ai;simp at h;subst h;rw [ai];exact ao a w ak (hj.refl _ _ _) r (Nat.le_refl _)
 ·rename_i U ai;rw [ai];split at h
  ·rename_i hw;have ov:=JB r.e7 hw;split at h
   ·rename_i v ac gZ;simp at h;subst h;simp only [ov,if_true];left;refine St cA fV r.heap r.below dl hid.2 hid.1 r.eval gZ fun bp bA bM p ae bg bO bJ=> ?_
    refine ao _ bA bM p ⟨?_,bg,bO,by rw [put_defers];exact r.defers⟩ bJ;exact JA (r.e7.mono p.le) _ ae
   ·cases h
  ·rename_i hw;have ov:=JB r.e7 hw;simp at h;subst h;simp only [ov,Bool.false_eq_true,if_false];exact ao _ w ak (hj.refl _ _ _) ⟨JA r.e7 _ (aK.gf ak),r.heap,r.below,by rw [put_defers];exact r.defers⟩ (Nat.le_refl _)
  ·cases h
theorem JD(cA:ho P E){bd:Nat→Prop}{bo:World}(dl:fv bd bo.heap.size){call:dZ}(fV:ns P bd bo call){ops:Array Oper}{aj:Nat}{Q:Exit→Act→World→Prop} :
 ∀{l:List Nat}{s bK:fq}{a:Act}{w:World}{ak:Map},ob E call ops aj l s=some bK→gJ ak bd bo s a w→l.Nodup→(∀C∈l,aj+C<s.heap.next∧∀v,ak (aj+C) v=none) →
  (∀cz bA bM,fh ak bM aj→gJ bM bd bo bK cz bA→s.heap.next≤bK.heap.next→Q .normal cz bA)→wpOps P ops Q l a w
 |[],s,bK,a,w,ak,h,r,_,_,ao=>by simp [ob]at h;subst h;simp only [wpOps];exact ao a w ak (fh.refl _ _) r (Nat.le_refl _)
 |i ::rest,s,bK,a,w,ak,h,r,h1,hid,ao=>by
  simp only [ob]at h;split at h
  ·rename_i s1 p;rw [wpOps_cons];have JE:=List.nodup_cons.1 h1;refine JC cA dl fV r (hid i (by simp)) p fun cz bA bM af fG hle=> ?_
   refine JD cA dl fV h fG JE.2 (fun C aX=> ?_) fun r' mr sa Dn Dp Su=> ?_
   ·have pt : aj + C ≠ aj + i := by intro e;have:C=i:=by omega
                                    subst this;exact JE.1 aX
    obtain⟨g1,g2⟩:=hid C (by simp [aX]);exact⟨by omega,af.new _ g1 pt g2⟩
   ·refine ao _ _ _ (fh.trans ⟨af.le,fun k kO lS=>af.new k ?_ (by omega) lS,af.ro⟩ Dn) Dp (by omega);have:=(hid i (by simp)).1;omega
  ·cases h
end
end
end Go.cH
namespace Go.cH
noncomputable section
open Go.RowKit
mutual
theorem o.zi:∀{a b:o},o.same a b=true→a=b:=by
 intro a b h
 cases a<;>cases b<;>simp only [o.same,Bool.false_eq_true,Bool.and_eq_true,beq_iff_eq,decide_eq_true_eq]at h <;>
  first
   |rfl
   |(subst h;rfl)
   |(obtain⟨rfl,rfl⟩:=h;rfl)
   |(obtain⟨⟨rfl,rfl⟩,rfl⟩:=h;rfl)
   |(obtain⟨⟨rfl,p⟩,ae⟩:=h;rw [o.vQ p,o.vQ ae])
   |(obtain⟨rfl,p⟩:=h;rw [o.zi p])
   |(rw [o.vQ h])
theorem o.vQ:∀{a b:List o},o.od a b=true→a=b:=by
 intro a b h;cases a<;>cases b<;>simp only [o.od,Bool.false_eq_true,Bool.and_eq_true]at h
 ·rfl
 ·obtain⟨p,ae⟩:=h;rw [o.zi p,o.vQ ae]
end
theorem J.zi{a b:J}(h:J.same a b=true):a=b:=by cases a;cases b;simp only [J.same,Bool.and_eq_true,beq_iff_eq]at h;obtain⟨⟨⟨⟨⟨⟨⟨p,ae⟩,bg⟩,bO⟩,bJ⟩,du⟩,cI⟩,cr⟩:=h;rw [o.vQ p,ae,bg,bO,bJ,du,cI,cr]
mutual
theorem o.zj:∀(a:o),o.same a a=true
 |.undef=>rfl
 |.bool _=>by simp [o.same]
 |.int _ _=>by simp [o.same]
 |.str _=>by simp [o.same]
 |.ptr _=>by simp [o.same]
 |.slice _ _ _=>by simp [o.same]
 |.func _ f c=>by simp [o.same,o.tF f,o.tF c]
 |.nilFunc=>rfl
 |.iface _ v=>by simp [o.same,o.zj v]
 |.nilIface=>rfl
 |.agg l=>by simp [o.same,o.tF l]
 |.tuple l=>by simp [o.same,o.tF l]
theorem o.tF:∀(l:List o),o.od l l=true
 |[]=>rfl
 |a::r=>by simp [o.od,o.zj a,o.tF r]
end
theorem J.zj(a:J):J.same a a=true:=by simp [J.same,o.tF]
theorem JF{cE:Nat}{h aa:j}(k:qo cE h aa=true){i:Nat}(al:i<cE):aa.get i=h.get i :=
 aU.Cf (fun _ _=>J.zi) cE aa.aT h.aT 0 1 k i (by omega)
theorem JG{cE:Nat}{h aa:j}(k:∀i,i<cE→aa.get i=h.get i):qo cE h aa=true :=
 aU.Cg J.zj cE aa.aT h.aT 0 1 fun i al=>k i (by omega)
section
variable {E:b4}{call:dZ}
theorem nu{bh:Nat}{bf:Operand→o}{h p:j}{U:Op}{v:o}(ar:eJ U=.pure)(ai:bX E call bh bf h U=some (v,p)) :
 p=h∧∀(ow:Nat)(aa:j),bX E call ow bf aa U=some (v,aa):=by
 cases U<;>simp only [eJ,reduceCtorEq]at ar<;>simp only [bX]at ai⊢ <;>
  first
   |(simp only [Option.map_eq_some_iff,Prod.mk.injEq,Option.some.injEq]at ai
     obtain⟨v1,a',rfl,rfl⟩:=ai
     exact⟨rfl,fun _ _=>by rw [a'];rfl⟩)
   |(simp only [Prod.mk.injEq,Option.some.injEq]at ai
     obtain⟨rfl,rfl⟩:=ai
     exact⟨rfl,fun _ _=>rfl⟩)
   |skip
 ·split at ai
  ·rename_i t b7;simp only [Prod.mk.injEq,Option.some.injEq]at ai;obtain⟨rfl,rfl⟩:=ai;exact⟨rfl,fun _ _=>by simp only [b7]⟩
  ·cases ai
 ·split at ai
  ·rename_i a aS;simp only [Prod.mk.injEq,Option.some.injEq]at ai;obtain⟨rfl,rfl⟩:=ai;exact⟨rfl,fun _ _=>by simp only [aS]⟩
  ·rename_i g cV bn aS;simp only [Prod.mk.injEq,Option.some.injEq]at ai;obtain⟨rfl,rfl⟩:=ai;exact⟨rfl,fun _ _=>by simp only [aS]⟩
  ·cases ai
 ·split at ai
  ·rename_i d aD;split at ai
   ·cases ai
   ·rename_i vM;simp only [Prod.mk.injEq,Option.some.injEq]at ai;obtain⟨rfl,rfl⟩:=ai;refine⟨rfl,fun _ _=> ?_⟩;simp only [aD]
  ·cases ai
 ·rename_i fn cV bn;cases fn<;>simp only [bX]at ai⊢ <;>first|(cases ai;done)|skip
  simp only [Prod.mk.injEq,Option.some.injEq]at ai;obtain⟨rfl,rfl⟩:=ai;exact⟨rfl,fun _ _=>rfl⟩
 ·split at ai
  ·rename_i cd a';simp only [Option.map_eq_some_iff,Prod.mk.injEq]at ai;obtain⟨v1,p,rfl,rfl⟩:=ai;exact⟨rfl,fun _ _=>by simp only [a',p,Option.map_some]⟩
  ·cases ai
 ·rename_i c;cases iY:c.callee with
  |value f=>rw [iY]at ar;simp at ar
  |invoke r m=>rw [iY]at ar;simp at ar
  |builtin b =>
   rw [iY]at ar ai;simp only [iY];cases b<;>first|(simp at ar;done)|skip
   all_goals
    simp only [gn]at ai⊢;split at ai
    ·simp only [Option.map_eq_some_iff,Prod.mk.injEq]at ai;obtain⟨v1,p,rfl,rfl⟩:=ai;exact⟨rfl,fun _ _=>by simp only [p,Option.map_some]⟩
    ·cases ai
theorem sb{bh:Nat}{bf:Operand→o}{h p:j}{U:Op}{v:o}(ar:eJ U=.load)(ai:bX E call bh bf h U=some (v,p)) :
 p=h∧∃b,kg bf U=some b∧∀(ow:Nat)(aa:j),aa.get b=h.get b→bX E call ow bf aa U=some (v,aa):=by
 cases U<;>simp only [eJ,reduceCtorEq]at ar
 ·rename_i t x;simp only [bX]at ai⊢;split at ai
  ·rename_i a aS;simp only [Option.map_eq_some_iff,Prod.mk.injEq]at ai;obtain⟨v1,a',rfl,rfl⟩:=ai;refine⟨rfl,a.id,by simp [kg,aS],fun ow aa ah=> ?_⟩;simp only [aS,cj,ah]at a' ⊢;rw [a'];rfl
  ·cases ai
 ·rename_i c;cases iY:c.callee with
  |value f=>rw [iY]at ar;simp at ar
  |invoke r m=>rw [iY]at ar;simp at ar
  |builtin b=>rw [iY]at ar;cases b<;>simp at ar
theorem JH{bh:Nat}{bf:Operand→o}{h p:j}{U:Op}{v:o}(ar:eJ U=.store)(ai:bX E call bh bf h U=some (v,p)) :
 ∃s b,nl bf U=some s∧p=h.set s b∧True:=by
 cases U<;>simp only [eJ,reduceCtorEq]at ar
 ·rename_i t x y;simp only [bX]at ai;split at ai
  ·rename_i a aS;simp only [Option.map_eq_some_iff,Prod.mk.injEq]at ai;obtain⟨ae,a',rfl,rfl⟩:=ai;unfold iA at a';split at a'
   ·split at a'
    ·split at a'
     ·split at a'
      ·simp only [Option.some.injEq]at a';exact⟨a.id,_,by simp [nl,aS],a'.symm,trivial⟩
      ·cases a'
     ·cases a'
    ·cases a'
   ·cases a'
  ·cases ai
 ·rename_i c;cases iY:c.callee with
  |value f=>rw [iY]at ar;simp at ar
  |invoke r m=>rw [iY]at ar;simp at ar
  |builtin b=>rw [iY]at ar;cases b<;>simp at ar
theorem tG{bh:Nat}{bf:Operand→o}{h p:j}{U:Op}{v:o}(ar:eJ U=.alloc)(ai:bX E call bh bf h U=some (v,p)) :
 ∃b,p=h.set bh b∧∀(aa:j),bX E call bh bf aa U=some (v,aa.set bh b):=by
 cases U<;>simp only [eJ,reduceCtorEq]at ar
 ·rename_i t;simp only [bX]at ai⊢;split at ai
  ·rename_i d aD;split at ai
   ·rename_i z eO;split at ai
    ·rename_i ec;simp only [Prod.mk.injEq,Option.some.injEq]at ai;obtain⟨rfl,rfl⟩:=ai;exact⟨_,rfl,fun aa=>by simp only [ec,if_true]⟩
    ·cases ai
   ·cases ai
  ·cases ai
 ·rename_i t x;simp only [bX]at ai⊢;split at ai
  ·rename_i d aD;split at ai
   ·rename_i ec;simp only [Prod.mk.injEq,Option.some.injEq]at ai;obtain⟨rfl,rfl⟩:=ai;exact⟨_,rfl,fun aa=>by simp only [ec,if_true]⟩
   ·cases ai
  ·cases ai
 ·rename_i t n parts;simp only [bX,qm]at ai⊢;split at ai
  ·rename_i d aD;split at ai
   ·rename_i e he;split at ai
    ·rename_i x af;split at ai
     ·rename_i z eO;split at ai
      ·rename_i ec;split at ai
       ·rename_i l aB;simp only [Prod.mk.injEq,Option.some.injEq]at ai;obtain⟨rfl,rfl⟩:=ai;refine⟨_,rfl,fun aa=> ?_⟩;simp only [he,af,eO,ec,aB,and_self,if_true]
       ·cases ai
      ·cases ai
     ·cases ai
    ·cases ai
   ·cases ai
  ·cases ai
 ·rename_i t l c;simp only [bX,vj]at ai⊢;split at ai
  ·rename_i d aL n aQ m aD aB hm;split at ai
   ·rename_i e he;split at ai
    ·rename_i x af;split at ai
     ·rename_i z eO;split at ai
      ·rename_i ec;simp only [Prod.mk.injEq,Option.some.injEq]at ai;obtain⟨rfl,rfl⟩:=ai;refine⟨_,rfl,fun aa=> ?_⟩;simp only [he,af,eO,ec,and_self,if_true]
      ·cases ai
     ·cases ai
    ·cases ai
   ·cases ai
  ·cases ai
 ·rename_i c;cases iY:c.callee with
  |value f=>rw [iY]at ar;simp at ar
  |invoke r m=>rw [iY]at ar;simp at ar
  |builtin b=>rw [iY]at ar;cases b<;>simp at ar
theorem tH{bf dW:Operand→o}{xs:Array Operand}(h:∀x∈xs.toList,bf x=dW x):xs.toList.map bf=xs.toList.map dW:=List.map_congr_left h
theorem Dq{bf dW:Operand→o}{U:Option Operand}(h:∀x∈U.toList,bf x=dW x):U.map bf=U.map dW:=by
 cases U with
 |none=>rfl
 |some x=>simp [h x (by simp)]
theorem JI{bh:Nat}{bf dW:Operand→o}{h:j}{U:Op}(cZ:∀x∈U.operands.toList,bf x=dW x):bX E call bh bf h U=bX E call bh dW h U:=by
 cases U
 case call c =>
  simp only [Op.operands,Call.operands,Array.toList_append,List.mem_append]at cZ;simp only [bX];have aS:=tH (xs:=c.args) (fun x af=>cZ x (.inr af));cases iY:c.callee with
  |value f =>
   rw [iY]at cZ;simp only [aS,cZ f (.inl (by simp))]
  |invoke r m=>rfl
  |builtin b=>simp only [aS]
 case makeFunc fn cV bn =>
  simp only [Op.operands,Array.toList_append,List.mem_append]at cZ;cases fn<;>simp only [bX];rw [tH (xs:=cV) (fun x af=>cZ x (.inl af)),tH (xs:=bn) (fun x af=>cZ x (.inr af))]
 case slice t x a7 al fL =>
  simp only [Op.operands,Array.toList_append,List.mem_append]at cZ;simp only [bX];rw [cZ x (by simp),Dq (U:=a7) (fun y bY=>cZ y (by simp_all)),Dq (U:=al) (fun y bY=>cZ y (by simp_all)),Dq (U:=fL) (fun y bY=>cZ y (by simp_all))]
 case build t parts =>
  have ac:(parts.toList.map fun I=>(I.1,bf I.2))=parts.toList.map fun I=>(I.1,dW I.2):=by
   refine List.map_congr_left fun I ac=> ?_
   rw [cZ I.2 (by simp only [Op.operands];exact List.mem_map.2 ⟨I,ac,rfl⟩)]
  simp only [bX,ac]
 case buildSlice t n parts =>
  have ac:(parts.toList.map fun I=>(I.1,bf I.2))=parts.toList.map fun I=>(I.1,dW I.2):=by
   refine List.map_congr_left fun I ac=> ?_
   rw [cZ I.2 (by simp only [Op.operands];exact List.mem_map.2 ⟨I,ac,rfl⟩)]
  simp only [bX,ac]
 all_goals first
  |rfl
  |(simp only [bX,Op.operands]at cZ⊢; simp_all)
def lV(acc:Array Nat)(U:Oper):Nat:=U.after.toList.foldl (fun s e=>if iS e then s ||| 2^e.on ||| acc.getD e.on 0 else s) 0
theorem Dr:∀(l:List Oper)(acc:Array Nat)(k:Nat),k<acc.size→(l.foldl (fun acc U=>acc.push (lV acc U)) acc).getD k 0=acc.getD k 0
 |[],acc,k,h=>rfl
 |U::r,acc,k,h=>by simp only [List.foldl_cons];rw [Dr r _ k (by simp;omega)];simp [Array.getD_eq_getD_getElem?,Array.getElem?_push,Nat.ne_of_lt h]
theorem Sv{a b:Array Nat}{U:Oper}(h:∀e∈U.after.toList,iS e=true→a.getD e.on 0=b.getD e.on 0):lV a U=lV b U:=by
 unfold lV
 have key:∀(l:List Edge)(s:Nat),(∀e∈l,iS e=true→a.getD e.on 0=b.getD e.on 0) →
  l.foldl (fun s e=>if iS e then s ||| 2^e.on ||| a.getD e.on 0 else s) s=l.foldl (fun s e=>if iS e then s ||| 2^e.on ||| b.getD e.on 0 else s) s:=by
  intro l;induction l with
  |nil=>intro s _;rfl
  |cons e r ih =>
   intro s aB;simp only [List.foldl_cons]
   have:(if iS e then s ||| 2^e.on ||| a.getD e.on 0 else s)=(if iS e then s ||| 2^e.on ||| b.getD e.on 0 else s):=by
    cases av:iS e
    ·rfl
    ·simp only [if_true];rw [aB e (by simp) av]
   rw [this,ih _ (fun e he=>aB e (by simp [he]))]
 exact key _ 0 h
theorem fold_at:∀(l:List Oper)(acc:Array Nat)(m:Nat)(U:Oper),l[m]? =some U→(∀e∈U.after.toList,iS e=true→e.on<acc.size+m) →
 (l.foldl (fun acc U=>acc.push (lV acc U)) acc).getD (acc.size+m) 0=lV (l.foldl (fun acc U=>acc.push (lV acc U)) acc) U
 |[],acc,m,U,h,_=>by simp at h
 |a::r,acc,0,U,h,he=>by
  simp at h;subst h;simp only [List.foldl_cons,Nat.add_zero];rw [Dr r _ acc.size (by simp)];have:(acc.push (lV acc a)).getD acc.size 0=lV acc a:=by simp [Array.getD_eq_getD_getElem?]
  rw [this];refine Sv fun e hm av=> ?_
  have cM:=he e hm av;rw [Dr r _ e.on (by simp;omega)];simp [Array.getD_eq_getD_getElem?,Array.getElem?_push];rw [if_neg (by omega)]
 |a::r,acc,m+1,U,h,he=>by simp at h;simp only [List.foldl_cons];have:=fold_at r (acc.push (lV acc a)) m U h (fun e hm av=>by have:=he e hm av;simp;omega);simp only [Array.size_push]at this;rw [show acc.size+(m+1)=acc.size+1+m by omega];exact this
theorem JJ{acc:Array Nat}{i:Nat} :∀(l:List Edge)(s:Nat),(l.foldl (fun s e=>if iS e then s ||| 2^e.on ||| acc.getD e.on 0 else s) s).testBit i=true →
 s.testBit i=true∨ ∃e∈l,iS e=true∧(e.on=i∨(acc.getD e.on 0).testBit i=true)
 |[],s,h=> .inl h
 |e ::r,s,h=>by
  simp only [List.foldl_cons]at h;rcases JJ r _ h with p|⟨dT,p,ae⟩
  ·cases av:iS e
   ·rw [av]at p;exact .inl (by simpa using p)
   ·rw [av]at p;simp only [if_true,Nat.testBit_or,Bool.or_eq_true]at p;rcases p with (p|p)|p
    ·exact .inl p
    ·right;rw [Nat.testBit_two_pow]at p;exact⟨e,by simp,av,.inl (by simpa using p)⟩
    ·exact .inr ⟨e,by simp,av,.inr p⟩
  ·exact .inr ⟨dT,by simp [p],ae⟩
def pu(ops:Array Oper):Prop:= ∀(C:Nat)(U:Oper),ops[C]? =some U→ ∀e∈U.after.toList,iS e=true→e.on<C
theorem JK{ops:Array Oper}(aB:pu ops){i C:Nat}{U:Oper}(ai:ops[C]? =some U)(h:ordered (er ops) i C=true) :
 ∃e∈U.after.toList,iS e=true∧(e.on=i∨ordered (er ops) i e.on=true):=by
 unfold ordered at h;have:=fold_at ops.toList #[] C U (by simpa using ai) (fun e he av=>by have:=aB C U ai e he av;simp;omega);simp only [List.size_toArray,List.length_nil,Nat.zero_add]at this;have bu:er ops=ops.toList.foldl (fun acc U=>acc.push (lV acc U)) #[]:=rfl;rw [bu,this]at h;rcases JJ _ _ h with p|p
 ·simp at p
 ·exact p
theorem JL{ops:Array Oper}{i C:Nat}(ai:ops[C]? =none):ordered (er ops) i C=false:=by
 have eQ:∀(l:List Oper)(acc:Array Nat),(l.foldl (fun acc U=>acc.push (lV acc U)) acc).size=acc.size+l.length:=by
  intro l;induction l with
  |nil=>intro acc;rfl
  |cons a r ih=>intro acc;simp only [List.foldl_cons,ih,Array.size_push,List.length_cons];omega
 have bu:er ops=ops.toList.foldl (fun acc U=>acc.push (lV acc U)) #[]:=rfl;have aX:ops.size≤C:=by simpa using ai
 unfold ordered;rw [bu,Array.getD_eq_getD_getElem?,Array.getElem?_eq_none (by rw [eQ];simpa using aX)];simp
theorem Sw{ops:Array Oper}(aB:pu ops):∀(C:Nat){i:Nat},ordered (er ops) i C=true→i<C:=by
 intro C;induction C using Nat.strongRecOn with
 |_ C ih =>
  intro i h;cases ai:ops[C]? with
  |none=>rw [JL ai]at h;cases h
  |some U =>
   obtain⟨e,he,av,ar⟩:=JK aB ai h;have:=aB C U ai e he av;rcases ar with rfl|ar
   ·exact this
   ·have:=ih e.on this ar;omega
def JM(ops:Array Oper)(listed:Array Bool):Prop:= ∀(C:Nat)(U:Oper),listed.getD C false=true→ops[C]? =some U→ ∀e∈U.after.toList,iS e=true→listed.getD e.on false=true
theorem Sx{ops:Array Oper}(aB:pu ops){listed:Array Bool}(ar:JM ops listed):∀(C:Nat)(U:Oper),ops[C]? =some U→(∀e∈U.after.toList,iS e=true→listed.getD e.on false=true) →
 ∀{i:Nat},ordered (er ops) i C=true→listed.getD i false=true:=by
 intro C;induction C using Nat.strongRecOn with
 |_ C ih =>
  intro U ai ac i h;obtain⟨e,he,av,vR⟩:=JK aB ai h;have cM:=aB C U ai e he av;have hle:=ac e he av;rcases vR with rfl|vR
  ·exact hle
  ·cases Ds:ops[e.on]? with
   |none=>rw [JL Ds]at vR;cases vR
   |some JN=>exact ih e.on cM JN Ds (ar e.on JN hle Ds) vR
def mv(E:b4)(call:dZ)(ops:Array Oper)(aj C:Nat)(U:Oper)(dv:List o)(h:j):Option (o×j) :=
 match jn ops dv U with
 |some true=>fx E call ops aj C (dd dv) h U.op
 |some false=>some (gf,h)
 |none=>none
theorem zk{ops:Array Oper}{aj C:Nat}{U:Oper}(ai:ops[C]? =some U)(s:fq) :
 lK E call ops aj C s=(mv E call ops aj C U s.e7 s.heap).map fun I=>⟨hR s.e7 U.dst I.1,I.2⟩:=by
 unfold lK mv;rw [ai];simp only;cases jn ops s.e7 U with
 |none=>rfl
 |some b =>
  cases b with
  |false=>rfl
  |true =>
   simp only;cases fx E call ops aj C (dd s.e7) s.heap U.op with
   |none=>rfl
   |some I=>rfl
theorem vS{ops:Array Oper}{aj C:Nat}{bf:Operand→o}{h:j}{U:Op}{v:o}{aa:j}(aD:fx E call ops aj C bf h U=some (v,aa)) :
 bX E call (aj+C) bf h U=some (v,aa)∨(eJ U=.pure∧iT U=true∧(k9 ops C=true∨iU ops aj C bf U=true)∧bX E call (aj+C) bf h U=none):=by
 unfold fx at aD;split at aD
 ·split at aD
  ·split at aD
   ·exact .inl aD
   ·cases aD
  ·cases aD
 ·split at aD
  ·split at aD
   ·cases aD
   ·exact .inl aD
  ·cases aD
 ·split at aD
  ·rename_i v1 p he;split at aD
   ·split at aD
    ·rw [he];exact .inl aD
    ·cases aD
   ·rw [he];exact .inl aD
  ·cases aD
 ·split at aD
  ·exact .inl aD
  ·cases aD
 ·rename_i ar;split at aD
  ·rename_i r he;rw [he];exact .inl aD
  ·rename_i he;split at aD
   ·rename_i ec;exact .inr ⟨ar,ec.1,ec.2,he⟩
   ·cases aD
 ·exact .inl aD
theorem zl{ops:Array Oper}{aj C:Nat}{bf:Operand→o}{h:j}{U:Op}{v:o}{aa:j}(aD:fx E call ops aj C bf h U=some (v,aa)):jm E call (aj+C) bf h U=some (v,aa):=by
 rcases vS aD with p|⟨p,ae,bg,bO⟩
 ·unfold jm;rw [p]
 ·unfold fx at aD;rw [p]at aD;simp only [bO]at aD;rw [if_pos ⟨ae,bg⟩]at aD;unfold jm;rw [bO];exact aD
theorem Dt{ops:Array Oper}{i C:Nat}(aq:k9 ops C=true)(al:i<ops.size)(bZ:i≠C)(p:ordered (er ops) i C=false)(ae:ordered (er ops) C i=false){U:Oper}(ai:ops[i]? =some U):eJ U.op=.pure∧iT U.op=false:=by
 unfold k9 at aq;have:=List.all_eq_true.1 aq i (List.mem_range.2 al);simp only [p,ae,ai,Bool.or_false]at this;simp only [Bool.or_eq_true,beq_iff_eq,Bool.and_eq_true,decide_eq_true_eq,Bool.not_eq_true']at this;rcases this with h|h
 ·exact absurd h bZ
 ·exact h
theorem Du{es:Nat}{x:o}{h aa:j}(af:∀k∈h4 x,aa.get k=h.get k):eW es x aa=eW es x h:=by
 unfold eW;split
 ·rfl
 ·rename_i a len c;have e:aa.get a.id=h.get a.id:=af a.id (by simp [h4]);rw [e]
 ·rfl
 ·rfl
theorem tI{D :dI}{t:TypeId}{s x:o}{bh:Nat}{h p:j}{v:o}(aS:hi D t s x bh h=some (v,p)) :
 (p=h∧∀aa,(∀k∈h4 s++h4 x,aa.get k=h.get k)→hi D t s x bh aa=some (v,aa)) ∨
 ∃id b,(id=bh∨id∈h4 s++h4 x)∧p=h.set id b∧∀aa,(∀k∈h4 s++h4 x,aa.get k=h.get k)→hi D t s x bh aa=some (v,aa.set id b):=by
 have dV:∀{aa},(∀k∈h4 s++h4 x,aa.get k=h.get k)→(∀es,eW es s aa=eW es s h)∧(∀es,eW es x aa=eW es x h):=fun {aa} bQ =>
  ⟨fun es=>Du fun k ao=>bQ k (List.mem_append_left _ ao),fun es=>Du fun k ao=>bQ k (List.mem_append_right _ ao)⟩
 unfold hi at aS;split at aS
 ·rename_i d base len cap aD;split at aS
  ·rename_i e ao;split at aS
   ·rename_i cR fN;split at aS
    ·rename_i new fb;simp only at aS;split at aS
     ·rename_i ar;split at aS
      ·split at aS
       ·rename_i bm;simp only [Option.some.injEq,Prod.mk.injEq]at aS;obtain⟨rfl,rfl⟩:=aS;refine .inl ⟨rfl,fun aa bQ=> ?_⟩;have:=(dV bQ).2 cR.size;unfold hi;simp only [aD,ao,fN,this,fb];rw [if_pos ar,if_pos bm]
       ·rename_i bm;split at aS
        ·rename_i ae;simp only [Option.some.injEq,Prod.mk.injEq]at aS;obtain⟨rfl,rfl⟩:=aS;refine .inr ⟨bh,_,.inl rfl,rfl,fun aa bQ=> ?_⟩;have:=(dV bQ).2 cR.size;unfold hi;simp only [aD,ao,fN,this,fb];rw [if_pos ar,if_neg bm,if_pos ae]
        ·cases aS
      ·rename_i a;split at aS
       ·rename_i pj;split at aS
        ·rename_i b av;have ah:∀{aa:j},(∀k∈h4 (.slice (some a) len cap)++h4 x,aa.get k=h.get k)→aa.get a.id=some b:=fun {aa} bQ=>by rw [bQ a.id (by simp [h4]),av]
         split at aS
         ·rename_i oi;split at aS
          ·rename_i bm;simp only [Option.some.injEq,Prod.mk.injEq]at aS;obtain⟨rfl,rfl⟩:=aS;refine .inl ⟨rfl,fun aa bQ=> ?_⟩;have:=(dV bQ).2 cR.size;unfold hi;simp only [aD,ao,fN,this,fb,ah bQ];rw [if_pos ar,if_pos pj,if_pos oi,if_pos bm]
          ·rename_i bm;split at aS
           ·rename_i ec;simp only [Option.some.injEq,Prod.mk.injEq]at aS;obtain⟨rfl,rfl⟩:=aS;refine .inr ⟨a.id,_,.inr (by simp [h4]),rfl,fun aa bQ=> ?_⟩;have:=(dV bQ).2 cR.size;unfold hi;simp only [aD,ao,fN,this,fb,ah bQ];rw [if_pos ar,if_pos pj,if_pos oi,if_neg bm,if_pos ec]
           ·cases aS
         ·rename_i oi;split at aS
          ·rename_i hex;split at aS
           ·rename_i old hold;simp only [Option.some.injEq,Prod.mk.injEq]at aS;obtain⟨rfl,rfl⟩:=aS;refine .inr ⟨bh,_,.inl rfl,rfl,fun aa bQ=> ?_⟩;have bu:=(dV bQ).2 cR.size;have bC:=(dV bQ).1 cR.size;unfold hi;simp only [aD,ao,fN,bu,fb,ah bQ];rw [if_pos ar,if_pos pj,if_neg oi,if_pos hex];simp only [bC,hold]
           ·cases aS
          ·rename_i hex;split at aS
           ·rename_i ec;simp only [Option.some.injEq,Prod.mk.injEq]at aS;obtain⟨rfl,rfl⟩:=aS;refine .inr ⟨a.id,_,.inr (by simp [h4]),rfl,fun aa bQ=> ?_⟩;have:=(dV bQ).2 cR.size;unfold hi;simp only [aD,ao,fN,this,fb,ah bQ];rw [if_pos ar,if_pos pj,if_neg oi,if_neg hex,if_pos ec]
           ·cases aS
        ·cases aS
       ·cases aS
     ·cases aS
    ·cases aS
   ·cases aS
  ·cases aS
 ·cases aS
theorem JO{bh:Nat}{bf:Operand→o}{h p:j}{U:Op}{v:o}(ar:eJ U=.gy)(ai:bX E call bh bf h U=some (v,p)) :
 (p=h∧∀aa,(∀k∈h5 bf U,aa.get k=h.get k)→bX E call bh bf aa U=some (v,aa)) ∨
 ∃id b,(id=bh∨id∈h5 bf U)∧p=h.set id b∧∀aa,(∀k∈h5 bf U,aa.get k=h.get k)→bX E call bh bf aa U=some (v,aa.set id b):=by
 cases U<;>simp only [eJ,reduceCtorEq]at ar;rename_i c;obtain⟨callee,args,e6⟩:=c;cases callee<;>simp only [reduceCtorEq]at ar;rename_i b;cases b<;>simp only [reduceCtorEq]at ar;simp only [bX,gn]at ai⊢;split at ai
 ·rename_i s x t u gx b7 hu;have qE:h5 bf (.call ⟨.builtin .append,args,e6⟩)=h4 s++h4 x:=by simp [h5,gx]
  rw [qE];split at ai
  ·rename_i k8 ms;split at ai
   ·rename_i e he;first|exact tI ai|(rw [he];exact tI ai)|(have:=tI ai;simpa [he]using this)
   ·rename_i he;first|exact tI ai|(rw [he];exact tI ai)|(have:=tI ai;simpa [he]using this)
   ·cases ai
  ·cases ai
 ·cases ai
theorem Sy{dv:List o}{d:Tmp}{v:o}{x:Operand}(h:∀t,x=.tmp t→t≠d):dd (dv.set d v) x=dd dv x:=by
 cases x with
 |tmp t =>
  have:d≠t:=fun e=>h t rfl e.symm
  simp [dd,List.getD_eq_getElem?_getD,List.getElem?_set_ne this]
 |const v=>rfl
 |global g=>rfl
 |func f=>rfl
theorem Sz{xs:List Operand}{t:Tmp}(h:Operand.tmp t∈xs):t∈tmpsOf xs:=by unfold tmpsOf;exact List.mem_filterMap.2 ⟨_,h,rfl⟩
theorem SA{ops:Array Oper}{aj C:Nat}{U:Oper}{dv:List o}{d:Tmp}{v:o}{h:j}(aD:d ∉ rR ops U) :
 mv E call ops aj C U (dv.set d v) h=mv E call ops aj C U dv h:=by
 unfold rR at aD;simp only [List.mem_append,not_or]at aD;obtain⟨nv,sc⟩:=aD
 have cZ:∀x∈U.op.operands.toList,dd (dv.set d v) x=dd dv x:=fun x af=>Sy fun t b7 e=>by subst b7 e;exact nv (Sz af)
 have hw:jn ops (dv.set d v) U=jn ops dv U:=by
  unfold jn;split
  ·rfl
  ·rename_i g want ah;rw [ah]at sc;split
   ·rename_i ft vP;simp only [vP,Option.toList_some,List.mem_singleton]at sc;rw [List.getElem?_set_ne (fun e=>sc e)]
   ·rfl
 unfold mv;rw [hw];have gZ:∀bh,bX E call bh (dd (dv.set d v)) h U.op=bX E call bh (dd dv) h U.op:=fun bh=>JI cZ
 have eS:kg (dd (dv.set d v)) U.op=kg (dd dv) U.op:=by cases jM:U.op<;>simp only [kg];rename_i t x;rw [jM]at cZ;rw [cZ x (by simp [Op.operands])]
 have iC:nl (dd (dv.set d v)) U.op=nl (dd dv) U.op:=by cases jM:U.op<;>simp only [nl];rename_i t x y;rw [jM]at cZ;rw [cZ x (by simp [Op.operands])]
 have SB:fx E call ops aj C (dd (dv.set d v)) h U.op=fx E call ops aj C (dd dv) h U.op:=by
  have SC:h5 (dd (dv.set d v)) U.op=h5 (dd dv) U.op:=by cases jM:U.op<;>simp only [h5];rename_i c;rw [jM]at cZ;rw [tH (bf:=dd (dv.set d v)) (dW:=dd dv) fun x af=>cZ x (by simp only [Op.operands,Call.operands];cases c.callee<;>simp [af])]
  have vK:iT U.op=true→eB E (aj+C) (dd (dv.set d v)) h U.op=eB E (aj+C) (dd dv) h U.op:=by intro vT;cases jM:U.op<;>rw [jM]at vT<;>simp only [iT,reduceCtorEq]at vT;simp only [eB];rename_i a b x;rw [jM]at cZ;rw [cZ x (by simp [Op.operands])]
  have Dv:iU ops aj C (dd (dv.set d v)) U.op=iU ops aj C (dd dv) U.op:=by
   have:oe (dd (dv.set d v)) U.op=oe (dd dv) U.op:=by cases jM:U.op<;>simp only [oe];rename_i a b x;rw [jM]at cZ;rw [cZ x (by simp [Op.operands])]
   unfold iU;rw [this]
  unfold fx;rw [gZ,eS,iC,SC,Dv];by_cases vT:iT U.op=true
  ·rw [vK vT]
  ·simp only [vT,Bool.false_eq_true,false_and,if_false]
 rw [SB]
theorem JP{ops:Array Oper}{aj C:Nat}{U x:Oper}{dv:List o}{v:o}{h:j}(aD:∀d,x.dst=some d→d ∉ rR ops U) :
 mv E call ops aj C U (hR dv x.dst v) h=mv E call ops aj C U dv h:=by
 cases af:x.dst with
 |none=>rfl
 |some d=>exact SA (aD d af)
theorem SD{dv:List o}{x y:Oper}{v u:o}(h:∀d,x.dst=some d→y.dst≠some d):hR (hR dv x.dst v) y.dst u=hR (hR dv y.dst u) x.dst v:=by
 cases af:x.dst with
 |none=>rfl
 |some d =>
  cases bY:y.dst with
  |none=>rfl
  |some e =>
   have bZ:d≠e:=fun he=>h d af (by rw [bY,he])
   simp only [hR];exact List.set_comm _ _ bZ
theorem set_comm{a b:Nat}(rK:a≠b)(h:j)(x y:J):(h.set a x).set b y=(h.set b y).set a x:=by unfold j.set;simp only [aU.set_comm x y h.aT a b rK]
structure vU(ops:Array Oper)(x i:Nat):Prop where
 lt:x<i
 al:i<ops.size
 no:ordered (er ops) x i=false
 pair:∀hG gp,ops[x]? =some hG→ops[i]? =some gp→IB (eJ hG.op) (eJ gp.op)=true∧yM ops hG gp=true
theorem apart_spec{ops:Array Oper}{x y:Oper}(h:yM ops x y=true):(∀d,x.dst=some d→d ∉ rR ops y)∧(∀d,y.dst=some d→d ∉ rR ops x)∧(∀d,x.dst=some d→y.dst≠some d):=by
 unfold yM at h;simp only [Bool.and_eq_true]at h;obtain⟨p,ae⟩:=h;refine⟨fun d aD=> ?_,fun d aD=> ?_,fun d aD=> ?_⟩
 ·rw [aD]at p;simp at p;exact p.1
 ·rw [aD]at ae;simp at ae;exact ae
 ·rw [aD]at p;simp at p;exact p.2
theorem JQ{ops:Array Oper}{aj x i:Nat}{hG gp:Oper}(kq:ops[x]? =some hG)(kQ:ops[i]? =some gp)(eo:eJ hG.op=.load)(dm:eJ gp.op=.store)(JR:ordered (er ops) x i=false)(JS:ordered (er ops) i x=false)(af:x<ops.size)(al:i<ops.size)
 {bf:Operand→o} {h ae:j} {qF:o} {b ji:Nat} (aB:∃b,kg bf hG.op=some b∧(b<aj∨(b<aj+ops.size∧ordered (er ops) (b-aj) x=true∧pb ops (er ops) x=false))) (av:kg bf hG.op=some b)
 (aD:fx E call ops aj i bf h gp.op=some (qF,ae)) (aq:nl bf gp.op=some ji):b<aj∧aj≤ji:=by
 have eC:pb ops (er ops) x=true:=by unfold pb;rw [List.any_eq_true];refine⟨i,List.mem_range.2 al,?_⟩;rw [kQ];simp [dm,JR,JS]
 have ci:mh ops (er ops) i=true:=by unfold mh;rw [List.any_eq_true];refine⟨x,List.mem_range.2 af,?_⟩;rw [kq];simp [eo,JR,JS]
 refine⟨?_,?_⟩
 ·obtain⟨iV,fw,ar⟩:=aB;rw [av]at fw;simp only [Option.some.injEq]at fw;subst fw;rcases ar with ar|⟨_,_,ar⟩
  ·exact ar
  ·rw [eC]at ar;cases ar
 ·unfold fx at aD;rw [dm]at aD;simp only [aq]at aD;split at aD
  ·cases aD
  ·rename_i ar;rcases Nat.lt_or_ge ji aj with cM|gh
   ·exact absurd ⟨ci,cM⟩ ar
   ·exact gh
theorem Dw{ops:Array Oper}{aj C:Nat}{bf:Operand→o}{U:Op}(h:iU ops aj C bf U=true):∃x,oe bf U=some x∧(∀b∈h4 x,∀k,ordered (er ops) k C=false→b≠aj+k) ∧
 ∀i y,i<ops.size→i≠C→ordered (er ops) i C=false→ordered (er ops) C i=false→ops[i]? =some y→eJ y.op=.pure∨eJ y.op=.load∨eJ y.op=.alloc:=by
 unfold iU at h;split at h
 ·rename_i x af;simp only [Bool.and_eq_true]at h;refine⟨x,af,fun b av k ao e=> ?_,fun i y al bZ p ae bY=> ?_⟩
  ·have:=List.all_eq_true.1 h.1 b av;simp only [Bool.or_eq_true,Bool.and_eq_true,decide_eq_true_eq]at this;subst e;rcases this with h|⟨_,h⟩
   ·omega
   ·rw [show aj+k-aj=k by omega,ao]at h;cases h
  ·have:=List.all_eq_true.1 h.2 i (List.mem_range.2 al);simp only [p,ae,bY,Bool.or_false,Bool.or_eq_true,beq_iff_eq,decide_eq_true_eq]at this;rcases this with h|(h|h)|h
   ·exact absurd h bZ
   ·exact .inl h
   ·exact .inr (.inl h)
   ·exact .inr (.inr h)
 ·cases h
theorem Dx{bh:Nat}{bf:Operand→o}{h p:j}{U:Op}{v x:o}(af:oe bf U=some x)(ai:eB E bh bf h U=some (v,p)) :
 p=h∧∀(ow:Nat)(aa:j),(∀k∈h4 x,aa.get k=h.get k)→eB E ow bf aa U=some (v,aa):=by
 cases U<;>simp only [oe,reduceCtorEq]at af;rename_i s d y;split at af
 ·rename_i a n c bY;simp only [Option.some.injEq]at af;subst af;simp only [eB,bY,oa]at ai⊢;cases aq:E.D s with
  |none=>rw [aq]at ai;simp at ai
  |some nk =>
   cases aD:E.D d with
   |none=>rw [aq,aD]at ai;simp at ai
   |some ft =>
    simp only [aq,aD]at ai⊢;cases gg:nk.kind<;>cases cw:ft.kind<;>simp only [gg,cw,reduceCtorEq]at ai⊢
    ·
      rename_i e;cases he:E.D e with
      |none=>rw [he]at ai;simp at ai
      |some gW =>
       simp only [he]at ai⊢;cases lg:gW.kind<;>simp only [lg,reduceCtorEq]at ai⊢;rename_i lL;cases lL<;>simp only [reduceCtorEq]at ai⊢;split at ai
       ·rename_i l aB;simp only [Option.map_eq_some_iff,Prod.mk.injEq]at ai;obtain⟨u,hu,rfl,rfl⟩:=ai;refine⟨rfl,fun ow aa bQ=> ?_⟩;rw [Du bQ,aB];simp only [hu,Option.map_some]
       ·cases ai
    ·
      rename_i e bC;cases he:E.D e with
      |none=>rw [he]at ai;simp at ai
      |some gW =>
       cases a with
       |none=>rw [he]at ai;simp at ai
       |some rQ =>
        simp only [he]at ai⊢;split at ai
        ·rename_i b lg ah;split at ai
         ·rename_i ar;simp only [Option.some.injEq,Prod.mk.injEq]at ai;obtain⟨rfl,rfl⟩:=ai;refine⟨rfl,fun ow aa bQ=> ?_⟩;rw [bQ rQ.id (by simp [h4]),lg,ah];simp only;rw [if_pos ar]
         ·cases ai
        ·cases ai
 ·cases af
theorem SE{bh:Nat}{bf:Operand→o}{h:j}{U:Op}(ar:iT U=true)(aS:bX E call bh bf h U=none)(ow:Nat)(aa:j):bX E call ow bf aa U=none:=by cases U<;>simp only [iT,reduceCtorEq]at ar;simp only [bX,Option.map_eq_none_iff]at aS⊢;exact aS
theorem SF{ops:Array Oper}(aB:pu ops){aj x i:Nat}(m:vU ops x i){hG gp:Oper}(kq:ops[x]? =some hG)(kQ:ops[i]? =some gp){dv:List o}{h af ae:j}{nn qF:o}
 (p:mv E call ops aj x hG dv h=some (nn,af)) (al:mv E call ops aj i gp dv af=some (qF,ae)) :
 ∃lM,mv E call ops aj i gp dv h=some (qF,lM)∧mv E call ops aj x hG dv lM=some (nn,ae):=by
 obtain⟨eh,zm⟩:=m.pair hG gp kq kQ
 have mw:ordered (er ops) i x=false:=by
  cases av:ordered (er ops) i x with
  |false=>rfl
  |true=>have:=Sw aB x av;have:=m.lt;omega
 unfold mv at p al⊢;cases JT:jn ops dv hG with
 |none=>rw [JT]at p;cases p
 |some n' =>
  cases JU:jn ops dv gp with
  |none=>rw [JU]at al;cases al
  |some Dy =>
   rw [JT]at p;rw [JU]at al;cases n' with
   |false =>
    simp only [Option.some.injEq,Prod.mk.injEq]at p;obtain⟨rfl,rfl⟩:=p;exact⟨ae,al,rfl⟩
   |true =>
    cases Dy with
    |false =>
     simp only [Option.some.injEq,Prod.mk.injEq]at al;obtain⟨rfl,rfl⟩:=al;exact⟨h,rfl,p⟩
    |true =>
     simp only at p al⊢;have fc:x<ops.size:=by have:=m.lt;have:=m.al;omega
     have qG:∀{C:Nat}{U:Oper}{h:j}{r:o×j},eJ U.op=.pure→bX E call (aj+C) (dd dv) h U.op=some r→fx E call ops aj C (dd dv) h U.op=some r:=by intro C U h r ar aS;unfold fx;rw [ar];simp only [aS]
     have JV:∀{C:Nat}{U:Oper}{h bm:j}{r:o×j},eJ U.op=.pure→iT U.op=true→(k9 ops C=true∨iU ops aj C (dd dv) U.op=true)→bX E call (aj+C) (dd dv) bm U.op=none→eB E (aj+C) (dd dv) h U.op=some r→fx E call ops aj C (dd dv) h U.op=some r:=by intro C U h bm r ar al aq aS af;unfold fx;rw [ar];simp only [SE al aS (aj+C) h];rw [if_pos ⟨al,aq⟩];exact af
     rcases vS p with h3|⟨SG,Dz,tJ,JW⟩
     rotate_left
     ·
       have Jp:eB E (aj+x) (dd dv) h hG.op=some (nn,af):=by have:=zl p;unfold jm at this;rw [JW]at this;exact this
       rcases tJ with tJ|tJ
       ·obtain⟨eU,ik⟩:=Dt tJ m.al (by have:=m.lt;omega) mw m.no kQ;rcases vS al with il|⟨_,dL,_,_⟩
        ·obtain⟨rfl,aC⟩:=nu eU il;refine⟨h,qG eU (aC _ _),p⟩
        ·rw [ik]at dL;cases dL
       ·obtain⟨y,bY,qE,DA⟩:=Dw tJ;obtain⟨rfl,aC⟩:=Dx bY Jp;have SH:=DA i gp m.al (by have:=m.lt;omega) mw m.no kQ;have back:∀ae:j,(∀k∈h4 y,ae.get k=af.get k)→fx E call ops aj x (dd dv) ae hG.op=some (nn,ae):=fun ae ah=>JV SG Dz (.inr tJ) JW (aC _ ae ah)
        rcases vS al with il|⟨JX,JY,mx,zn⟩
        ·rcases SH with c|c|c
         ·obtain⟨rfl,_⟩:=nu c il;exact⟨_,al,back _ fun _ _=>rfl⟩
         ·obtain⟨rfl,_⟩:=sb c il;exact⟨_,al,back _ fun _ _=>rfl⟩
         ·obtain⟨b,rfl,_⟩:=tG c il;exact⟨_,al,back _ fun k ao=>j.e1 _ _ fun e=>qE k ao i mw e.symm⟩
        ·have DB:eB E (aj+i) (dd dv) af gp.op=some (qF,ae):=by have:=zl al;unfold jm at this;rw [zn]at this;exact this
         rcases mx with mx|mx
         ·obtain⟨_,ik⟩:=Dt mx fc (by have:=m.lt;omega) m.no mw kq;rw [ik]at Dz;cases Dz
         ·obtain⟨z,eO,_,_⟩:=Dw mx;obtain⟨rfl,_⟩:=Dx eO DB;exact⟨_,al,back _ fun _ _=>rfl⟩
     rcases vS al with il|⟨JX,JY,mx,zn⟩
     rotate_left
     ·rcases mx with mx|mx
      ·obtain⟨eU,ik⟩:=Dt mx fc (by have:=m.lt;omega) m.no mw kq;obtain⟨rfl,ac⟩:=nu eU h3;exact⟨ae,al,qG eU (ac _ _)⟩
      ·have DB:eB E (aj+i) (dd dv) af gp.op=some (qF,ae):=by have:=zl al;unfold jm at this;rw [zn]at this;exact this
       obtain⟨y,bY,qE,DA⟩:=Dw mx;obtain⟨rfl,aC⟩:=Dx bY DB;rcases DA x hG fc (by have:=m.lt;omega) m.no mw kq with c|c|c
       ·obtain⟨rfl,_⟩:=nu c h3;exact⟨_,al,p⟩
       ·obtain⟨rfl,_⟩:=sb c h3;exact⟨_,al,p⟩
       ·obtain⟨b,rfl,_⟩:=tG c h3;exact⟨h,JV JX JY (.inr mx) zn (aC _ h fun k ao=>(j.e1 _ _ fun e=>qE k ao x m.no e.symm).symm),p⟩
     have tK:eJ hG.op=.load→ ∃b,kg (dd dv) hG.op=some b∧(b<aj∨(b<aj+ops.size∧ordered (er ops) (b-aj) x=true∧pb ops (er ops) x=false)):=by
      intro ar;unfold fx at p;rw [ar]at p;simp only at p;split at p
      ·rename_i b av;split at p
       ·rename_i ec;exact⟨b,av,ec⟩
       ·cases p
      ·cases p
     have tL:eJ gp.op=.load→ ∃b,kg (dd dv) gp.op=some b∧(b<aj∨(b<aj+ops.size∧ordered (er ops) (b-aj) i=true∧pb ops (er ops) i=false)):=by
      intro ar;unfold fx at al;rw [ar]at al;simp only at al;split at al
      ·rename_i b av;split at al
       ·rename_i ec;exact⟨b,av,ec⟩
       ·cases al
      ·cases al
     have tM:∀{C:Nat}{U:Oper}{h aa:j}{v:o},eJ U.op=.load→(∃b,kg (dd dv) U.op=some b∧(b<aj∨(b<aj+ops.size∧ordered (er ops) (b-aj) C=true∧pb ops (er ops) C=false))) →
      bX E call (aj+C) (dd dv) h U.op=some (v,aa)→fx E call ops aj C (dd dv) h U.op=some (v,aa):=by
      intro C U h aa v ar ⟨b,av,ec⟩ aS;unfold fx;rw [ar];simp only [av];rw [if_pos ec];exact aS
     have zo:∀{C:Nat}{U:Oper}{h:j},eJ U.op=.alloc→fx E call ops aj C (dd dv) h U.op=bX E call (aj+C) (dd dv) h U.op:=by intro C U h ar;unfold fx;rw [ar]
     have SI:eJ hG.op=.gy→pc ops aj x (h5 (dd dv) hG.op)=true:=by
      intro ar;unfold fx at p;rw [ar]at p;simp only at p;split at p
      ·assumption
      ·cases p
     have SJ:eJ gp.op=.gy→pc ops aj i (h5 (dd dv) gp.op)=true:=by
      intro ar;unfold fx at al;rw [ar]at al;simp only at al;split at al
      ·assumption
      ·cases al
     have DC:∀{C:Nat}{U:Oper}{h:j},eJ U.op=.gy→pc ops aj C (h5 (dd dv) U.op)=true→fx E call ops aj C (dd dv) h U.op=bX E call (aj+C) (dd dv) h U.op:=by intro C U h ar ao;unfold fx;rw [ar];simp only;rw [if_pos ao]
     have JZ:∀{C k b:Nat}{ids:List Nat},k<ops.size→pc ops aj C ids=true→b∈ids→ordered (er ops) k C=false→b≠aj+k:=by
      intro C k b ids my ao av h7 e;subst e;have:=List.all_eq_true.1 ao _ av;simp only [Bool.or_eq_true,Bool.and_eq_true,decide_eq_true_eq]at this;rcases this with (h|⟨_,h⟩)|h
      ·omega
      ·rw [show aj+k-aj=k by omega,h7]at h;cases h
      ·omega
     cases eo:eJ hG.op with
     |pure =>
      obtain⟨rfl,ac⟩:=nu eo h3;exact⟨ae,al,qG eo (ac _ _)⟩
     |load =>
      obtain⟨rfl,b,av,ac⟩:=sb eo h3;cases dm:eJ gp.op with
      |pure =>
       obtain⟨rfl,aC⟩:=nu dm il;exact⟨_,al,p⟩
      |load =>
       obtain⟨rfl,iV,fw,aC⟩:=sb dm il;exact⟨_,al,p⟩
      |alloc =>
       obtain⟨ck,rfl,aC⟩:=tG dm il;refine⟨_,al,tM eo (tK eo) (ac _ _ ?_)⟩;refine j.e1 _ _ ?_;rintro rfl;obtain⟨DD,kR,ec⟩:=tK eo;rw [av]at kR;simp at kR;subst kR;rcases ec with ec|⟨_,ec,_⟩
       ·omega
       ·rw [show aj+i-aj=i by omega,mw]at ec;cases ec
      |call =>
       refine⟨_,al,tM eo (tK eo) (ac _ _ ?_)⟩;unfold fx at al;rw [dm]at al;simp only [il]at al
       have DE:mh ops (er ops) i=true:=by unfold mh;rw [List.any_eq_true];refine⟨x,List.mem_range.2 (by have:=m.lt;have:=m.al;omega),?_⟩;rw [kq];simp [eo,m.no,mw]
       rw [if_pos DE]at al;split at al
       ·rename_i aq;obtain⟨DD,kR,ec⟩:=tK eo;rw [av]at kR;simp at kR;subst kR;exact JF aq (by rcases ec with ec|⟨ec,_,_⟩<;>omega)
       ·cases al
      |store =>
       obtain⟨ji,ck,nh,rfl,aC⟩:=JH dm il;refine⟨_,al,tM eo (tK eo) (ac _ _ ?_)⟩;refine j.e1 _ _ ?_;rintro rfl;have ox:=JQ kq kQ eo dm m.no mw (by have:=m.lt;have:=m.al;omega) m.al (tK eo) av al nh;omega
      |gy=>rw [eo,dm]at eh;cases eh
      |other=>rw [eo,dm]at eh;cases eh
     |store =>
      obtain⟨ji,ck,nh,rfl,aC⟩:=JH eo h3;cases dm:eJ gp.op with
      |pure =>
       obtain⟨rfl,aC⟩:=nu dm il;exact⟨h,qG dm (aC _ _),p⟩
      |load =>
       obtain⟨rfl,iV,fw,aC⟩:=sb dm il;refine⟨h,tM dm (tL dm) (aC _ _ ?_),p⟩;refine(j.e1 _ _ ?_).symm;rintro rfl;have ox:=JQ kQ kq dm eo mw m.no m.al (by have:=m.lt;have:=m.al;omega) (tL dm) fw p nh;omega
      |alloc=>rw [eo,dm]at eh;cases eh
      |store=>rw [eo,dm]at eh;cases eh
      |call=>rw [eo,dm]at eh;cases eh
      |gy=>rw [eo,dm]at eh;cases eh
      |other=>rw [eo,dm]at eh;cases eh
     |alloc =>
      obtain⟨ck,rfl,ac⟩:=tG eo h3;cases dm:eJ gp.op with
      |pure =>
       obtain⟨rfl,aC⟩:=nu dm il;exact⟨h,qG dm (aC _ _),p⟩
      |load =>
       obtain⟨rfl,iV,fw,aC⟩:=sb dm il;refine⟨h,tM dm (tL dm) (aC _ _ ?_),p⟩;refine(j.e1 _ _ ?_).symm;rintro rfl;obtain⟨DD,kR,ec⟩:=tL dm;rw [fw]at kR;simp at kR;subst kR;rcases ec with ec|⟨_,ec,_⟩
       ·omega
       ·rw [show aj+x-aj=x by omega,m.no]at ec;cases ec
      |alloc =>
       obtain⟨SK,rfl,aC⟩:=tG dm il;refine⟨h.set (aj+i) SK,by rw [zo dm];exact aC _,?_⟩;rw [zo eo,ac,set_comm (by have:=m.lt;omega)]
      |store=>rw [eo,dm]at eh;cases eh
      |call=>rw [eo,dm]at eh;cases eh
      |gy =>
       have ao:=SJ dm;have qH:∀k∈h5 (dd dv) gp.op,k≠aj+x:=fun k sd=>JZ (by have:=m.lt;have:=m.al;omega) ao sd m.no
       have agree:∀k∈h5 (dd dv) gp.op,h.get k=(h.set (aj+x) ck).get k:=fun k sd=>(j.e1 _ _ (fun e=>qH k sd e.symm)).symm
       rcases JO dm il with ⟨aL,aQ⟩|⟨id,iV,aL,aQ,bq⟩
       ·subst aL;exact⟨h,by rw [DC dm ao];exact aQ h agree,p⟩
       ·subst aQ;refine⟨h.set id iV,by rw [DC dm ao];exact bq h agree,?_⟩
        have bZ:aj+x≠id:=by
         rcases aL with rfl|aL
         ·have:=m.lt;omega
         ·exact fun e=>qH id aL e.symm
        rw [zo eo,ac,set_comm bZ]
      |other=>rw [eo,dm]at eh;cases eh
     |call =>
      cases dm:eJ gp.op with
      |pure =>
       obtain⟨rfl,aC⟩:=nu dm il;exact⟨h,qG dm (aC _ _),p⟩
      |load =>
       obtain⟨rfl,iV,fw,aC⟩:=sb dm il;refine⟨h,tM dm (tL dm) (aC _ _ ?_),p⟩;unfold fx at p;rw [eo]at p;simp only [h3]at p
       have DE:mh ops (er ops) x=true:=by unfold mh;rw [List.any_eq_true];refine⟨i,List.mem_range.2 m.al,?_⟩;rw [kQ];simp [dm,m.no,mw]
       rw [if_pos DE]at p;split at p
       ·rename_i aq;obtain⟨DD,kR,ec⟩:=tL dm;rw [fw]at kR;simp at kR;subst kR;exact(JF aq (by rcases ec with ec|⟨ec,_,_⟩<;>omega)).symm
       ·cases p
      |alloc=>rw [eo,dm]at eh;cases eh
      |store=>rw [eo,dm]at eh;cases eh
      |call=>rw [eo,dm]at eh;cases eh
      |gy=>rw [eo,dm]at eh;cases eh
      |other=>rw [eo,dm]at eh;cases eh
     |gy =>
      cases dm:eJ gp.op with
      |pure =>
       obtain⟨rfl,aC⟩:=nu dm il;exact⟨h,qG dm (aC _ _),p⟩
      |alloc =>
       obtain⟨ck,rfl,aC⟩:=tG dm il;have ao:=SI eo;have qH:∀k∈h5 (dd dv) hG.op,k≠aj+i:=fun k sd=>JZ m.al ao sd mw
       have agree:∀k∈h5 (dd dv) hG.op,(h.set (aj+i) ck).get k=h.get k:=fun k sd=>j.e1 _ _ (fun e=>qH k sd e.symm)
       refine⟨h.set (aj+i) ck,by rw [zo dm];exact aC _,?_⟩;rw [DC eo ao];rcases JO eo h3 with ⟨aL,aQ⟩|⟨id,iV,aL,aQ,bq⟩
       ·subst aL;exact aQ _ agree
       ·subst aQ
        have bZ:aj+i≠id:=by
         rcases aL with rfl|aL
         ·have:=m.lt;omega
         ·exact fun e=>qH id aL e.symm
        rw [bq _ agree,set_comm bZ]
      |load=>rw [eo,dm]at eh;cases eh
      |store=>rw [eo,dm]at eh;cases eh
      |call=>rw [eo,dm]at eh;cases eh
      |gy=>rw [eo,dm]at eh;cases eh
      |other=>rw [eo,dm]at eh;cases eh
     |other =>
      cases dm:eJ gp.op with
      |pure =>
       obtain⟨rfl,aC⟩:=nu dm il;exact⟨h,qG dm (aC _ _),p⟩
      |load=>rw [eo,dm]at eh;cases eh
      |alloc=>rw [eo,dm]at eh;cases eh
      |store=>rw [eo,dm]at eh;cases eh
      |call=>rw [eo,dm]at eh;cases eh
      |gy=>rw [eo,dm]at eh;cases eh
      |other=>rw [eo,dm]at eh;cases eh
theorem SL{ops:Array Oper}(aB:pu ops){aj x i:Nat}(m:vU ops x i){s s1 s2:fq}(p:lK E call ops aj x s=some s1)(ae:lK E call ops aj i s1=some s2) :
 ∃t,lK E call ops aj i s=some t∧lK E call ops aj x t=some s2:=by
 have qI:x<ops.size:=by have:=m.lt;have:=m.al;omega
 have kq:ops[x]? =some ops[x]:=Array.getElem?_eq_getElem qI;have kQ:ops[i]? =some (ops[i]'m.al):=Array.getElem?_eq_getElem m.al;obtain⟨eh,zm⟩:=m.pair _ _ kq kQ;obtain⟨ap,a2,a3⟩:=apart_spec zm;rw [zk kq,Option.map_eq_some_iff]at p;obtain⟨⟨nn,af⟩,aL,rfl⟩:=p;rw [zk kQ,Option.map_eq_some_iff]at ae;obtain⟨⟨qF,aeV⟩,aQ,rfl⟩:=ae;simp only at aQ;rw [JP ap]at aQ;obtain⟨lM,g1,g2⟩:=SF aB m kq kQ aL aQ;refine⟨⟨hR s.e7 (ops[i]'m.al).dst qF,lM⟩,?_,?_⟩
 ·rw [zk kQ,g1];rfl
 ·rw [zk kq];simp only;rw [JP a2,g2];simp only [Option.map_some];rw [SD a3]
theorem front{ops:Array Oper}(aB:pu ops){aj i:Nat}{q:List Nat} :∀{I:List Nat}{s bK:fq},(∀x∈I,vU ops x i)→kh E call ops aj (I++i::q) s=some bK →
 ∃t,lK E call ops aj i s=some t∧kh E call ops aj (I++q) t=some bK
 |[],s,bK,_,h=>by
  simp only [List.nil_append,kh]at h⊢;split at h
  ·rename_i t b7;exact⟨t,b7,h⟩
  ·cases h
 |x ::I,s,bK,hm,h=>by
  simp only [List.cons_append,kh]at h;split at h
  ·rename_i s1 et;obtain⟨t,p,ae⟩:=front aB (fun y bY=>hm y (by simp [bY])) h;obtain⟨u,g1,g2⟩:=SL aB (hm x (by simp)) et p;refine⟨u,g1,?_⟩;simp only [List.cons_append,kh,g2];exact ae
  ·cases h
theorem SM{ops:Array Oper}{aj C:Nat}{s bK:fq}(h:lK E call ops aj C s=some bK):qn E call ops aj C s=some bK:=by
 unfold lK at h;unfold qn;split at h
 ·rename_i e;simp [e];simpa using h
 ·rename_i U e;split at h
  ·rename_i hw;split at h
   ·rename_i v ac aD;rw [show jm E call (aj+C) (dd s.e7) s.heap U.op=some (v,ac)from zl aD];exact h
   ·cases h
  ·exact h
  ·cases h
end
section
variable {P:Program}{ak:Map}{E:b4}
theorem SN{ops:Array Oper}(h:oc ops=true):pu ops∧∀x i,x<i→i<ops.size→ordered (er ops) x i=false→vU ops x i:=by
 unfold oc at h;simp only [List.all_eq_true,List.mem_range]at h
 have se:pu ops:=by
  intro C U ai e he av
  have aX:C<ops.size:=by
   rcases Nat.lt_or_ge C ops.size with aa|aa
   ·exact aa
   ·rw [Array.getElem?_eq_none aa]at ai;cases ai
  have:=h C aX;rw [ai]at this;simp only [Bool.and_eq_true,List.all_eq_true]at this;have:=this.1 e he;simpa [av]using this
 refine⟨se,fun x i fU al h7=>⟨fU,al,h7,fun hG gp kq kQ=> ?_⟩⟩;have:=h i al;rw [kQ]at this;simp only [Bool.and_eq_true,List.all_eq_true,List.mem_range]at this;have:=this.2 x fU;rw [h7,kq]at this;simpa using this
def gj(ops:Array Oper)(listed:Array Bool):List Nat:=(List.range ops.size).filter fun i=> !listed.getD i true
theorem J0{ops:Array Oper}{listed:Array Bool}{i:Nat}(h:i∈Region.ready .any ops listed) :
 i<ops.size∧listed.getD i true=false∧∃U,ops[i]? =some U∧∀e∈U.after.toList,iS e=true→listed.getD e.on false=true:=by
 unfold Region.ready at h;simp only [List.mem_filter,List.mem_range,Bool.and_eq_true,Bool.not_eq_true']at h;obtain⟨p,ae,bg⟩:=h;refine⟨p,ae,ops[i],Array.getElem?_eq_getElem p,fun e he av=> ?_⟩;rw [Array.getElem?_eq_getElem p]at bg;simp only [Option.map_some,Option.getD_some,Array.all_eq_true_iff_forall_mem]at bg;have:=bg e (by simpa using he);unfold iS at av;simpa [av]using this
theorem SO{ops:Array Oper}(aB:pu ops){listed:Array Bool}(eQ:listed.size=ops.size){i:Nat}{r:List Nat}(h:gj ops listed=i::r):i∈Region.ready .any ops listed:=by
 have al:i∈gj ops listed:=by rw [h];simp
 have fS:=al;unfold gj at al;simp only [List.mem_filter,List.mem_range,Bool.not_eq_true']at al;unfold Region.ready;simp only [List.mem_filter,List.mem_range,Bool.and_eq_true,Bool.not_eq_true'];refine⟨al.1,al.2,?_⟩;rw [Array.getElem?_eq_getElem al.1];simp only [Option.map_some,Option.getD_some,Array.all_eq_true_iff_forall_mem];intro e he;cases av:Region.binds .any e with
 |false=>rfl
 |true =>
  simp only [Bool.not_true,Bool.false_or];have cM:=aB i _ (Array.getElem?_eq_getElem al.1) e (by simpa using he) av;cases hle:listed.getD e.on false with
  |true=>rfl
  |false =>
   exfalso
   have iF:e.on∈gj ops listed:=by
    unfold gj;simp only [List.mem_filter,List.mem_range,Bool.not_eq_true'];refine⟨by omega,?_⟩;have pf:e.on<listed.size:=by omega
    rw [Array.getD_eq_getD_getElem?,Array.getElem?_eq_getElem pf]at hle⊢;simpa using hle
   have vV:(gj ops listed).Pairwise (· < ·):=List.Pairwise.filter _ List.pairwise_lt_range;rw [h]at vV iF;rcases List.mem_cons.1 iF with jF|jF
   ·omega
   ·have:=(List.pairwise_cons.1 vV).1 _ jF;omega
theorem SP{ops:Array Oper}{listed:Array Bool}(eQ:listed.size=ops.size){i:Nat}{I q:List Nat}(h:gj ops listed=I++i::q):gj ops (listed.setIfInBounds i true)=I++q:=by
 have h1:(gj ops listed).Nodup:=List.Pairwise.filter _ List.nodup_range;have al:i∈gj ops listed:=by rw [h];simp
 have DF:i<ops.size:=by unfold gj at al;simp only [List.mem_filter,List.mem_range]at al;exact al.1
 have bu:gj ops (listed.setIfInBounds i true)=(gj ops listed).filter fun C=>decide (C≠i):=by
  unfold gj;rw [List.filter_filter];refine List.filter_congr fun C aX=> ?_
  have vW:=List.mem_range.1 aX;by_cases pt:C=i
  ·subst pt;simp [Array.getD_eq_getD_getElem?,eQ,DF]
  ·have iB:¬i=C:=fun e=>pt e.symm
   simp [Array.getD_eq_getD_getElem?,Array.getElem?_setIfInBounds,pt,iB]
 rw [bu,h];rw [h]at h1
 have ac:∀C∈I,C≠i:=fun C aX e=>by subst e;exact(List.nodup_append.1 h1).2.2 C aX C (by simp) rfl
 have aC:∀C∈q,C≠i:=fun C aX e=>by subst e;have:=(List.nodup_append.1 h1).2.1;exact(List.nodup_cons.1 this).1 aX
 rw [List.filter_append,List.filter_cons];simp only [ne_eq,not_true_eq_false,decide_false,Bool.false_eq_true,if_false];rw [List.filter_eq_self.2 (fun C aX=>by simpa using ac C aX),List.filter_eq_self.2 (fun C aX=>by simpa using aC C aX)]
theorem SQ(cA:ho P E){bd:Nat→Prop}{bo:World}(dl:fv bd bo.heap.size){call:dZ}(fV:ns P bd bo call){ops:Array Oper}(j5:oc ops=true){aj:Nat}{Q:Exit→Act→World→Prop} :
 ∀{de:Nat}{listed:Array Bool}{s bK:fq}{a:Act}{w:World}{ak:Map},listed.size=ops.size→JM ops listed→(gj ops listed).length≤de→kh E call ops aj (gj ops listed) s=some bK →
  gJ ak bd bo s a w→(∀C∈gj ops listed,aj+C<s.heap.next∧∀v,ak (aj+C) v=none) →
  (∀cz bA bM,fh ak bM aj→gJ bM bd bo bK cz bA→s.heap.next≤bK.heap.next→Q .normal cz bA)→wpAny P .any ops Q de listed a w:=by
 intro de;obtain⟨se,SR⟩:=SN j5
 have tz:∀{listed:Array Bool}{s bK:fq}{a:Act}{w:World}{ak:Map},listed.size=ops.size→kh E call ops aj (gj ops listed) s=some bK→gJ ak bd bo s a w →
  (∀cz bA bM,fh ak bM aj→gJ bM bd bo bK cz bA→s.heap.next≤bK.heap.next→Q .normal cz bA)→Region.ready .any ops listed=[]→Q .normal a w:=by
  intro listed s bK a w ak eQ h r ao be;cases hu:gj ops listed with
  |nil =>
   rw [hu]at h;simp [kh]at h;subst h;exact ao a w ak (fh.refl _ _) r (Nat.le_refl _)
  |cons i q =>
   exfalso;have:=SO se eQ hu;rw [be]at this;cases this
 induction de with
 |zero =>
  intro listed s bK a w ak eQ hl hlen h r hid ao;have hu:gj ops listed=[]:=List.length_eq_zero_iff.1 (by omega);simp only [wpAny]
  have J1:Region.ready .any ops listed=[]:=by
   cases be:Region.ready .any ops listed with
   |nil=>rfl
   |cons i q =>
    exfalso;obtain⟨p,ae,_⟩:=J0 (by rw [be];exact List.mem_cons_self);have:i∈gj ops listed:=by unfold gj;simp only [List.mem_filter,List.mem_range,Bool.not_eq_true'];exact⟨p,ae⟩
    rw [hu]at this;cases this
  exact⟨J1,tz eQ h r ao J1⟩
 |succ de ih =>
  intro listed s bK a w ak eQ hl hlen h r hid ao;simp only [wpAny];refine⟨tz eQ h r ao,fun i al=> ?_⟩;obtain⟨p,ae,U,ai,vX⟩:=J0 al;have DG:i∈gj ops listed:=by unfold gj;simp only [List.mem_filter,List.mem_range,Bool.not_eq_true'];exact⟨p,ae⟩
  obtain⟨I,q,sf⟩:=List.append_of_mem DG;have vV:(gj ops listed).Pairwise (· < ·):=List.Pairwise.filter _ List.pairwise_lt_range
  have hm:∀x∈I,vU ops x i:=by
   intro x af;rw [sf]at vV;have cM:x<i:=(List.pairwise_append.1 vV).2.2 x af i (by simp);refine SR x i cM p ?_;cases av:ordered (er ops) x i with
   |false=>rfl
   |true =>
    exfalso;have qI:=Sx se hl i U ai vX av;have DH:x∈gj ops listed:=by rw [sf];simp [af]
    unfold gj at DH;simp only [List.mem_filter,List.mem_range,Bool.not_eq_true']at DH;have pf:x<listed.size:=by omega
    rw [Array.getD_eq_getD_getElem?,Array.getElem?_eq_getElem pf]at qI;have bg:=DH.2;rw [Array.getD_eq_getD_getElem?,Array.getElem?_eq_getElem pf]at bg;simp at qI bg;rw [qI]at bg;cases bg
  rw [sf]at h;obtain⟨t,g1,g2⟩:=front se hm h;refine JC cA dl fV r (hid i DG) (SM g1) fun cz bA bM af fG hle=> ?_
  have DI:=SP eQ sf;refine ih (listed:=listed.setIfInBounds i true) (by simpa using eQ) ?_ ?_ (by rw [DI];exact g2) fG (fun C aX=> ?_) fun r' mr sa Dn Dp Su=> ?_
  ·intro C SS aX zp e he av;by_cases oj:e.on=i
   ·rw [oj];simp [Array.getD_eq_getD_getElem?,eQ,p]
   ·have hold:listed.getD e.on false=true:=by
     by_cases pt:C=i
     ·subst pt;rw [ai]at zp;simp at zp;subst zp;exact vX e he av
     ·refine hl C SS ?_ zp e he av;have iB:¬i=C:=fun e=>pt e.symm
      simpa [Array.getD_eq_getD_getElem?,Array.getElem?_setIfInBounds,iB]using aX
    have SU:¬i=e.on:=fun dT=>oj dT.symm
    simpa [Array.getD_eq_getD_getElem?,Array.getElem?_setIfInBounds,SU]using hold
  ·rw [DI];rw [sf]at hlen;simp at hlen⊢; omega
  ·rw [DI]at aX;have SV:C∈gj ops listed:=by rw [sf];rcases List.mem_append.1 aX with aX|aX<;>simp [aX]
   have h1:(gj ops listed).Nodup:=List.Pairwise.filter _ List.nodup_range
   have pt:C≠i:=by
    rintro rfl;rw [sf]at h1;rcases List.mem_append.1 aX with aX|aX
    ·exact(List.nodup_append.1 h1).2.2 C aX C (by simp) rfl
    ·exact(List.nodup_cons.1 (List.nodup_append.1 h1).2.1).1 aX
   obtain⟨aL,aQ⟩:=hid C SV;exact⟨by omega,af.new _ aL (by omega) aQ⟩
  ·refine ao _ _ _ (fh.trans ⟨af.le,fun k kO lS=>af.new k ?_ (by omega) lS,af.ro⟩ Dn) Dp (by omega);have:=(hid i DG).1;omega
theorem SW(cA:ho P E){bd:Nat→Prop}{bo:World}(dl:fv bd bo.heap.size){call:dZ}(fV:ns P bd bo call){ops:Array Oper}(j5:oc ops=true){aj:Nat}{s bK:fq}{a:Act}{w:World}{ak:Map}
 {Q:Exit→Act→World→Prop} (h:kh E call ops aj (List.range ops.size) s=some bK) (r:gJ ak bd bo s a w) (hid:∀C,C<ops.size→aj+C<s.heap.next∧∀v,ak (aj+C) v=none)
 (ao:∀cz bA bM,fh ak bM aj→gJ bM bd bo bK cz bA→s.heap.next≤bK.heap.next→Q .normal cz bA):wpAny P .any ops Q ops.size (Array.replicate ops.size false) a w:=by
 have hu:gj ops (Array.replicate ops.size false)=List.range ops.size:=by
  unfold gj;refine List.filter_eq_self.2 fun i al=> ?_
  have:=List.mem_range.1 al;simp [Array.getD_eq_getD_getElem?,Array.getElem?_replicate,this]
 refine SQ cA dl fV j5 (by simp) ?_ (by rw [hu];simp) (by rw [hu];exact h) r (fun C aX=>by rw [hu]at aX;exact hid C (List.mem_range.1 aX)) ao;intro C U aX;simp [Array.getD_eq_getD_getElem?,Array.getElem?_replicate]at aX;split at aX<;>simp at aX
end
end
end Go.cH
namespace Go.cH
noncomputable section
open Go.RowKit
section
variable {P:Program}{ak:Map}{E:b4}
def vY:dj→Exit
 |.normal=> .normal
 |.exit id=> .exit id
 |.goto l=> .goto l
 |.ret=> .ret
theorem gJ.bump{bd:Nat→Prop}{bo w:World}{s:fq}{a:Act}(r:gJ ak bd bo s a w)(n:Nat):gJ ak bd bo ⟨s.e7,{s.heap with next:=s.heap.next+n}⟩ a w :=
 ⟨r.e7,r.heap.next (by omega),r.below,r.defers⟩
theorem gJ.drew{bd:Nat→Prop}{bo w:World}{s:fq}{a:Act}(r:gJ ak bd bo s a w):gJ ak bd bo s a w.drew :=
 ⟨r.e7,r.heap.alike (Alike.vB w),r.below.drew,r.defers⟩
theorem SX{bd:Nat→Prop}{w:World}{h:j}(r:c2 ak bd h w){i:Nat}(al:h.next≤i):∀v,ak i v=none:=by
 intro v;cases aC:ak i v with
 |none=>rfl
 |some I=>have:=(r.dB i v I aC).1;omega
theorem J2(cA:ho P E){bd:Nat→Prop}{bo w:World}(dl:fv bd bo.heap.size){call:dZ}(fV:ns P bd bo call)(eY:P.follows .mixedOrders=true){id:Nat}{ops:Array Oper}{draw:Bool}{s bK:fq}{a:Act}(r:gJ ak bd bo s a w)(h:rS E call ops draw s=some bK)
 {Q:Exit→Act→World→Prop} (ao:∀cz bA bM,fh ak bM s.heap.next→gJ bM bd bo bK cz bA→s.heap.next≤bK.heap.next→Q .normal cz bA):(Code.region id ops draw).wp P Q a w:=by
 have qE:∀C,C<ops.size→s.heap.next+C<s.heap.next+ops.size∧∀v,ak (s.heap.next+C) v=none:=fun C aX=>⟨by omega,SX r.heap (by omega)⟩
 unfold rS at h;cases draw with
 |false =>
  simp only [Bool.false_eq_true,if_false]at h;refine wp_region ?_;refine JD cA dl fV h (r.bump _) List.nodup_range (fun C aX=>qE C (List.mem_range.1 aX)) fun cz bA bM p ae bg=>ao cz bA bM p ae ?_
  simp only at bg;omega
 |true =>
  simp only [if_true]at h;split at h
  ·rename_i j5;refine wp_region_any eY ?_;refine SW cA dl fV j5 h (r.bump _).drew qE fun cz bA bM p ae bg=>ao cz bA bM p ae ?_
   simp only at bg;omega
  ·cases h
def sg(P:Program)(c:Code)(Q:Exit→Act→World→Prop)(a:Act)(w:World):Prop :=
 ∀(b:Frame)(k:List Item)(bn:List Frame),∃e cz bA,Q e cz bA∧Arrives P (lone (b.at a (.code c:: .inLoop c::k)) bn w) b k bn e cz bA
theorem J3{c:Code}{Q:Exit→Act→World→Prop}{a:Act}{w:World}(h:sg P c Q a w):(Code.loop c).wp P Q a w:=fun b k bn =>
 let ⟨e,cz,bA,q,r⟩:=h b k bn;⟨e,cz,bA,q,.of_steps (.one step_loop) r⟩
theorem DJ{c:Code}{Q:Exit→Act→World→Prop}{a:Act}{w:World}(h:c.wp P (Exit.then (sg P c Q) Q) a w):sg P c Q a w:=by
 intro b k bn;obtain⟨e,mz,mA,aC,lj⟩:=h b (.inLoop c::k) bn;cases e with
 |normal =>
  obtain⟨DK,DL,DM,DN,DO⟩:=aC b k bn;exact⟨DK,DL,DM,DN,.of_steps (Steps.trans lj (.one step_inLoop)) DO⟩
 |exit id=>exact⟨_,mz,mA,aC,.pass (x:= .inLoop c) rfl (fun _ _=> .inl (by simp)) lj⟩
 |goto l=>exact⟨_,mz,mA,aC,.pass (x:= .inLoop c) rfl (fun _ _=> .inl (by simp)) lj⟩
 |ret=>exact⟨_,mz,mA,aC,.pass (x:= .inLoop c) rfl (fun _ _=> .inl (by simp)) lj⟩
 |panic J4=>exact⟨_,mz,mA,aC,.pass (x:= .inLoop c) rfl (fun _ _=> .inl (by simp)) lj⟩
 |outgrown=>exact⟨_,mz,mA,aC,.pass (x:= .inLoop c) rfl (fun _ _=> .inl (by simp)) lj⟩
def tN(P:Program)(body c:Code)(Q:Exit→Act→World→Prop)(a:Act)(w:World):Prop :=
 ∀(b:Frame)(k:List Item)(bn:List Frame),∃e cz bA,Q e cz bA∧Arrives P (lone (b.at a (.code c:: .inScope body::k)) bn w) b k bn e cz bA
theorem J5{c:Code}{Q:Exit→Act→World→Prop}{a:Act}{w:World}(h:tN P c c Q a w):(Code.scope c).wp P Q a w:=fun b k bn =>
 let ⟨e,cz,bA,q,r⟩:=h b k bn;⟨e,cz,bA,q,.of_steps (.one step_scope) r⟩
def qJ(P:Program)(body:Code)(Q:Exit→Act→World→Prop):Exit→Act→World→Prop
 |.goto l,a,w =>
  match findLabel body l with
  |some rest=>tN P body rest Q a w
  |none=>Q (.goto l) a w
 |e,a,w=>Q e a w
theorem zq{body c:Code}{Q:Exit→Act→World→Prop}{a:Act}{w:World}(h:c.wp P (qJ P body Q) a w):tN P body c Q a w:=by
 intro b k bn;obtain⟨e,mz,mA,aC,lj⟩:=h b (.inScope body::k) bn;cases e with
 |normal=>exact⟨.normal,mz,mA,aC,Steps.trans lj (.one step_inScope)⟩
 |exit id=>exact⟨.exit id,mz,mA,aC,fun fa ao=>lj fa (by simp [exitTo,ao])⟩
 |goto l =>
  simp only [qJ]at aC;cases a6:findLabel body l with
  |some rest =>
   rw [a6]at aC;obtain⟨DK,DL,DM,DN,DO⟩:=aC b k bn;exact⟨DK,DL,DM,DN,.of_steps (lj _ (by simp [gotoIn,a6])) DO⟩
  |none =>
   rw [a6]at aC;exact⟨.goto l,mz,mA,aC,fun fa ao=>lj fa (by simp [gotoIn,a6,ao])⟩
 |ret=>exact⟨.ret,mz,mA,aC,lj⟩
 |panic J4=>exact⟨.panic J4,mz,mA,aC,lj⟩
 |outgrown=>exact⟨.outgrown,mz,mA,aC,lj⟩
def vZ(P:Program)(E:b4)(bd:Nat→Prop)(bo:World)(s bK:fq)(e:dj)(a:Act)(w:World)(pv:(Exit→Act→World→Prop)→Prop):Prop :=
 ∀{ak:Map}{Q:Exit→Act→World→Prop},gJ ak bd bo s a w→(∀cz bA bM,fh ak bM s.heap.next→gJ bM bd bo bK cz bA→s.heap.next≤bK.heap.next→Q (vY e) cz bA)→pv Q
theorem SY(cA:ho P E){bd:Nat→Prop}{bo:World}(dl:fv bd bo.heap.size){call:dZ}(fV:ns P bd bo call)(eY:P.follows .mixedOrders=true):∀(n:Nat),
 (∀{c:Code}{s bK:fq}{e:dj}{a:Act}{w:World},e8 E call n none c s=some (e,bK)→vZ P E bd bo s bK e a w fun Q=>c.wp P Q a w) ∧
 (∀{c:Code}{s bK:fq}{e:dj}{a:Act}{w:World},e8 E call n none (.loop c) s=some (e,bK)→vZ P E bd bo s bK e a w fun Q=>sg P c Q a w) ∧
 (∀{b c:Code}{s bK:fq}{e:dj}{a:Act}{w:World},e8 E call n (some b) c s=some (e,bK)→vZ P E bd bo s bK e a w fun Q=>tN P b c Q a w):=by
 intro n;induction n with
 |zero=>refine⟨?_,?_,?_⟩<;>(intros;simp_all [e8])
 |succ n ih =>
  obtain⟨sh,DP,J6⟩:=ih
  have zr:∀{c:Code}{s bK:fq}{e:dj}{a:Act}{w:World},e8 E call (n+1) none (.loop c) s=some (e,bK)→vZ P E bd bo s bK e a w fun Q=>sg P c Q a w:=by
   intro c s bK e a w h ak Q r ao;simp only [e8]at h;refine DJ ?_;cases p:e8 E call n none c s with
   |none=>simp [p]at h
   |some I =>
    obtain⟨bu,s1⟩:=I;rw [p]at h;refine sh p r fun cz bA bM g1 g2 g3=> ?_
    cases bu with
    |normal =>
     simp only at h;show sg P c Q cz bA;exact DP h g2 fun r' mr sa aL aQ bq=>ao r' mr sa (g1.trans (aL.mono g3)) aQ (by omega)
    |exit id=>simp at h;obtain⟨rfl,rfl⟩:=h;exact ao cz bA bM g1 g2 g3
    |goto id=>simp at h;obtain⟨rfl,rfl⟩:=h;exact ao cz bA bM g1 g2 g3
    |ret=>simp at h;obtain⟨rfl,rfl⟩:=h;exact ao cz bA bM g1 g2 g3
  have SZ:∀{b c:Code}{s bK:fq}{e:dj}{a:Act}{w:World},e8 E call (n+1) (some b) c s=some (e,bK)→vZ P E bd bo s bK e a w fun Q=>tN P b c Q a w:=by
   intro b c s bK e a w h ak Q r ao;simp only [e8]at h;refine zq ?_;cases p:e8 E call n none c s with
   |none=>simp [p]at h
   |some I =>
    obtain⟨bu,s1⟩:=I;rw [p]at h;refine sh p r fun cz bA bM g1 g2 g3=> ?_
    cases bu with
    |normal=>simp at h;obtain⟨rfl,rfl⟩:=h;exact ao cz bA bM g1 g2 g3
    |exit id=>simp at h;obtain⟨rfl,rfl⟩:=h;exact ao cz bA bM g1 g2 g3
    |goto l =>
     simp only at h;show qJ P b Q (.goto l) cz bA;simp only [qJ];cases a6:findLabel b l with
     |some rest =>
      rw [a6]at h;exact J6 h g2 fun r' mr sa aL aQ bq=>ao r' mr sa (g1.trans (aL.mono g3)) aQ (by omega)
     |none =>
      rw [a6]at h;simp at h;obtain⟨rfl,rfl⟩:=h;exact ao cz bA bM g1 g2 g3
    |ret=>simp at h;obtain⟨rfl,rfl⟩:=h;exact ao cz bA bM g1 g2 g3
  refine⟨?_,zr,SZ⟩;intro c s bK e a w h ak Q r ao;cases c with
  |skip=>simp [e8]at h;obtain⟨rfl,rfl⟩:=h;exact wp_skip (ao a w ak (fh.refl _ _) r (Nat.le_refl _))
  |label l=>simp [e8]at h;obtain⟨rfl,rfl⟩:=h;exact wp_label (ao a w ak (fh.refl _ _) r (Nat.le_refl _))
  |region id ops draw =>
   simp only [e8,Option.map_eq_some_iff,Prod.mk.injEq]at h;obtain⟨s1,p,rfl,rfl⟩:=h;exact J2 cA dl fV eY r p ao
  |seq x y =>
   simp only [e8]at h;refine wp_seq ?_;cases p:e8 E call n none x s with
   |none=>simp [p]at h
   |some I =>
    obtain⟨bu,s1⟩:=I;rw [p]at h;refine sh p r fun cz bA bM g1 g2 g3=> ?_
    cases bu with
    |normal =>
     simp only at h;show y.wp P Q cz bA;exact sh h g2 fun r' mr sa aL aQ bq=>ao r' mr sa (g1.trans (aL.mono g3)) aQ (by omega)
    |exit id=>simp at h;obtain⟨rfl,rfl⟩:=h;exact ao cz bA bM g1 g2 g3
    |goto id=>simp at h;obtain⟨rfl,rfl⟩:=h;exact ao cz bA bM g1 g2 g3
    |ret=>simp at h;obtain⟨rfl,rfl⟩:=h;exact ao cz bA bM g1 g2 g3
  |cond x y z =>
   simp only [e8]at h;have af:=r.eval x;split at h
   ·rename_i av;rw [av]at af;simp only [aK]at af;exact wp_cond_true af (sh h r ao)
   ·rename_i av;rw [av]at af;simp only [aK]at af;exact wp_cond_false af (sh h r ao)
   ·cases h
  |block id c =>
   simp only [e8]at h;refine wp_block ?_;cases p:e8 E call n none c s with
   |none=>simp [p]at h
   |some I =>
    obtain⟨bu,s1⟩:=I;rw [p]at h;refine sh p r fun cz bA bM g1 g2 g3=> ?_
    cases bu with
    |normal=>simp at h;obtain⟨rfl,rfl⟩:=h;exact ao cz bA bM g1 g2 g3
    |exit C =>
     simp at h;obtain⟨rfl,rfl⟩:=h;simp only [vY,Exit.inBlock];by_cases aX:C=id
     ·rw [if_pos aX]at ao⊢; exact ao cz bA bM g1 g2 g3
     ·rw [if_neg aX]at ao⊢; exact ao cz bA bM g1 g2 g3
    |goto l=>simp at h;obtain⟨rfl,rfl⟩:=h;exact ao cz bA bM g1 g2 g3
    |ret=>simp at h;obtain⟨rfl,rfl⟩:=h;exact ao cz bA bM g1 g2 g3
  |loop c=>exact J3 (zr h r ao)
  |scope c =>
   simp only [e8]at h;exact J5 (J6 h r ao)
  |goto l=>simp [e8]at h;obtain⟨rfl,rfl⟩:=h;exact wp_goto (ao a w ak (fh.refl _ _) r (Nat.le_refl _))
  |exit id=>simp [e8]at h;obtain⟨rfl,rfl⟩:=h;exact wp_exit (ao a w ak (fh.refl _ _) r (Nat.le_refl _))
  |ret=>simp [e8]at h;obtain⟨rfl,rfl⟩:=h;exact wp_ret (ao a w ak (fh.refl _ _) r (Nat.le_refl _))
  |rangeFunc f eL x y=>simp [e8]at h
  |refuse w=>simp [e8]at h
theorem DQ(b5:E.D.dr P){bd:Nat→Prop}{bo w:World}{s:fq}{a:Act}(r:gJ ak bd bo s a w):∀{dR:List ResultVar}{l:List o},jo E.D dR s=some l →
 ∃cd,(dR.mapM (fun(x:ResultVar)=>(match x with|.tmp t=>pure (a.tmps.getD t undef)|.cell b t=>do loadVar t (←asAddr (a.tmps.getD b undef)):Sem Value))).run P w=.ok cd w∧bG ak l cd
 |[],l,h=>by simp [jo]at h;subst h;exact⟨[],rfl,by simp [bG]⟩
 |.tmp t::dR,l,h=>by
  simp only [jo,Option.map_eq_some_iff]at h;obtain⟨m,p,rfl⟩:=h;obtain⟨cd,aL,aQ⟩:=DQ b5 r p;refine⟨a.tmps.getD t undef::cd,?_,?_⟩
  ·simp only [List.mapM_cons,Sem.run_bind,Sem.run_pure,Result.andThen_ok,aL]
  ·simp only [bG];exact⟨_,_,rfl,r.e7.Dl t,aQ⟩
 |.cell b t::dR,l,h=>by
  simp only [jo]at h;split at h
  ·rename_i I ac;split at h
   ·rename_i v m p ae;simp at h;subst h;obtain⟨cd,aL,aQ⟩:=DQ b5 r ae;have av:=r.e7.Dl b;rw [ac]at av;obtain⟨bp,g1,g2⟩:=I1 b5 r.heap av p;simp only [aK]at av;obtain⟨fI,J7,oo⟩:=av;rw [J7]at g1;simp only [Instr.loadAt,Instr.sureAddr,Sem.run_bind,Sem.run_pure,Result.andThen_ok]at g1;refine⟨bp::cd,?_,?_⟩
    ·have eA:(asAddr (a.tmps.getD b undef)).run P w=.ok fI w:=by rw [J7];rfl
     simp only [List.mapM_cons,Sem.run_bind,eA,Sem.run_pure,Result.andThen_ok,g1,aL]
    ·simp only [bG];exact⟨_,_,rfl,g2,aQ⟩
   ·cases h
  ·cases h
theorem J8(b5:E.D.dr P){bd:Nat→Prop}{bo w:World}{s:fq}{a:Act}(r:gJ ak bd bo s a w){fn:Func}{l:List o}(h:jo E.D fn.results.toList s=some l) :
 ∃bp,(results fn a.tmps).run P w=.ok bp w∧aK ak (mi l) bp:=by
 obtain⟨cd,p,ae⟩:=DQ b5 r h
 have hm:(fn.results.mapM (fun(x:ResultVar)=>(match x with|.tmp t=>pure (a.tmps.getD t undef)|.cell b t=>do loadVar t (←asAddr (a.tmps.getD b undef)):Sem Value))).run P w=.ok cd.toArray w:=by rw [←Array.toArray_toList (xs:=fn.results)];simp only [List.mapM_toArray,Sem.run_map,p,Result.andThen_ok]
 have hlen:=ae.length;by_cases DR:l.length=1
 ·obtain⟨x,rfl⟩:=List.length_eq_one_iff.1 DR;obtain⟨y,rfl⟩:=List.length_eq_one_iff.1 (by rw [hlen,DR]);refine⟨y,?_,?_⟩
  ·unfold results;rw [Sem.run_bind]
   erw [hm]
   rfl
  ·simp only [bG]at ae;obtain⟨v,t,e,bg,bO⟩:=ae;simp at e;obtain⟨rfl,rfl⟩:=e;exact bg
 ·refine⟨.tuple cd.toArray,?_,?_⟩
  ·unfold results;rw [Sem.run_bind]
   erw [hm]
   simp only [Result.andThen_ok,Sem.run_pure];rw [dif_neg (by simp;omega)]
  ·have:mi l=.tuple l:=by
    unfold mi;split
    ·simp at DR
    ·rfl
   rw [this];simp only [aK];exact⟨_,rfl,by simpa using ae⟩
theorem S0(cA:ho P E){bd:Nat→Prop}{bo:World}(dl:fv bd bo.heap.size)(fK:E.cond bd bo)(eY:P.follows .mixedOrders=true):∀n,ns P bd bo (mj P E n):=by
 intro n;induction n with
 |zero=>intro f args h v aa ar;simp [mj]at ar
 |succ n ih =>
  intro f args h v aa ar ak w dD ep c1 eA;simp only [mj]at ar;split at ar
  ·rename_i g ah;exact cA.Jn f g ah bd bo dl fK args h v aa ar ak w dD ep c1 eA
  ·rename_i jH;split at ar
   ·rename_i fn o';split at ar
    ·rename_i c zf;refine⟨⟨fn,c,o',zf⟩,?_⟩;refine calls_of_wp o' zf ?_;have hlen:dD.size=args.length:=by have:=eA.length;rwa [Array.length_toList]at this
     have r:gJ ak bd bo ⟨args++List.replicate (fn.ntmps-args.length) gf,h⟩ {tmps:=dD++Array.replicate (fn.ntmps-dD.size) undef,defers:=[]} w:=by refine⟨?_,ep,c1,rfl⟩;simp only [Array.toList_append,Array.toList_replicate,hlen];exact eA.append (bG.replicate (aK.gf ak) _)
     cases af:e8 E (mj P E n) n none c ⟨args++List.replicate (fn.ntmps-args.length) gf,h⟩with
     |none=>simp [af]at ar
     |some I =>
      obtain⟨e,s⟩:=I;rw [af]at ar
      have fin:∀cz bA bM,fh ak bM h.next→gJ bM bd bo s cz bA→h.next≤s.heap.next→ ∀{l},jo E.D fn.results.toList s=some l→v=mi l→aa=s.heap →
       cz.defers=[]∧∃J9,(results fn cz.tmps).run P bA=.ok J9 bA∧∃bp bM,Ending.returned J9=.returned bp∧fh ak bM h.next∧aK bM v bp∧c2 bM bd aa bA∧Safe bd bo bA∧h.next≤aa.next:=by
       intro cz bA bM g1 g2 g3 l aB a' bQ;subst a' bQ;obtain⟨bp,aL,aQ⟩:=J8 cA.hS g2 aB;exact⟨g2.defers,bp,aL,bp,bM,rfl,g1,aQ,g2.heap,g2.below,g3⟩
      refine(SY cA dl ih eY n).1 af r fun cz bA bM g1 g2 g3=> ?_
      cases e with
      |normal =>
       simp only [Option.map_eq_some_iff,Prod.mk.injEq]at ar;obtain⟨l,aB,p,ae⟩:=ar;exact fin cz bA bM g1 g2 g3 aB p.symm ae.symm
      |ret =>
       simp only [Option.map_eq_some_iff,Prod.mk.injEq]at ar;obtain⟨l,aB,p,ae⟩:=ar;exact fin cz bA bM g1 g2 g3 aB p.symm ae.symm
      |exit id=>simp at ar
      |goto id=>simp at ar
    ·cases ar
   ·cases ar
end
end
end Go.cH
namespace Go.cH
noncomputable section
open Go.RowKit
section
variable {P:Program}{E:b4}
def S1:Map:=fun _ _=>none
theorem c2.empty(bd:Nat→Prop)(w:World)(n:Nat):c2 S1 bd ⟨n,.nil⟩ w where
 dB i v I h:=by cases h
 apart i v I C u q h:=by cases h
 same i v I u q h:=by cases h
theorem dI.S2(P:Program):dI.dr (yH P) P:=fun _ _ h=>h
theorem S3{P:Program}(h:(P.funcs.toList.all fun fn=> !(fn.name == "runtime.NumGoroutine"))=true):∀(f:Nat) fn,P.funcs[f]? =some fn→(fn.name == "runtime.NumGoroutine")=false:=by
 intro f fn a6
 have hm:fn∈P.funcs.toList:=by rw [←Array.getElem?_toList]at a6;exact List.mem_of_getElem? a6
 have:=List.all_eq_true.1 h fn hm;simpa using this
theorem S4{P:Program}{E:b4}(h:(E.eqs.all fun t=>CC P t)=true):∀t,E.ie t=true→qt P t:=by intro t b7;exact List.all_eq_true.1 h t (by simpa [b4.ie]using b7)
end
end
end Go.cH
namespace Go.cH
noncomputable section
open Go.RowKit
def bH.bc(r:Nat→Nat)(a:bH):bH:= {a with id:=r a.id}
mutual
def o.bc(r:Nat→Nat):o→o
 |.ptr (some a)=> .ptr (some (a.bc r))
 |.slice (some a) n c=> .slice (some (a.bc r)) n c
 |.func fn f c=> .func fn (o.gz r f) (o.gz r c)
 |.iface t v=> .iface t (o.bc r v)
 |.agg bn=> .agg (o.gz r bn)
 |.tuple cd=> .tuple (o.gz r cd)
 |.undef=> .undef
 |.bool b=> .bool b
 |.int k n=> .int k n
 |.str s=> .str s
 |.ptr none=> .ptr none
 |.slice none n c=> .slice none n c
 |.nilFunc=> .nilFunc
 |.nilIface=> .nilIface
def o.gz(r:Nat→Nat):List o→List o
 |[]=> []
 |a::l=>o.bc r a::o.gz r l
end
theorem o.zs(r:Nat→Nat):∀(l:List o),o.gz r l=l.map (o.bc r)
 |[]=>rfl
 |a::l=>by simp [o.gz,o.zs r l]
mutual
def cv(D:Nat→Prop):o→Prop
 |.ptr (some a)=>D a.id
 |.slice (some a) _ _=>D a.id
 |.func _ f c=>fo D f∧fo D c
 |.iface _ v=>cv D v
 |.agg bn=>fo D bn
 |.tuple cd=>fo D cd
 |.undef=>True
 |.bool _=>True
 |.int _ _=>True
 |.str _=>True
 |.ptr none=>True
 |.slice none _ _=>True
 |.nilFunc=>True
 |.nilIface=>True
def fo(D:Nat→Prop):List o→Prop
 |[]=>True
 |a::l=>cv D a∧fo D l
end
theorem qK{D:Nat→Prop} :∀{l:List o},fo D l↔ ∀a∈l,cv D a
 |[]=>by simp [fo]
 |a::l=>by simp [fo,qK (l:=l)]
mutual
theorem aK.bc{ak c0:Map}{r:Nat→Nat}(h:∀i v I,ak i v=some I→c0 (r i) v=some I):∀{a:o}{v:Value},aK ak a v→aK c0 (a.bc r) v
 |.undef,_,_=>by simp [aK,o.bc]
 |.bool b,v,k=>by simpa [aK,o.bc]using k
 |.int _ n,v,k=>by simpa [aK,o.bc]using k
 |.str s,v,k=>by simpa [aK,o.bc]using k
 |.ptr none,v,k=>by simpa [aK,o.bc]using k
 |.ptr (some a),v,k=>by simp only [aK,o.bc]at k⊢;obtain⟨x,e,I,ac,q⟩:=k;exact⟨x,e,I,h _ _ _ ac,q⟩
 |.slice none len cap,v,k=>by simpa [aK,o.bc]using k
 |.slice (some a) len cap,v,k=>by
  simp only [aK,o.bc]at k⊢;obtain⟨x,c,e,eC,ci,q⟩:=k;refine⟨x,c,e,eC,ci,?_⟩;rcases q with ⟨a6,I,ac,q⟩|⟨f,a6,I,ac,q⟩
  ·exact .inl ⟨a6,I,h _ _ _ ac,q⟩
  ·exact .inr ⟨f,a6,I,h _ _ _ ac,q⟩
 |.func fn f c,v,k=>by simp only [aK,o.bc]at k⊢;obtain⟨gb,fr,e,fM,jE⟩:=k;exact⟨gb,fr,e,bG.bc h fM,bG.bc h jE⟩
 |.nilFunc,v,k=>by simpa [aK,o.bc]using k
 |.iface t a,v,k=>by simp only [aK,o.bc]at k⊢;obtain⟨x,e,q⟩:=k;exact⟨x,e,aK.bc h q⟩
 |.nilIface,v,k=>by simpa [aK,o.bc]using k
 |.agg bn,v,k=>by simp only [aK,o.bc]at k⊢;obtain⟨x,e,q⟩:=k;exact⟨x,e,bG.bc h q⟩
 |.tuple bn,v,k=>by simp only [aK,o.bc]at k⊢;obtain⟨x,e,q⟩:=k;exact⟨x,e,bG.bc h q⟩
theorem bG.bc{ak c0:Map}{r:Nat→Nat}(h:∀i v I,ak i v=some I→c0 (r i) v=some I):∀{l:List o}{t:List Value},bG ak l t→bG c0 (o.gz r l) t
 |[],t,k=>by simpa [bG,o.gz]using k
 |a::l,t,k=>by simp only [bG,o.gz]at k⊢;obtain⟨v,fu,e,aL,aQ⟩:=k;exact⟨v,fu,e,aK.bc h aL,bG.bc h aQ⟩
end
mutual
theorem aK.lk{ak c0:Map}{r:Nat→Nat}{D:Nat→Prop}(h:∀i,D i→ ∀v I,c0 (r i) v=some I→ak i v=some I):∀{a:o}{v:Value},cv D a→aK c0 (a.bc r) v→aK ak a v
 |.undef,_,_,_=>by simp [aK]
 |.bool b,v,_,k=>by simpa [aK,o.bc]using k
 |.int _ n,v,_,k=>by simpa [aK,o.bc]using k
 |.str s,v,_,k=>by simpa [aK,o.bc]using k
 |.ptr none,v,_,k=>by simpa [aK,o.bc]using k
 |.ptr (some a),v,c,k=>by simp only [aK,o.bc,cv]at k c⊢;obtain⟨x,e,I,ac,q⟩:=k;exact⟨x,e,I,h _ c _ _ ac,q⟩
 |.slice none len cap,v,_,k=>by simpa [aK,o.bc]using k
 |.slice (some a) len cap,v,kr,k=>by
  simp only [aK,o.bc,cv]at k kr⊢;obtain⟨x,c,e,eC,ci,q⟩:=k;refine⟨x,c,e,eC,ci,?_⟩;rcases q with ⟨a6,I,ac,q⟩|⟨f,a6,I,ac,q⟩
  ·exact .inl ⟨a6,I,h _ kr _ _ ac,q⟩
  ·exact .inr ⟨f,a6,I,h _ kr _ _ ac,q⟩
 |.func fn f c,v,kr,k=>by simp only [aK,o.bc,cv]at k kr⊢;obtain⟨gb,fr,e,fM,jE⟩:=k;exact⟨gb,fr,e,bG.lk h kr.1 fM,bG.lk h kr.2 jE⟩
 |.nilFunc,v,_,k=>by simpa [aK,o.bc]using k
 |.iface t a,v,kr,k=>by simp only [aK,o.bc,cv]at k kr⊢;obtain⟨x,e,q⟩:=k;exact⟨x,e,aK.lk h kr q⟩
 |.nilIface,v,_,k=>by simpa [aK,o.bc]using k
 |.agg bn,v,kr,k=>by simp only [aK,o.bc,cv]at k kr⊢;obtain⟨x,e,q⟩:=k;exact⟨x,e,bG.lk h kr q⟩
 |.tuple bn,v,kr,k=>by simp only [aK,o.bc,cv]at k kr⊢;obtain⟨x,e,q⟩:=k;exact⟨x,e,bG.lk h kr q⟩
theorem bG.lk{ak c0:Map}{r:Nat→Nat}{D:Nat→Prop}(h:∀i,D i→ ∀v I,c0 (r i) v=some I→ak i v=some I):∀{l:List o}{t:List Value},fo D l→bG c0 (o.gz r l) t→bG ak l t
 |[],t,_,k=>by simpa [bG,o.gz]using k
 |a::l,t,c,k=>by simp only [bG,o.gz,fo]at k c⊢;obtain⟨v,fu,e,aL,aQ⟩:=k;exact⟨v,fu,e,aK.lk h c.1 aL,bG.lk h c.2 aQ⟩
end
def J.bc(r:Nat→Nat)(b:J):J:= {b with bi:=b.bi.map (o.bc r)}
theorem J.J'(r:Nat→Nat)(b:J)(v:Nat):(b.bc r).cE v=b.cE v:=by show(if v=b.R then(b.bi.map (o.bc r)).length else if b.fQ≤v∧v<b.R then b.gF else 0)=b.cE v;rw [List.length_map];rfl
theorem o.zt(r:Nat→Nat)(e:o):(e.bc r).cells=e.cells.map (o.bc r):=by
 cases e with
 |ptr U=>cases U<;>simp [o.bc,o.cells]
 |slice U n c=>cases U<;>simp [o.bc,o.cells]
 |agg l=>simp [o.bc,o.cells,o.zs]
 |_=>simp [o.bc,o.cells]
theorem Row.bc{ak c0:Map}{r:Nat→Nat}(h:∀i v I,ak i v=some I→c0 (r i) v=some I){S T:Nat→Prop}{b:J}{v:Nat}{I:Place}{w:World}(k:Row ak S b v I w)(ll:I.ro=false→ ¬T I.ck):Row c0 T (b.bc r) v I w where
 ck:=k.ck
 base:=ll
 cells:=k.cells
 free:=k.free
 mark:=k.mark
 jp:=k.jp
 cont i e p ae bg:=by rw [J.J']at ae;simp only [J.bc,List.getElem?_map,Option.map_eq_some_iff]at bg;obtain⟨b',bg,rfl⟩:=bg;obtain⟨aL,aQ,bq⟩:=k.cont i b' p ae bg;refine⟨by rw [o.zt,List.length_map];exact aL,aQ,fun C bS af=> ?_⟩;rw [o.zt,List.getElem?_map,Option.map_eq_some_iff]at af;obtain⟨jB,af,rfl⟩:=af;obtain⟨x,g1,g2,g3⟩:=bq C jB af;exact⟨x,g1,aK.bc h g2,g3⟩
theorem cv.cells{D:Nat→Prop}{e:o}(h:cv D e):∀x∈e.cells,cv D x:=by
 intro x af;cases e with
 |agg l=>simp only [cv]at h;exact qK.1 h x (by simpa [o.cells]using af)
 |ptr U=>cases U<;>(simp only [o.cells,List.mem_singleton]at af;subst af;exact h)
 |slice U n c=>cases U<;>(simp only [o.cells,List.mem_singleton]at af;subst af;exact h)
 |_=>simp only [o.cells,List.mem_singleton]at af;subst af;exact h
theorem Row.lk{ak c0:Map}{r:Nat→Nat}{D:Nat→Prop}(h:∀i,D i→ ∀v I,c0 (r i) v=some I→ak i v=some I){S T:Nat→Prop}{b:J}{v:Nat}{I:Place}{w:World}(ar:∀e∈b.bi,cv D e)(k:Row c0 S (b.bc r) v I w)
 (ll:I.ro=false→ ¬T I.ck):Row ak T b v I w where
 ck:=k.ck
 base:=ll
 cells:=k.cells
 free:=k.free
 mark:=k.mark
 jp:=k.jp
 cont i e p ae bg:=by
  have S5:(b.bc r).bi[i]? =some (e.bc r):=by simp [J.bc,bg]
  obtain⟨aL,aQ,bq⟩:=k.cont i (e.bc r) p (by rw [J.J'];exact ae) S5;rw [o.zt,List.length_map]at aL;refine⟨aL,aQ,fun C bS af=> ?_⟩;obtain⟨x,g1,g2,g3⟩:=bq C (bS.bc r) (by rw [o.zt,List.getElem?_map,af];rfl);exact⟨x,g1,aK.lk h ((ar e (List.mem_of_getElem? bg)).cells bS (List.mem_of_getElem? af)) g2,g3⟩
theorem Row.at{ak c0:Map}(h:ak.le c0){S:Nat→Prop}{b:J}{v:Nat}{I:Place}{w bA:World}(k:Row ak S b v I w)(aq:w.heap.size≤bA.heap.size)(av:bA.heap[I.ck]? =w.heap[I.ck]?):Row c0 S b v I bA where
 ck:=Nat.lt_of_lt_of_le k.ck aq
 base:=k.base
 cells U ai:=by have:=k.cells U ai;simp only [World.cell?,av]at this⊢; exact this
 free be U ai:=by have:=k.free be U ai;simp only [World.frozen?,av]at this⊢; exact this
 mark be:=(k.mark be).of_eq (rT av)
 jp t b7:=by rw [rT av];exact k.jp t b7
 cont i e p ae bg:=by obtain⟨aL,aQ,bq⟩:=k.cont i e p ae bg;refine⟨aL,aQ,fun C bS af=> ?_⟩;obtain⟨x,g1,g2,g3⟩:=bq C bS af;refine⟨x,?_,aK.mono h g2,g3⟩;simp only [World.cell?,Place.at,av]at g1⊢; exact g1
def In(h:j)(i:Nat):Prop:=(h.get i).isSome=true
structure zu(r:Nat→Nat)(h H:j):Prop where
 get:∀i b,h.get i=some b→i<h.next∧H.get (r i)=some (b.bc r)
 inj:∀i C,In h i→In h C→r i=r C→i=C
 e2:∀i b,h.get i=some b→ ∀e∈b.bi,cv (In h) e
open Classical in
def iG(c0:Map)(r:Nat→Nat)(h:j):Map:=fun i v=>if In h i then c0 (r i) v else none
theorem lm{c0:Map}{r:Nat→Nat}{h:j}{i v:Nat}{I:Place}(k:iG c0 r h i v=some I):In h i∧c0 (r i) v=some I:=by
 unfold iG at k;split at k
 ·rename_i al;exact⟨al,k⟩
 ·cases k
theorem pw{c0:Map}{r:Nat→Nat}{h:j}{i v:Nat}(al:In h i):iG c0 r h i v=c0 (r i) v:=by unfold iG;rw [if_pos al]
theorem c2.iG{c0:Map}{S T:Nat→Prop}{H h:j}{w:World}{r:Nat→Nat}(k:c2 c0 S H w)(hw:zu r h H)(ll:∀i v I,iG c0 r h i v=some I→I.ro=false→ ¬T I.ck):c2 (iG c0 r h) T h w where
 dB i v I ac:=by obtain⟨al,aC⟩:=lm ac;obtain⟨b,av⟩:=Option.isSome_iff_exists.1 al;obtain⟨p,ae⟩:=hw.get i b av;obtain⟨aL,B,aQ,bq,hk,ij,mo,Dj,vF⟩:=k.dB _ _ _ aC;rw [ae]at aQ;simp only [Option.some.injEq]at aQ;subst aQ;exact⟨p,b,av,bq,hk,ij,mo,Dj,vF.lk (fun i al v I ac=>by rw [pw al];exact ac) (hw.e2 i b av) (ll i v I ac)⟩
 apart i v I C u q ac aC av bZ:=by obtain⟨al,ei⟩:=lm ac;obtain⟨aX,eE⟩:=lm aC;exact k.apart _ _ _ _ _ _ ei eE av fun e=>bZ (hw.inj i C al aX e)
 same i v I u q ac aC av:=by obtain⟨al,ei⟩:=lm ac;obtain⟨_,eE⟩:=lm aC;exact k.same _ _ _ _ _ ei eE av
class j6 (cb:(Nat→Prop)→World→Prop):Prop where
 mono:∀{bd v7:Nat→Prop}{bo w:World},fv bd bo.heap.size→cb bd bo→Safe bd bo w→(∀x,bd x→v7 x)→cb v7 w
def aI(P:Program)(cb:(Nat→Prop)→World→Prop)(f:FuncId)(args:List o)(h:j)(v:o)(aa:j):Prop :=
 ∀(bd:Nat→Prop)(bo:World),fv bd bo.heap.size→cb bd bo→ ∀(ak:Map)(w:World)(dD:Array Value),c2 ak bd h w→Safe bd bo w→bG ak args dD.toList →
  (∃fn c,P.funcs[f]? =some fn∧fn.body=some c) ∧
  Calls P f dD w fun e bA=> ∃bp bM,e=.returned bp∧fh ak bM h.next∧aK bM v bp∧c2 bM bd aa bA∧Safe bd bo bA∧h.next≤aa.next
theorem aI.S6{P:Program}{cb:(Nat→Prop)→World→Prop}{f:FuncId}{g:yL}(k:Dg P cb f g){args:List o}{h aa:j}{v:o}(ah:g args h=some (v,aa)):aI P cb f args h v aa :=
 fun bd bo dl fK ak w dD ep c1 eA=>k bd bo dl fK args h v aa ah ak w dD ep c1 eA
theorem aI.tO{P:Program}{E:b4}(cA:ho P E)(eY:P.follows .mixedOrders=true){n:Nat}{f:FuncId}{args:List o}{h aa:j}{v:o}(ar:mj P E n f args h=some (v,aa)):aI P E.cond f args h v aa :=
 fun bd bo dl fK ak w dD ep c1 eA=>S0 cA dl fK eY n f args h v aa ar ak w dD ep c1 eA
open Classical in
def push(c0 bM:Map)(r:Nat→Nat):Map:=fun C u=>if k:∃i I,r i=C∧bM i u=some I then bM k.choose u else c0 C u
theorem aI.frame{P:Program}{cb:(Nat→Prop)→World→Prop}[S7:j6 cb]{f:FuncId}{args:List o}{h aa:j}{v:o}(k:aI P cb f args h v aa){r:Nat→Nat}{H aR:j}(hw:zu r h H)(gx:fo (In h) args)
 (fb:∀i,h.next≤i→r i=H.next+(i-h.next)) (eT:∀i b,aa.get i=some b→(In h i∨h.next≤i)→aR.get (r i)=some (b.bc r)) (qL:aR.next=H.next+(aa.next-h.next))
 (jr:∀C,C<H.next→(∀i,In h i→r i≠C)→aR.get C=H.get C):aI P cb f (args.map (o.bc r)) H (v.bc r) aR:=by
 intro S bo cq v8 c0 w dD ep si eA
 let ak:=iG c0 r h
 let v':Nat→Prop:=fun x=>S x∨(x<w.heap.size∧∀i v I,ak i v=some I→I.ro=false→I.ck≠x)
 have se:fv v' w.heap.size:=by
  rintro x (af|af)
  ·exact Nat.lt_of_lt_of_le (cq x af) si.size
  ·exact af.1
 have S8:∀i v I,ak i v=some I→I.ro=false→ ¬v' I.ck:=by
  rintro i v I ac eR (af|af)
  ·obtain⟨_,aC⟩:=lm ac;obtain⟨_,B,_,_,_,_,_,_,sj⟩:=ep.dB _ _ _ aC;exact sj.base eR af
  ·exact af.2 i v I ac eR rfl
 have wa:c2 ak v' h w:=ep.iG hw S8
 have DS:bG ak args dD.toList:=by rw [←o.zs]at eA;exact bG.lk (fun i al v I ac=>by show iG c0 r h i v=some I;rw [pw al];exact ac) gx eA
 obtain⟨av,ar⟩:=k v' w se (S7.mono cq v8 si fun x af=> .inl af) ak w dD wa (Safe.refl _ _) DS;refine⟨av,ar.mono fun e bA ⟨bp,bM,he,nw,a',be,aq,aM⟩=> ?_⟩
 have sk:∀i u I,bM i u=some I→(In h i∧r i<H.next)∨h.next≤i:=by
  intro i u I ac;by_cases al:i<h.next
  ·by_cases iF:In h i
   ·left;refine⟨iF,?_⟩;by_cases hex:∃Ka yz,ak i Ka=some yz
    ·obtain⟨Ka,yz,bm⟩:=hex;exact(ep.dB _ _ _ (lm bm).2).1
    ·have:=nw.new i al (fun u=>by
      cases aC:ak i u with
      |none=>rfl
      |some q=>exact absurd ⟨u,q,aC⟩ hex) u
     rw [this]at ac;cases ac
   ·have:=nw.new i al (fun u=>by show iG c0 r h i u=none;unfold cH.iG;rw [if_neg iF]) u;rw [this]at ac;cases ac
  ·exact .inr (by omega)
 have qM:∀i C u t I q,bM i u=some I→bM C t=some q→r i=r C→i=C:=by
  intro i C u t I q ac aC e;rcases sk i u I ac with ⟨al,DT⟩|al<;>rcases sk C t q aC with ⟨aX,aeW⟩|aX
  ·exact hw.inj i C al aX e
  ·rw [fb C aX]at e;omega
  ·rw [fb i al]at e;omega
  ·rw [fb i al,fb C aX]at e;omega
 have dK:∀i u I,bM i u=some I→push c0 bM r (r i) u=some I:=by
  intro i u I ac;have hex:∃fe ln,r fe=r i∧bM fe u=some ln:=⟨i,I,rfl,ac⟩
  unfold push;rw [dif_pos hex];obtain⟨ln,bu,bC⟩:=hex.choose_spec;rw [qM _ _ _ _ _ _ bC ac bu];exact ac
 have dL:∀C u,(¬∃i I,r i=C∧bM i u=some I)→push c0 bM r C u=c0 C u:=by intro C u hex;unfold push;rw [dif_neg hex]
 have gd:∀C u I,c0 C u=some I→(¬∃i I,r i=C∧bM i u=some I)→ ∀i,In h i→r i≠C:=by
  intro C u I ac hex i al e;subst e;have p:ak i u=some I:=by show iG c0 r h i u=some I;rw [pw al];exact ac
  exact hex ⟨i,I,rfl,nw.le _ _ _ p⟩
 have mB:(c0:Map).le (push c0 bM r):=by
  intro C u I ac;by_cases hex:∃i I,r i=C∧bM i u=some I
  ·obtain⟨i,q,rfl,aC⟩:=hex;rw [dK i u q aC];rcases sk i u q aC with ⟨al,DT⟩|al
   ·have p:ak i u=some I:=by show iG c0 r h i u=some I;rw [pw al];exact ac
    rw [nw.le _ _ _ p]at aC;exact aC.symm
   ·have:=(ep.dB _ _ _ ac).1;rw [fb i al]at this;omega
  ·rw [dL C u hex];exact ac
 have qH:∀C u I,c0 C u=some I→(∀i,In h i→r i≠C)→v' I.ck:=by intro C u I ac bZ;obtain⟨_,B,_,_,_,_,_,_,sj⟩:=ep.dB _ _ _ ac;refine .inr ⟨sj.ck,fun i v q aC eR e=> ?_⟩;obtain⟨al,eE⟩:=lm aC;have:=(ep.apart _ _ _ _ _ _ eE ac e (bZ i al)).1;rw [eR]at this;cases this
 refine⟨bp,push c0 bM r,he,⟨mB,?_,?_⟩,aK.bc dK a',⟨?_,?_,?_⟩,si.trans (aq.less fun i al=> .inl al),by omega⟩
 ·intro C aX jH u;by_cases hex:∃i I,r i=C∧bM i u=some I
  ·obtain⟨i,q,rfl,aC⟩:=hex;rcases sk i u q aC with ⟨al,DT⟩|al
   ·have DF:i<h.next:=by obtain⟨b,av⟩:=Option.isSome_iff_exists.1 al;exact(hw.get i b av).1
    have:=nw.new i DF (fun u=>by show iG c0 r h i u=none;rw [pw al];exact jH u) u;rw [this]at aC;cases aC
   ·rw [fb i al]at aX;omega
  ·rw [dL C u hex];exact jH u
 ·intro C u I ac eR;by_cases hex:∃i I,r i=C∧bM i u=some I
  ·obtain⟨i,q,rfl,aC⟩:=hex;rw [dK i u q aC]at ac;simp only [Option.some.injEq]at ac;subst ac;exact(lm (nw.ro i u q aC eR)).2
  ·rw [dL C u hex]at ac;exact ac
 ·intro C u I ac;by_cases hex:∃i I,r i=C∧bM i u=some I
  ·obtain⟨i,q,rfl,aC⟩:=hex;rw [dK i u q aC]at ac;simp only [Option.some.injEq]at ac;subst ac;obtain⟨d1,b,d2,d3,d4,d5,d6,d7,d8⟩:=be.dB _ _ _ aC
   have S9:In h i∨h.next≤i:=by
    rcases sk i u q aC with ⟨al,_⟩|al
    ·exact .inl al
    ·exact .inr al
   refine⟨?_,b.bc r,eT i b d2 S9,d3,d4,d5,d6,d7,d8.bc dK fun eR af=>d8.base eR (.inl af)⟩;rcases sk i u q aC with ⟨_,DT⟩|al
   ·omega
   ·rw [fb i al,qL];omega
  ·rw [dL C u hex]at ac;obtain⟨d1,B,d2,d3,d4,d5,d6,d7,d8⟩:=ep.dB _ _ _ ac;have bZ:=gd C u I ac hex;exact⟨by omega,B,by rw [jr C d1 bZ];exact d2,d3,d4,d5,d6,d7,d8.at mB aq.size (aq.block _ (qH C u I ac bZ))⟩
 ·have mixed:∀i u I C t q,bM i u=some I→c0 C t=some q→(∀i,In h i→r i≠C)→I.ck=q.ck→I.ro=true∧q.ro=true:=by
   intro i u I C t q ac aC bZ av;have af:=qH C t q aC bZ;by_cases eR:I.ro=true
   ·obtain⟨al,ei⟩:=lm (nw.ro i u I ac eR);exact ep.apart _ _ _ _ _ _ ei aC av (bZ i al)
   ·obtain⟨_,b,_,_,_,_,_,_,d8⟩:=be.dB _ _ _ ac;exact absurd (av▸af) (d8.base (by simpa using eR))
  intro i u I C t q ac aC av bZ;by_cases hex:∃fe I,r fe=i∧bM fe u=some I<;>by_cases mC:∃fe I,r fe=C∧bM fe t=some I
  ·obtain⟨fe,ln,rfl,ei⟩:=hex;obtain⟨gq,jI,rfl,eE⟩:=mC;rw [dK _ _ _ ei]at ac;rw [dK _ _ _ eE]at aC;simp only [Option.some.injEq]at ac aC;subst ac;subst aC;exact be.apart _ _ _ _ _ _ ei eE av fun e=>bZ (by rw [e])
  ·obtain⟨fe,ln,rfl,ei⟩:=hex;rw [dK _ _ _ ei]at ac;rw [dL _ _ mC]at aC;simp only [Option.some.injEq]at ac;subst ac;exact mixed _ _ _ _ _ _ ei aC (gd C t q aC mC) av
  ·obtain⟨gq,jI,rfl,eE⟩:=mC;rw [dL _ _ hex]at ac;rw [dK _ _ _ eE]at aC;simp only [Option.some.injEq]at aC;subst aC;exact(mixed _ _ _ _ _ _ eE ac (gd i u I ac hex) av.symm).symm
  ·rw [dL _ _ hex]at ac;rw [dL _ _ mC]at aC;exact ep.apart _ _ _ _ _ _ ac aC av bZ
 ·intro i u I t q ac aC av
  have both:∀fe ln,r fe=i→ ∀tw,bM fe tw=some ln→ ∀t q,push c0 bM r i t=some q→bM fe t=some q:=by
   intro fe ln e tw ei t q aC;by_cases mC:∃gq I,r gq=i∧bM gq t=some I
   ·obtain⟨gq,jI,bC,eE⟩:=mC;have:=qM fe gq _ _ _ _ ei eE (by rw [e,bC]);subst this;rw [←bC,dK _ _ _ eE]at aC;rw [eE];exact aC
   ·rw [dL _ _ mC]at aC;rcases sk fe tw ln ei with ⟨al,_⟩|al
    ·exact absurd e (gd i t q aC mC fe al)
    ·have:=(ep.dB _ _ _ aC).1;rw [←e,fb fe al]at this;omega
  by_cases hex:∃fe I,r fe=i∧bM fe u=some I
  ·obtain⟨fe,ln,e,ei⟩:=hex;exact be.same fe _ _ _ _ (both fe ln e u ei u I ac) (both fe ln e u ei t q aC) av
  ·by_cases mC:∃fe I,r fe=i∧bM fe t=some I
   ·obtain⟨fe,ln,e,ei⟩:=mC;exact be.same fe _ _ _ _ (both fe ln e t ei u I ac) (both fe ln e t ei t q aC) av
   ·rw [dL _ _ hex]at ac;rw [dL _ _ mC]at aC;exact ep.same _ _ _ _ _ ac aC av
end
end Go.cH
namespace Go.cH
noncomputable section
section
variable {β:Type}
def gK(n:Nat)(k:Nat→β):β:=Nat.rec (motive:=fun _=>β) (k 0) (fun m _=>k (Nat.succ m)) n
theorem mD(n:Nat)(k:Nat→β):gK n k=k n:=by cases n<;>rfl
def DU(n:Int)(k:Int→β):β :=
 match n with
 |.ofNat m=>gK m fun m=>k (.ofNat m)
 |.negSucc m=>gK m fun m=>k (.negSucc m)
theorem S'(n:Int)(k:Int→β):DU n k=k n:=by cases n<;>simp [DU,mD]
def Kb(d:IntKind)(k:IntKind→β):β :=
 match d with
 |.i8=>k .i8|.i16=>k .i16|.i32=>k .i32|.i64=>k .i64|.u8=>k .u8|.u16=>k .u16|.u32=>k .u32|.u64=>k .u64
theorem Ta(d:IntKind)(k:IntKind→β):Kb d k=k d:=by cases d<;>rfl
def tP(b:Bool)(k:Bool→β):β :=
 match b with
 |true=>k true
 |false=>k false
theorem Kc(b:Bool)(k:Bool→β):tP b k=k b:=by cases b<;>rfl
def zv(a:bH)(k:bH→β):β :=
 match a with
 |⟨a,b,c,d,e⟩=>gK a fun a=>gK b fun b=>gK c fun c=>gK d fun d=>gK e fun e=>k ⟨a,b,c,d,e⟩
theorem Kd(a:bH)(k:bH→β):zv a k=k a:=by cases a;simp [zv,mD]
def DV(b:UInt8)(k:UInt8→β):β :=
 match b with
 |⟨⟨⟨n,h⟩⟩⟩=>gK n fun m=>k (UInt8.ofNat m)
theorem Tb(b:UInt8)(k:UInt8→β):DV b k=k b:=by
 obtain⟨⟨⟨n,h⟩⟩⟩:=b;simp only [DV,mD]
 congr 1
 apply UInt8.toNat_inj.1;simp [UInt8.toNat,UInt8.ofNat];omega
def zw:List UInt8→(List UInt8→β)→β
 |[],k=>k []
 |b::r,k=>DV b fun b=>zw r fun r=>k (b::r)
theorem Ke:∀(l:List UInt8)(k:List UInt8→β),zw l k=k l
 |[],k=>rfl
 |b::r,k=>by simp only [zw,Tb,Ke r]
def sl(v:o)(k:o→β):β :=
 match v with
 |.undef=>k .undef
 |.bool b=>tP b fun b=>k (.bool b)
 |.int d n=>Kb d fun d=>DU n fun n=>k (.int d n)
 |.str s=>zw s fun s=>k (.str s)
 |.ptr none=>k (.ptr none)
 |.ptr (some a)=>zv a fun a=>k (.ptr (some a))
 |.slice none n c=>gK n fun n=>gK c fun c=>k (.slice none n c)
 |.slice (some a) n c=>zv a fun a=>gK n fun n=>gK c fun c=>k (.slice (some a) n c)
 |.nilFunc=>k .nilFunc
 |.nilIface=>k .nilIface
 |.func a b c=>k (.func a b c)
 |.iface t v=>k (.iface t v)
 |.agg l=>k (.agg l)
 |.tuple l=>k (.tuple l)
theorem Kf(v:o)(k:o→β):sl v k=k v:=by
 cases v with
 |ptr U=>cases U<;>simp [sl,Kd]
 |slice U n c=>cases U<;>simp [sl,Kd,mD]
 |_=>simp [sl,Kc,Ta,S',Ke]
def sn:List o→(List o→β)→β
 |[],k=>k []
 |a::r,k=>sl a fun a=>sn r fun r=>k (a::r)
theorem Kg:∀(l:List o)(k:List o→β),sn l k=k l
 |[],k=>rfl
 |a::r,k=>by simp only [sn,Kf,Kg r]
def wb(v:o)(k:o→β):β :=
 match v with
 |.agg l=>sn l fun l=>k (.agg l)
 |.iface t v=>gK t fun t=>sl v fun v=>k (.iface t v)
 |.func a b c=>sn b fun b=>sn c fun c=>k (.func a b c)
 |.tuple l=>sn l fun l=>k (.tuple l)
 |v=>sl v k
theorem Kh(v:o)(k:o→β):wb v k=k v:=by unfold wb;split<;>simp [Kf,Kg,mD]
def tQ:List o→(List o→β)→β
 |[],k=>k []
 |a::r,k=>wb a fun a=>tQ r fun r=>k (a::r)
theorem DW:∀(l:List o)(k:List o→β),tQ l k=k l
 |[],k=>rfl
 |a::r,k=>by simp only [tQ,Kh,DW r]
def wc(v:o)(k:o→β):β :=
 match v with
 |.tuple l=>tQ l fun l=>k (.tuple l)
 |.iface t v=>gK t fun t=>wb v fun v=>k (.iface t v)
 |v=>wb v k
theorem DX(v:o)(k:o→β):wc v k=k v:=by unfold wc;split<;>simp [Kh,DW,mD]
def DY(b:J)(k:J→β):β :=
 match b with
 |⟨l,es,ex,ro,v,m,f,none⟩=>tQ l fun l=>gK es fun es=>tP ex fun ex=>tP ro fun ro=>gK v fun v=>gK m fun m=>gK f fun f=>k ⟨l,es,ex,ro,v,m,f,none⟩
 |⟨l,es,ex,ro,v,m,f,some (t,n)⟩=>tQ l fun l=>gK es fun es=>tP ex fun ex=>tP ro fun ro=>gK v fun v=>gK m fun m=>gK f fun f=>k ⟨l,es,ex,ro,v,m,f,some (t,n)⟩
theorem Tc(b:J)(k:J→β):DY b k=k b:=by obtain⟨l,es,ex,ro,v,m,f,an⟩:=b;cases an<;>simp [DY,DW,mD,Kc]
def fW(n:Nat)(t:aU o):List o:=(List.range n).map fun i=>(t.get i).getD gf
theorem zx(n:Nat)(t:aU o)(i:Nat):(fW n t)[i]? =if i<n then some ((t.get i).getD gf)else none:=by
 simp only [fW,List.getElem?_map];by_cases h:i<n
 ·rw [List.getElem?_range h,if_pos h];rfl
 ·rw [List.getElem?_eq_none (by simpa using h),if_neg h];rfl
def zy(n:Nat)(t:aU o)(i:Nat):Option o:=cond (Nat.blt i n) (some (Option.rec (motive:=fun _=>o) gf (fun v=>v) (t.get i))) none
theorem Ki(n:Nat)(t:aU o)(i:Nat):zy n t i=(fW n t)[i]? :=by
 rw [zx];unfold zy;by_cases h:i<n
 ·rw [show Nat.blt i n=true by simpa [Nat.blt_eq]using h,if_pos h];cases t.get i<;>rfl
 ·rw [show Nat.blt i n=false by cases av:Nat.blt i n with|false=>rfl|true=>exact absurd (Nat.blt_eq.mp av) h,if_neg h];rfl
def lW(n:Nat)(t:aU o)(U:Operand):o :=
 match U with
 |.tmp i=>cond (Nat.blt i n) (Option.rec (motive:=fun _=>o) gf (fun v=>v) (t.get i)) .undef
 |.const v=>qh v
 |.global _=> .undef
 |.func f=> .func (.func f) [] []
theorem we(n:Nat)(t:aU o):lW n t=dd (fW n t):=by
 funext U
 cases U with
 |tmp i =>
  have:=Ki n t i;simp only [dd,List.getD_eq_getElem?_getD,←this];unfold zy;show cond (Nat.blt i n) (Option.rec (motive:=fun _=>o) gf (fun v=>v) (t.get i)) .undef=_;cases Nat.blt i n<;>rfl
 |const v=>rfl
 |global g=>rfl
 |func f=>rfl
theorem Td(n:Nat)(t:aU o)(d:Nat)(v:o):fW n (t.set d v)=(fW n t).set d v:=by
 apply List.ext_getElem?;intro i;rw [zx,List.getElem?_set,zx];by_cases h:i<n
 ·simp only [h,if_true,aU.kG];by_cases aD:d=i
  ·subst aD;simp [fW,h]
  ·simp [aD]
 ·simp only [h,if_false];by_cases aD:d=i
  ·subst aD;simp [fW,h]
  ·simp [aD]
section
variable {α:Type}
def zz(f:Nat):Nat→α→(aU α→β)→β :=
 Nat.rec (motive:=fun _=>Nat→α→(aU α→β)→β) (fun _ v c=>c (.node (some v) .nil .nil))
  (fun _ ih k v c=>cond (Nat.beq k 0) (c (.node (some v) .nil .nil)) (cond (Nat.beq (Nat.mod k 2) 1) (ih (Nat.div k 2) v fun u=>c (.node none u .nil)) (ih (Nat.sub (Nat.div k 2) 1) v fun u=>c (.node none .nil u)))) f
theorem DZ:∀(f k:Nat)(v:α)(c:aU α→β),zz f k v c=c (aU.h2 f k v)
 |0,k,v,c=>rfl
 |f +1,k,v,c=>by
  show cond (Nat.beq k 0) (c (.node (some v) .nil .nil)) (cond (Nat.beq (k%2) 1) (zz f (k/2) v fun u=>c (.node none u .nil)) (zz f (k/2-1) v fun u=>c (.node none .nil u))) =
   c (cond (Nat.beq k 0) (.node (some v) .nil .nil) (cond (Nat.beq (k%2) 1) (.node none (aU.h2 f (k/2) v) .nil) (.node none .nil (aU.h2 f (k/2-1) v))))
  rw [DZ f,DZ f];cases Nat.beq k 0<;>cases Nat.beq (k%2) 1<;>rfl
def wg(t:aU α):Nat→α→(aU α→β)→β :=
 aU.rec (motive:=fun _=>Nat→α→(aU α→β)→β) (fun k v c=>zz k k v c)
  (fun U l r pa Cd k v c=>cond (Nat.beq k 0) (c (.node (some v) l r)) (cond (Nat.beq (Nat.mod k 2) 1) (pa (Nat.div k 2) v fun u=>c (.node U u r)) (Cd (Nat.sub (Nat.div k 2) 1) v fun u=>c (.node U l u)))) t
theorem zA:∀(t:aU α)(k:Nat)(v:α)(c:aU α→β),wg t k v c=c (t.set k v)
 |.nil,k,v,c=>DZ k k v c
 |.node U l r,k,v,c=>by
  show cond (Nat.beq k 0) (c (.node (some v) l r)) (cond (Nat.beq (k%2) 1) (wg l (k/2) v fun u=>c (.node U u r)) (wg r (k/2-1) v fun u=>c (.node U l u))) =
   c (cond (Nat.beq k 0) (.node (some v) l r) (cond (Nat.beq (k%2) 1) (.node U (l.set (k/2) v) r) (.node U l (r.set (k/2-1) v))))
  rw [zA l,zA r];cases Nat.beq k 0<;>cases Nat.beq (k%2) 1<;>rfl
def zB(f:α→(α→β)→β)(t:aU α):Nat→(aU α→β)→β :=
 aU.rec (motive:=fun _=>Nat→(aU α→β)→β) (fun _ c=>c .nil)
  (fun U l r aG cL k c=>cond (Nat.beq k 0) (Option.rec (motive:=fun _=>β) (c (.node none l r)) (fun b=>f b fun b=>c (.node (some b) l r)) U) (cond (Nat.beq (Nat.mod k 2) 1) (aG (Nat.div k 2) fun u=>c (.node U u r)) (cL (Nat.sub (Nat.div k 2) 1) fun u=>c (.node U l u)))) t
theorem D0{f:α→(α→β)→β}(a6:∀a k,f a k=k a):∀(t:aU α)(k:Nat)(c:aU α→β),zB f t k c=c t
 |.nil,k,c=>rfl
 |.node U l r,k,c=>by show cond (Nat.beq k 0) (Option.rec (motive:=fun _=>β) (c (.node none l r)) (fun b=>f b fun b=>c (.node (some b) l r)) U) (cond (Nat.beq (k%2) 1) (zB f l (k/2) fun u=>c (.node U u r)) (zB f r (k/2-1) fun u=>c (.node U l u)))=_;rw [D0 a6 l,D0 a6 r];cases U<;>cases Nat.beq k 0<;>cases Nat.beq (k%2) 1<;>simp [a6]
end
def tR(s:aU o)(d:Option Tmp)(v:o)(k:aU o→β):β:=Option.rec (motive:=fun _=>β) (k s) (fun d=>wg s d v k) d
theorem Te(n:Nat)(s:aU o)(d:Option Tmp)(v:o)(k:aU o→β):tR s d v k=k (Option.rec (motive:=fun _=>aU o) s (fun d=>s.set d v) d):=by cases d<;>simp [tR,zA]
theorem zC(n:Nat)(s:aU o)(d:Option Tmp)(v:o):fW n (Option.rec (motive:=fun _=>aU o) s (fun d=>s.set d v) d)=hR (fW n s) d v:=by cases d<;>simp [hR,Td]
def D1(id:Nat)(h:j)(k:j→β):β :=
 match h with
 |⟨n,l⟩=>zB DY l id fun l=>k ⟨n,l⟩
theorem Tf(id:Nat)(h:j)(k:j→β):D1 id h k=k h:=by cases h;simp [D1,D0 Tc]
def D2(h:j)(k:j→β):β :=
 match h with
 |⟨n,l⟩=>gK n fun n=>k ⟨n,l⟩
theorem Tg(h:j)(k:j→β):D2 h k=k h:=by cases h;simp [D2,mD]
inductive D3 where
 |no|at (id:Nat)|all
def zD(t:D3)(h:j)(k:j→β):β :=
 match t with
 |.no=>k h
 |.at id=>D1 id h k
 |.all=>D2 h k
theorem Th(t:D3)(h:j)(k:j→β):zD t h k=k h:=by cases t<;>simp [zD,Tf,Tg]
def Kj(v:o)(k:o→β):β :=
 match v with
 |.undef=>k .undef
 |.bool b=>k (.bool b)
 |.int d n=>k (.int d n)
 |.str s=>k (.str s)
 |.ptr a=>k (.ptr a)
 |.slice a n c=>k (.slice a n c)
 |.nilFunc=>k .nilFunc
 |.nilIface=>k .nilIface
 |.func a b c=>k (.func a b c)
 |.iface t v=>k (.iface t v)
 |.agg l=>k (.agg l)
 |.tuple l=>k (.tuple l)
theorem Ti(v:o)(k:o→β):Kj v k=k v:=by cases v<;>rfl
def shallow(U:Op):Bool :=
 match U with
 |.move (.tmp _)|.assign (.tmp _)|.pick _ (.tmp _) (.tmp _)|.extract _ _|.load _ _=>true
 |.call c=>match c.callee with|.value _=>true|_=>false
 |_=>false
def zE(U:Op)(v:o)(k:o→β):β:=cond (shallow U) (Kj v k) (wc v k)
theorem Tj(U:Op)(v:o)(k:o→β):zE U v k=k v:=by unfold zE;cases shallow U<;>simp [Ti,DX]
end
def Kk(bh:Nat)(bf:Operand→o)(U:Op)(v:o):D3 :=
 match U with
 |.alloc _|.box _ _|.buildSlice _ _ _|.makeSlice _ _ _=> .at bh
 |.store _ a _=>match bf a with|.ptr (some a)=> .at a.id|_=> .no
 |.call c =>
  match c.callee with
  |.value _=> .all
  |.builtin .append=>match v with|.slice (some a) _ _=> .at a.id|_=> .no
  |_=> .no
 |.convert _ _ _=>match v with|.slice (some a) _ _=> .at a.id|_=> .no
 |_=> .no
section
variable {E:b4}
def wh(ops:Array Oper)(n:Nat)(s:aU o)(U:Oper):Option Bool :=
 match U.guard with
 |none=>some true
 |some (C,want) =>
  match (ops[C]?).bind (·.dst)with
  |some d =>
   match zy n s d with
   |some (.bool b)=>some (b == want)
   |some (.tuple [])=>some false
   |_=>none
  |none=>none
theorem Kl(ops:Array Oper)(n:Nat)(s:aU o)(U:Oper):wh ops n s U=jn ops (fW n s) U:=by unfold wh jn;simp only [Ki];rfl
structure im where
 e7:aU o
 heap:j
def im.lo(n:Nat)(s:im):fq:=⟨fW n s.e7,s.heap⟩
def qN(E:b4)(call:dZ)(ops:Array Oper)(draw:Bool)(n aj:Nat)(l:List Oper):Nat→aU o→j→Option im :=
 List.rec (motive:=fun _=>Nat→aU o→j→Option im) (fun _ s h=>some ⟨s,h⟩)
  (fun U _ ih i s h =>
   match wh ops n s U with
   |some true =>
    match (cond draw (fx E call ops aj i (lW n s) h U.op) (jm E call (Nat.add aj i) (lW n s) h U.op))with
    |some (v,aa)=>zE U.op v fun v=>zD (Kk (Nat.add aj i) (lW n s) U.op v) aa fun aa=>tR s U.dst v fun bK=>ih (Nat.succ i) bK aa
    |none=>none
   |some false=>tR s U.dst gf fun bK=>ih (Nat.succ i) bK h
   |none=>none) l
theorem Km(call:dZ)(ops:Array Oper)(draw:Bool)(n aj i:Nat)(s:aU o)(h:j)(U:Oper)(r:List Oper):qN E call ops draw n aj (U::r) i s h =
 match wh ops n s U with
 |some true =>
  match (cond draw (fx E call ops aj i (lW n s) h U.op) (jm E call (aj+i) (lW n s) h U.op))with
  |some (v,aa)=>qN E call ops draw n aj r (i+1) (Option.rec (motive:=fun _=>aU o) s (fun d=>s.set d v) U.dst) aa
  |none=>none
 |some false=>qN E call ops draw n aj r (i+1) (Option.rec (motive:=fun _=>aU o) s (fun d=>s.set d gf) U.dst) h
 |none=>none:=by
 show (match wh ops n s U with
  |some true =>
   match (cond draw (fx E call ops aj i (lW n s) h U.op) (jm E call (aj+i) (lW n s) h U.op))with
   |some (v,aa)=>zE U.op v fun v=>zD (Kk (aj+i) (lW n s) U.op v) aa fun aa=>tR s U.dst v fun bK=>qN E call ops draw n aj r (i+1) bK aa
   |none=>none
  |some false=>tR s U.dst gf fun bK=>qN E call ops draw n aj r (i+1) bK h
  |none=>none)=_
 simp only [Tj,Th,Te n]
theorem D4{call:dZ}{ops:Array Oper}{n aj:Nat} :∀(l:List Oper)(i:Nat)(s:aU o)(h:j),(∀C,l[C]? =ops[i+C]?) →
 (qN E call ops false n aj l i s h).map (im.lo n)=ob E call ops aj (List.range' i l.length) ⟨fW n s,h⟩
 |[],i,s,h,_=>rfl
 |U ::r,i,s,h,aB=>by
  have ai:ops[i]? =some U:=by have:=aB 0;simpa using this.symm
  have be:∀C,r[C]? =ops[i+1+C]? :=fun C=>by have:=aB (C+1);simp at this;rw [this];congr 1;omega
  rw [Km];simp only [List.length_cons,List.range'_succ,ob,qn,ai,Kl,we,cond_false];cases hw:jn ops (fW n s) U with
  |none=>rfl
  |some b =>
   cases b with
   |true =>
    simp only;cases aS:jm E call (aj+i) (dd (fW n s)) h U.op with
    |none=>rfl
    |some I =>
     obtain⟨v,aa⟩:=I;simp only;rw [D4 r (i+1) _ _ be,zC]
   |false =>
    simp only;rw [D4 r (i+1) _ _ be,zC]
theorem D5{call:dZ}{ops:Array Oper}{n aj:Nat} :∀(l:List Oper)(i:Nat)(s:aU o)(h:j),(∀C,l[C]? =ops[i+C]?) →
 (qN E call ops true n aj l i s h).map (im.lo n)=kh E call ops aj (List.range' i l.length) ⟨fW n s,h⟩
 |[],i,s,h,_=>rfl
 |U ::r,i,s,h,aB=>by
  have ai:ops[i]? =some U:=by have:=aB 0;simpa using this.symm
  have be:∀C,r[C]? =ops[i+1+C]? :=fun C=>by have:=aB (C+1);simp at this;rw [this];congr 1;omega
  rw [Km];simp only [List.length_cons,List.range'_succ,kh,lK,ai,Kl,we,cond_true];cases hw:jn ops (fW n s) U with
  |none=>rfl
  |some b =>
   cases b with
   |true =>
    simp only;cases aS:fx E call ops aj i (dd (fW n s)) h U.op with
    |none=>rfl
    |some I =>
     obtain⟨v,aa⟩:=I;simp only;rw [D5 r (i+1) _ _ be,zC]
   |false =>
    simp only;rw [D5 r (i+1) _ _ be,zC]
def wi(E:b4)(call:dZ)(ops:Array Oper)(draw:Bool)(n:Nat)(s:im):Option im :=
 match s with
 |⟨s,⟨aj,l⟩⟩=>cond (!draw || oc ops) (gK (Nat.add aj ops.size) fun m=>qN E call ops draw n aj ops.toList 0 s ⟨m,l⟩) none
theorem Tk(call:dZ)(ops:Array Oper)(draw:Bool)(n:Nat)(s:im):(wi E call ops draw n s).map (im.lo n)=rS E call ops draw (s.lo n):=by
 obtain⟨s,aj,l⟩:=s;have aB:∀C:Nat,ops.toList[C]? =ops[0+C]? :=fun C=>by simp
 have be:List.range ops.size=List.range' 0 ops.toList.length:=by rw [List.range_eq_range',Array.length_toList]
 unfold wi rS;cases draw with
 |false=>simp only [Bool.not_false,Bool.true_or,cond_true,mD,Bool.false_eq_true,if_false,D4 _ _ _ _ aB,be,im.lo,Nat.add_eq]
 |true =>
  cases aD:oc ops with
  |false=>simp
  |true=>simp only [Bool.not_true,Bool.false_or,aD,cond_true,if_true,mD,D5 _ _ _ _ aB,be,im.lo,Nat.add_eq]
def jN(E:b4)(call:dZ)(n:Nat)(de:Nat):Option Code→Code→im→Option (dj×im) :=
 Nat.rec (motive:=fun _=>Option Code→Code→im→Option (dj×im)) (fun _ _ _=>none)
 (fun m ih b c s =>
 match b with
 |some body =>
  match ih none c s with
  |some (.goto l,bK) =>
   match findLabel body l with
   |some rest=>ih (some body) rest bK
   |none=>some (.goto l,bK)
  |r=>r
 |none =>
  match c with
  |.skip=>some (.normal,s)
  |.label _=>some (.normal,s)
  |.region _ ops draw =>
   match wi E call ops draw n s with
   |some bK=>some (.normal,bK)
   |none=>none
  |.seq a b =>
   match ih none a s with
   |some (.normal,bK)=>ih none b bK
   |r=>r
  |.cond x a b =>
   match lW n s.e7 x with
   |.bool true=>ih none a s
   |.bool false=>ih none b s
   |_=>none
  |.block id c =>
   match ih none c s with
   |some (.exit C,bK)=>some (if C=id then .normal else .exit C,bK)
   |r=>r
  |.loop c =>
   match ih none c s with
   |some (.normal,bK)=>ih none (.loop c) bK
   |r=>r
  |.scope c=>ih (some c) c s
  |.goto l=>some (.goto l,s)
  |.exit id=>some (.exit id,s)
  |.ret=>some (.ret,s)
  |_=>none) de
def px(n:Nat)(I:dj×im):dj×fq:=(I.1,I.2.lo n)
theorem Tl(call:dZ)(k:Nat):∀(n:Nat)(b:Option Code)(c:Code)(s:im),(jN E call k n b c s).map (px k)=e8 E call n b c (s.lo k):=by
 intro n;induction n with
 |zero=>intro b c s;rfl
 |succ n ih =>
  intro b c s;cases b with
  |some body =>
   show Option.map (px k) (match jN E call k n none c s with
    |some (.goto l,bK) =>
     match findLabel body l with
     |some rest=>jN E call k n (some body) rest bK
     |none=>some (.goto l,bK)
    |r=>r)=_
   simp only [e8,←ih];cases af:jN E call k n none c s with
   |none=>rfl
   |some I =>
    obtain⟨e,bK⟩:=I;cases e with
    |goto l =>
     simp only [Option.map_some,px];cases a6:findLabel body l with
     |none=>rfl
     |some rest=>simp only [a6];exact ih (some body) rest bK
    |_=>rfl
  |none =>
   cases c
   case region id ops draw =>
    show Option.map (px k) (match wi E call ops draw k s with
     |some bK=>some (.normal,bK)
     |none=>none)=_
    simp only [e8,←Tk];cases wi E call ops draw k s<;>rfl
   case seq a b =>
    show Option.map (px k) (match jN E call k n none a s with
     |some (.normal,bK)=>jN E call k n none b bK
     |r=>r)=_
    simp only [e8,←ih];cases af:jN E call k n none a s with
    |none=>rfl
    |some I=>obtain⟨e,bK⟩:=I;cases e<;>first|exact ih none b bK|rfl
   case cond x a b =>
    show Option.map (px k) (match lW k s.e7 x with
     |.bool true=>jN E call k n none a s
     |.bool false=>jN E call k n none b s
     |_=>none)=_
    simp only [e8,←ih,we];have he:dd (s.lo k).e7 x=dd (fW k s.e7) x:=rfl;rw [he];cases dd (fW k s.e7) x with
    |bool t=>cases t<;>rfl
    |_=>rfl
   case block id c =>
    show Option.map (px k) (match jN E call k n none c s with
     |some (.exit C,bK)=>some (if C=id then .normal else .exit C,bK)
     |r=>r)=_
    simp only [e8,←ih];cases af:jN E call k n none c s with
    |none=>rfl
    |some I=>obtain⟨e,bK⟩:=I;cases e<;>rfl
   case loop c =>
    show Option.map (px k) (match jN E call k n none c s with
     |some (.normal,bK)=>jN E call k n none (.loop c) bK
     |r=>r)=_
    simp only [e8,←ih];cases af:jN E call k n none c s with
    |none=>rfl
    |some I=>obtain⟨e,bK⟩:=I;cases e<;>first|exact ih none (.loop c) bK|rfl
   case scope c=>exact ih (some c) c s
   all_goals rfl
def wj:List o→Nat→aU o→(aU o→Option (o×j))→Option (o×j)
 |[],_,t,k=>k t
 |v::r,i,t,k=>wc v fun v=>wg t i v fun t=>wj r (Nat.succ i) t k
theorem Kn:∀(l:List o)(i:Nat)(t:aU o) (k:aU o→Option (o×j)),
 ∃fu,wj l i t k=k fu∧∀C,fu.get C=if C<i then t.get C else if h:C-i<l.length then some l[C-i]else t.get C
 |[],i,t,k=>⟨t,rfl,fun C=>by simp⟩
 |v ::r,i,t,k=>by
  obtain⟨fu,p,ae⟩:=Kn r (i+1) (t.set i v) k;refine⟨fu,by simp only [wj,DX,zA];exact p,fun C=> ?_⟩;rw [ae C,aU.kG];by_cases aX:C<i
  ·rw [if_pos (by omega),if_neg (by omega),if_pos aX]
  ·rw [if_neg aX];by_cases he:i=C
   ·subst he;rw [if_pos (by omega),if_pos rfl];simp
   ·rw [if_neg (by omega),if_neg he];by_cases aB:C- (i+1)<r.length
    ·rw [dif_pos aB,dif_pos (by simp;omega)];obtain⟨m,hm⟩:∃m,C-i=m+1:=⟨C-i-1,by omega⟩
     have lP:C- (i+1)=m:=by omega
     simp only [hm,lP,List.getElem_cons_succ]
    ·rw [dif_neg aB,dif_neg (by simp;omega)]
theorem Tm{l:List o}{m:Nat}{t:aU o}(h:∀C,t.get C=if C<0 then(aU.nil:aU o).get C else if h:C-0<l.length then some l[C-0]else(aU.nil:aU o).get C) :
 fW (l.length+(m-l.length)) t=l++List.replicate (m-l.length) gf:=by
 apply List.ext_getElem?;intro i;rw [zx,h i,if_neg (Nat.not_lt_zero i)];simp only [Nat.sub_zero,aU.n5];by_cases al:i<l.length
 ·rw [if_pos (by omega),dif_pos al,List.getElem?_append_left al,List.getElem?_eq_getElem al];rfl
 ·rw [dif_neg al,List.getElem?_append_right (by omega),List.getElem?_replicate];by_cases aM:i<l.length+(m-l.length)
  ·rw [if_pos aM,if_pos (by omega)];rfl
  ·rw [if_neg aM,if_neg (by omega)]
def qO(D:dI)(n:Nat)(dR:List ResultVar)(s:im):Option (List o) :=
 match dR with
 |[]=>some []
 |.tmp t::r=>(qO D n r s).map fun l=>lW n s.e7 (.tmp t)::l
 |.cell a t::r =>
  match lW n s.e7 (.tmp a)with
  |.ptr (some I) =>
   match cj D t I s.heap,qO D n r s with
   |some v,some l=>some (v::l)
   |_,_=>none
  |_=>none
theorem zF(D:dI)(n:Nat)(s:im):∀(dR:List ResultVar),qO D n dR s=jo D dR (s.lo n)
 |[]=>rfl
 |.tmp t::r=>by simp only [qO,jo,zF D n s r,we];rfl
 |.cell a t::r=>by simp only [qO,jo,zF D n s r,we];rfl
def zG(r:Option (o×j)):Option (o×j) :=
 match r with
 |some (v,⟨n,l⟩)=>gK n fun n=>wc v fun v=>some (v,⟨n,l⟩)
 |none=>none
theorem Tn(r:Option (o×j)):zG r=r:=by
 cases r with
 |none=>rfl
 |some I=>obtain⟨v,n,l⟩:=I;simp [zG,mD,DX]
def oy(P:Program)(E:b4)(de:Nat):dZ :=
 Nat.rec (motive:=fun _=>dZ) (fun _ _ _=>none)
 (fun n ih f args h =>
  match E.tl f with
  |some g=>g args h
  |none =>
  match P.funcs[f]? with
  |some fn =>
   match fn.body with
   |some c =>
    gK (args.length+(fn.ntmps-args.length)) fun k=>wj args 0 .nil fun pa =>
    match jN E ih k n none c ⟨pa,h⟩with
    |some (.exit _,_)=>none
    |some (.goto _,_)=>none
    |some (_,s) =>
     match qO E.D k fn.results.toList s with
     |some l=>zG (some (mi l,s.heap))
     |none=>none
    |none=>none
   |none=>none
  |none=>none) de
theorem wk(P:Program)(E:b4):∀(n:Nat),oy P E n=mj P E n:=by
 intro n;induction n with
 |zero=>rfl
 |succ n ih =>
  funext f args h
  show(match E.tl f with
  |some g=>g args h
  |none =>
  match P.funcs[f]? with
  |some fn =>
   match fn.body with
   |some c =>
    gK (args.length+(fn.ntmps-args.length)) fun k=>wj args 0 .nil fun pa =>
    match jN E (oy P E n) k n none c ⟨pa,h⟩with
    |some (.exit _,_)=>none
    |some (.goto _,_)=>none
    |some (_,s) =>
     match qO E.D k fn.results.toList s with
     |some l=>zG (some (mi l,s.heap))
     |none=>none
    |none=>none
   |none=>none
  |none=>none)=_
  simp only [mj,ih,mD,Tn];cases E.tl f with
  |some g=>rfl
  |none =>
  simp only;cases a6:P.funcs[f]? with
  |none=>rfl
  |some fn =>
   simp only;cases fn.body with
   |none=>rfl
   |some c =>
    simp only
    obtain⟨t,p,ae⟩:=Kn args 0 .nil fun pa =>
     match jN E (mj P E n) (args.length+(fn.ntmps-args.length)) n none c ⟨pa,h⟩with
     |some (.exit _,_)=>none
     |some (.goto _,_)=>none
     |some (_,s) =>
      match qO E.D (args.length+(fn.ntmps-args.length)) fn.results.toList s with
      |some l=>some (mi l,s.heap)
      |none=>none
     |none=>none
    rw [p]
    have aq:(im.mk t h).lo (args.length+(fn.ntmps-args.length))=⟨args++List.replicate (fn.ntmps-args.length) gf,h⟩:=by simp only [im.lo,Tm ae]
    have af:=Tl (E:=E) (mj P E n) (args.length+(fn.ntmps-args.length)) n none c ⟨t,h⟩;rw [aq]at af;rw [←af];cases bY:jN E (mj P E n) (args.length+(fn.ntmps-args.length)) n none c ⟨t,h⟩with
    |none=>rfl
    |some I =>
     obtain⟨e,s⟩:=I;simp only [Option.map_some,px];cases e with
     |exit id=>rfl
     |goto l=>rfl
     |normal=>simp only [zF];cases jo E.D fn.results.toList (s.lo (args.length+(fn.ntmps-args.length)))<;>rfl
     |ret=>simp only [zF];cases jo E.D fn.results.toList (s.lo (args.length+(fn.ntmps-args.length)))<;>rfl
end
end
end Go.cH
namespace Go.cH
noncomputable section
abbrev bT:=List (Nat×o)
def g':bT→Nat→Option o
 |[],_=>none
 |(k,v)::r,t=>cond (Nat.beq k t) (some v) (g' r t)
def wl(t:Nat):bT→bT
 |[]=> []
 |(k,v)::r=>cond (Nat.beq k t) (wl t r) ((k,v)::wl t r)
def zH(F:bT)(d:Option Tmp)(v:o):bT :=
 match d with
 |some d=>(d,v)::wl d F
 |none=>F
def py(F:bT):List Nat→bT
 |[]=> []
 |t::r=>match g' F t with|some v=>(t,v)::py F r|none=>py F r
def Has(F:bT)(s:List o):Prop:= ∀t v,g' F t=some v→s[t]? =some v
theorem nx(a b:Nat):(a=b∧Nat.beq a b=true)∨(a≠b∧Nat.beq a b=false):=by
 by_cases h:a=b
 ·exact .inl ⟨h,beq_true h⟩
 ·exact .inr ⟨h,beq_false h⟩
theorem kS(k:Nat)(v:o)(r:bT)(t:Nat):g' ((k,v)::r) t=if k=t then some v else g' r t:=by simp only [g'];rcases nx k t with ⟨h,e⟩|⟨h,e⟩<;>simp [h,e]
theorem D6(d t:Nat)(h:d≠t):∀(F:bT),g' (wl d F) t=g' F t
 |[]=>rfl
 |(k,v)::r=>by
  simp only [wl];rcases nx k d with ⟨ao,e⟩|⟨ao,e⟩
  ·rw [e,cond_true,kS,if_neg (by omega),D6 d t h r]
  ·rw [e,cond_false,kS,kS,D6 d t h r]
theorem Has.set{F:bT}{s:List o}(aq:Has F s){d:Option Tmp}(aD:∀t,d=some t→t<s.length)(v:o):Has (zH F d v) (hR s d v):=by
 cases d with
 |none=>exact aq
 |some d =>
  intro t u hu;have hH:=aD d rfl;simp only [zH,kS]at hu;simp only [hR,List.getElem?_set];by_cases h:d=t
  ·subst h;rw [if_pos rfl]at hu;rw [if_pos rfl,if_pos hH];exact hu
  ·rw [if_neg h,D6 d t h]at hu;rw [if_neg h];exact aq t u hu
theorem wm{F:bT}{t:Nat}{v:o} :∀{l:List Nat},g' (py F l) t=some v→g' F t=some v
 |[],h=>by cases h
 |k ::r,h=>by
  simp only [py]at h;split at h
  ·rename_i u hu;rw [kS]at h;split at h
   ·rename_i e;subst e;rw [hu];exact h
   ·exact wm h
  ·exact wm h
theorem Has.only{F:bT}{s:List o}(aq:Has F s)(l:List Nat):Has (py F l) s:=fun t v h=>aq t v (wm h)
def bR(F:bT):Operand→o
 |.tmp t=>match g' F t with|some v=>v|none=> .undef
 |.const v=>qh v
 |.global _=> .undef
 |.func f=> .func (.func f) [] []
def tS(F:bT):Operand→Bool
 |.tmp t=>match g' F t with|some _=>true|none=>false
 |_=>true
theorem Has.get{F:bT}{s:List o}(aq:Has F s){U:Operand}(ao:tS F U=true):bR F U=dd s U:=by
 cases U with
 |tmp t =>
  simp only [tS]at ao;split at ao
  ·rename_i v a';simp only [bR,dd,a',List.getD_eq_getElem?_getD,aq t v a',Option.getD_some]
  ·cases ao
 |const v=>rfl
 |global g=>rfl
 |func f=>rfl
def D7(ops:Array Oper)(F:bT)(U:Oper):Option Bool :=
 match U.guard with
 |none=>some true
 |some (C,want) =>
  match (ops[C]?).bind (·.dst)with
  |some d =>
   match g' F d with
   |some (.bool b)=>some (b == want)
   |some (.tuple [])=>some false
   |_=>none
  |none=>none
theorem Ko{ops:Array Oper}{F:bT}{s:List o}(aq:Has F s){U:Oper}{b:Bool}(h:D7 ops F U=some b):jn ops s U=some b:=by
 unfold D7 at h;unfold jn;split at h
 ·rename_i ah;simp only [ah];exact h
 ·rename_i C want ah;simp only [ah];split at h
  ·rename_i d aD;simp only [aD];split at h
   ·rename_i iV av;simp only [aq _ _ av];exact h
   ·rename_i av;simp only [aq _ _ av];exact h
   ·cases h
  ·cases h
inductive Hint where
 |val (i:Nat) (v:o)
 |act (i:Nat) (v:o) (g:j→j)
 |D8 (i:Nat) (v:o) (g:j→j)
 |qP (i:Nat) (v:o)
 |go (i:Nat)
 |lX (i:Nat) (e:o)
 |ks (i:Nat) (e:o)
 |guard (i:Nat) (b:Bool)
 |test (t:Nat) (b:Bool)
 |cN (l:List Nat)
 |loop (F:bT) (h:j) (e:dj)
 |cut (F:bT) (h:j) (e:dj)
 |cell (v:o)
 |kt (i:Nat) (v:o) (g:j→j)
 |run (i m:Nat)
 |Kp (i m:Nat)
 |rounds (n:Nat)
 |enter (i:Nat)
def eM:dZ:=fun _ _ _=>none
structure cW(P:Program)(cb:(Nat→Prop)→World→Prop)(f:FuncId)(args:List o)(h:j)(v:o)(aa:j):Prop where
 To:aI P cb f args h v aa
structure hU where
 f:FuncId
 args:List o
 h:j
 v:o
 aa:j
def hU.holds(call:dZ)(k:hU):Prop:=call k.f k.args k.h=some (k.v,k.aa)
abbrev Kq(n:Int):Prop:= -9223372036854775808≤n∧n≤9223372036854775807
def h9(k:IntKind)(n:Int):Prop :=
 match k with
 |.i64=>Kq n
 |.i8=> -128≤n∧n≤127
 |.i32=> -2147483648≤n∧n≤2147483647
 |.u8=>0≤n∧n≤255
 |k=>k.min≤n∧n≤k.max
theorem pz{k:IntKind}{n:Int}(h:h9 k n):k.wrap n=n:=by cases k<;>simp only [h9,Kq,IntKind.min,IntKind.max,IntKind.signed,IntKind.bits,IntKind.wrap]at h⊢ <;>simp at h⊢ <;>omega
def br(k:IntKind)(x y:Int):Int:=k.wrap (BitVec.ofInt k.bits x &&& BitVec.ofInt k.bits y).toNat
def cc(k:IntKind)(x y:Int):Int:=k.wrap (BitVec.ofInt k.bits x ||| BitVec.ofInt k.bits y).toNat
def zI(k:IntKind)(x y:Int):Int:=k.wrap (BitVec.ofInt k.bits x ^^^ BitVec.ofInt k.bits y).toNat
def dO(k:IntKind)(x y:Int):Int:=k.wrap (BitVec.ofInt k.bits x &&& ~~~(BitVec.ofInt k.bits y)).toNat
def e3(k:IntKind)(x y:Int):Int:=k.wrap (x*2^(min y.toNat k.bits))
def bD(k:IntKind)(x y:Int):Int:=x.fdiv (2^(min y.toNat k.bits))
section
variable(P:Program)(E:b4)
def D9(bh : Nat)(bf:Operand→o)(h:j)(U:Op):Option (o×j×Prop) :=
 match U with
 |.binOp op t x y _ =>
  match bf x,bf y with
  |.int k a,.int fa b =>
   match op with
   |.shl=>some (.int k (e3 k a b),h,0≤b)
   |.shr=>some (.int k (bD k a b),h,0≤b)
   |_ =>
   match decEq k fa with
   |isTrue _ =>
    match op with
    |.and=>some (.int k (br k a b),h,True)
    |.or=>some (.int k (cc k a b),h,True)
    |.xor=>some (.int k (zI k a b),h,True)
    |.andNot=>some (.int k (dO k a b),h,True)
    |.add=>some (.int k (a+b),h,h9 k (a+b))
    |.sub=>some (.int k (a-b),h,h9 k (a-b))
    |.mul=>some (.int k (a*b),h,h9 k (a*b))
    |.quo=>some (.int k (a.tdiv b),h,b≠0∧h9 k (a.tdiv b))
    |.rem=>some (.int k (a.tmod b),h,b≠0)
    |_=>none
   |isFalse _=>none
  |.str a,.str b =>
   match op with
   |.add=>some (.str (a++b),h,a.length+b.length<2^62)
   |_=>none
  |_,_=>none
 |.unOp op t x =>
  match op,bf x with
  |.xor,.int k n=>some (.int k (zI k (if k.signed then-1 else k.max) n),h,True)
  |.neg,.int k n=>some (.int k (0-n),h,h9 k (0-n))
  |_,_=>none
 |.index t x i =>
  match E.D t,bf x,bf i with
  |some d,.str s,.int _ i =>
   match d.kind with
   |.string=>some (.int .u8 (s.getD i.toNat 0).toNat,h,0≤i∧i<s.length)
   |_=>none
  |_,_,_=>none
 |.slice t x a7 al fL =>
  match fL with
  |some _=>none
  |none =>
   match E.D t,bf x with
   |some d,.str s =>
    match d.kind with
    |.string =>
     match a7.map bf,al.map bf with
     |none,none=>some (.str s,h,True)
     |some (.int _ l),none=>some (.str (s.drop l.toNat),h,0≤l∧l≤s.length)
     |none,some (.int _ u)=>some (.str (s.take u.toNat),h,0≤u∧u≤s.length)
     |some (.int _ l),some (.int _ u)=>some (.str ((s.take u.toNat).drop l.toNat),h,0≤l∧l≤u∧u≤s.length)
     |_,_=>none
    |_=>none
   |some d,.slice (some a) len cap =>
    match d.kind with
    |.slice e =>
     match E.D e with
     |some cR =>
      cond (Nat.beq a.bP 0&&Nat.beq a.es cR.size)
      (match a7.map bf,al.map bf with
      |none,none=>some (.slice (some a) len cap,h,len≤cap)
      |some (.int _ l),none=>some (.slice (some {a with idx:=a.idx+l.toNat}) (len-l.toNat) (cap-l.toNat),h,0≤l∧l≤len∧len≤cap)
      |none,some (.int _ u)=>some (.slice (some a) u.toNat cap,h,0≤u∧u≤cap)
      |some (.int _ l),some (.int _ u)=>some (.slice (some {a with idx:=a.idx+l.toNat}) (u.toNat-l.toNat) (cap-l.toNat),h,0≤l∧l≤u∧u≤cap)
      |_,_=>none) none
     |none=>none
    |_=>none
   |_,_=>none
 |.indexAddr t x i =>
  match E.D t,bf x,bf i with
  |some d,.slice (some a) len _,.int _ i =>
   match d.kind with
   |.slice e =>
    match E.D e with
    |some cR=>cond (Nat.beq a.bP 0&&Nat.beq a.es cR.size) (some (.ptr (some {a with idx:=a.idx+i.toNat}),h,0≤i∧i<len)) none
    |none=>none
   |_=>none
  |_,_,_=>none
 |.convert s d x =>
  match E.D s,E.D d,bf x with
  |some _,some ft,.int _ n=>match ft.kind with|.int k=>some (.int k n,h,h9 k n)|_=>none
  |_,_,_=>none
 |.call c =>
  match c.callee with
  |.builtin .append =>
   match c.args.toList.map bf,c.argTypes[0]?,c.argTypes[1]? with
   |[.slice (some a) len cap,x],some t,some u =>
    match E.D u,E.D t,h.get a.id with
    |some k8,some d,some b =>
     match d.kind with
     |.slice e =>
      match E.D e with
      |some cR =>
       match eW cR.size x h with
       |some (a1::bL) =>
        cond ((match k8.kind with|.slice _=>true|.string=>true|_=>false)&&Nat.blt 0 cR.size&&cR.rO&&Nat.beq a.bP 0&&Nat.beq a.es cR.size&&!b.exact&&!b.ro&&(match b.an with|none=>true|some q=>Nat.beq q.1 e&&Nat.beq q.2 0))
         (some (.slice (some {a with R:=a.R+1}) (len+(a1::bL).length) (len+(a1::bL).length),h.set a.id (b.grow (a1::bL)),
          a.R=b.R∧a.idx+len=b.bi.length∧cap<len+(a1::bL).length∧(len+(a1::bL).length+(len+(a1::bL).length)/4+512)*cR.bytes≤2^48∧len+(a1::bL).length<2^62)) none
       |_=>none
      |none=>none
     |_=>none
    |_,_,_=>none
   |_,_,_=>none
  |_=>none
 |.makeSlice t l c =>
  match E.D t,bf l,bf c with
  |some d, .int _ l,.int _ c =>
   match d.kind with
   |.slice e =>
    match E.D e with
    |some x =>
     match x.zero with
     |some z =>
      cond (Nat.blt 0 x.size&&z.fits x.kind.isAgg x.size)
       (some (j1 bh x.size l.toNat c.toNat,h.set bh (.made (List.replicate c.toNat z) x.size true),0≤l∧l≤c∧c<2^62∧x.bytes*c≤2^48)) none
     |none=>none
    |none=>none
   |_=>none
  |_,_,_=>none
 |_=>none
theorem Tp{bh:Nat}{bf:Operand→o}{h aa:j}{U:Op}{v:o}{I:Prop}(k:D9 E bh bf h U=some (v,aa,I))(ac:I)(call:dZ):bX E call bh bf h U=some (v,aa):=by
 cases U<;>simp only [D9]at k<;>try (cases k;done)
 case binOp op t x y an =>
  split at k
  ·rename_i aL a aQ b af bY;split at k
   ·simp only [Option.some.injEq,Prod.mk.injEq]at k;obtain⟨rfl,rfl,rfl⟩:=k;simp only [bX,af,bY,n6,vg];rw [if_neg (by omega)];rfl
   ·simp only [Option.some.injEq,Prod.mk.injEq]at k;obtain⟨rfl,rfl,rfl⟩:=k;simp only [bX,af,bY,n6,vg];rw [if_neg (by omega)];rfl
   split at k
   ·rename_i ao _;subst ao;simp only [bX,af,bY,n6];split at k<;>first|(cases k;done)|(simp only [Option.some.injEq,Prod.mk.injEq]at k)
    all_goals (obtain⟨rfl,rfl,rfl⟩:=k)
    ·simp [ke,br]
    ·simp [ke,cc]
    ·simp [ke,zI]
    ·simp [ke,dO]
    ·simp [ke,pz ac]
    ·simp [ke,pz ac]
    ·simp [ke,pz ac]
    ·simp [ke,pz ac.2,ac.1]
    ·simp [ke,ac]
   ·cases k
  ·rename_i a b af bY;split at k
   ·simp only [Option.some.injEq,Prod.mk.injEq]at k;obtain⟨rfl,rfl,rfl⟩:=k;simp only [bX,af,bY,n6,vh];rw [if_pos ac];rfl
   ·cases k
  ·cases k
 case unOp op t x =>
  split at k
  ·rename_i lL n af;simp only [Option.some.injEq,Prod.mk.injEq]at k;obtain⟨rfl,rfl,rfl⟩:=k;simp [bX,af,vi,ke,zI]
  ·rename_i lL n af;simp only [Option.some.injEq,Prod.mk.injEq]at k;obtain⟨rfl,rfl,rfl⟩:=k;simp only [bX,af,vi,pz ac];rfl
  ·cases k
 case index t x i =>
  split at k
  ·rename_i d s lL i aD af al;split at k
   ·rename_i ao;simp only [Option.some.injEq,Prod.mk.injEq]at k;obtain⟨rfl,rfl,rfl⟩:=k;simp only [bX,af,al,n7,aD,ao];rw [if_pos ac.1];have cM:i.toNat<s.length:=by have:=ac.2;omega
    simp [List.getD_eq_getElem?_getD,List.getElem?_eq_getElem cM]
   ·cases k
  ·cases k
 case slice t x a7 al fL =>
  split at k
  ·cases k
  ·split at k
   ·rename_i d s aD af;split at k
    ·rename_i ao;split at k<;>first|(cases k;done)|(simp only [Option.some.injEq,Prod.mk.injEq]at k)
     all_goals (obtain⟨rfl,rfl,rfl⟩:=k)
     ·rename_i p ae;simp [bX,af,p,ae,kf,aD,ao,gX]
     ·rename_i aL l p ae;simp only [bX,af,p,ae,kf,aD,ao,gX,Option.map_none,Option.isSome_none,Bool.false_eq_true,if_false];rw [if_pos ⟨ac.1,ac.2⟩];simp
     ·rename_i aL u p ae;simp only [bX,af,p,ae,kf,aD,ao,gX,Option.map_none,Option.isSome_none,Bool.false_eq_true,if_false];rw [if_pos ⟨ac.1,ac.2⟩];simp
     ·rename_i aL l aQ u p ae;simp only [bX,af,p,ae,kf,aD,ao,gX,Option.map_none,Option.isSome_none,Bool.false_eq_true,if_false];rw [if_pos ⟨by omega,ac.2.2⟩];simp only;rw [if_pos ⟨ac.1,by omega⟩];simp
    ·cases k
   ·rename_i d a len cap aD af;split at k
    ·rename_i e ao;split at k
     ·rename_i cR fN;cases aC:(Nat.beq a.bP 0&&Nat.beq a.es cR.size)with
      |false=>rw [aC]at k;cases k
      |true =>
       rw [aC,cond_true]at k;simp only [Bool.and_eq_true]at aC;have dK:=Nat.eq_of_beq_eq_true aC.1;have dL:=Nat.eq_of_beq_eq_true aC.2;split at k<;>first|(cases k;done)|(simp only [Option.some.injEq,Prod.mk.injEq]at k)
       all_goals (obtain⟨rfl,rfl,rfl⟩:=k)
       ·rename_i p ae;have:len≤cap:=ac;cases a;simp only at dK dL;simp [bX,af,p,ae,kf,aD,ao,gX,fN,dK,dL]
       ·rename_i aL l p ae;simp only [bX,af,p,ae,kf,aD,ao,gX,fN,Option.map_none,Option.isSome_none,Bool.false_eq_true,if_false];rw [if_pos ⟨ac.1,ac.2.1⟩];simp [dK,dL]
       ·rename_i aL u p ae;simp only [bX,af,p,ae,kf,aD,ao,gX,fN,Option.map_none,Option.isSome_none,Bool.false_eq_true,if_false];rw [if_pos ⟨ac.1,ac.2⟩];cases a;simp only at dK dL;simp [dK,dL]
       ·rename_i aL l aQ u p ae;simp only [bX,af,p,ae,kf,aD,ao,gX,fN,Option.map_none,Option.isSome_none,Bool.false_eq_true,if_false];rw [if_pos ⟨by omega,ac.2.2⟩];simp only;rw [if_pos ⟨ac.1,by omega⟩];simp [dK,dL]
     ·cases k
    ·cases k
   ·cases k
 case indexAddr t x i =>
  split at k
  ·rename_i d a len c lL i aD af al;split at k
   ·rename_i e he;split at k
    ·rename_i cR fN;cases aC:(Nat.beq a.bP 0&&Nat.beq a.es cR.size)with
     |false=>rw [aC]at k;cases k
     |true =>
      rw [aC,cond_true]at k;simp only [Bool.and_eq_true]at aC;simp only [Option.some.injEq,Prod.mk.injEq]at k;obtain⟨rfl,rfl,rfl⟩:=k;simp only [bX,af,al,rN,aD,he,fN];rw [if_pos ⟨ac.1,ac.2,Nat.eq_of_beq_eq_true aC.2,Nat.eq_of_beq_eq_true aC.1⟩];rfl
    ·cases k
   ·cases k
  ·cases k
 case convert s d x =>
  split at k
  ·rename_i nk ft lL n aq aD af;split at k
   ·rename_i aQ cw;simp only [Option.some.injEq,Prod.mk.injEq]at k;obtain⟨rfl,rfl,rfl⟩:=k;simp [bX,af,vl,aq,aD,cw,pz ac]
   ·cases k
  ·cases k
 case call c =>
  split at k
  ·rename_i av;split at k
   ·rename_i a len cap x t u gx b7 hu;split at k
    ·rename_i k8 d b ms aD ah;split at k
     ·rename_i e ao;split at k
      ·rename_i cR fN;split at k
       ·rename_i a1 bL fC;generalize fb:a1::bL=new at k fC;have bZ:new≠[]:=by rw [←fb];simp
        generalize aC:((match k8.kind with|.slice _=>true|.string=>true|_=>false)&&Nat.blt 0 cR.size&&cR.rO&&Nat.beq a.bP 0&&Nat.beq a.es cR.size&&!b.exact&&!b.ro&&(match b.an with|none=>true|some q=>Nat.beq q.1 e&&Nat.beq q.2 0))=Tq at k;cases Tq with
        |false=>cases k
        |true =>
         rw [cond_true]at k;simp only [Option.some.injEq,Prod.mk.injEq]at k;obtain⟨rfl,rfl,rfl⟩:=k;simp only [Bool.and_eq_true,Bool.not_eq_true']at aC;obtain⟨⟨⟨⟨⟨⟨⟨dJ,ef⟩,fR⟩,kP⟩,lT⟩,kp⟩,pq⟩,mq⟩:=aC;obtain⟨eU,ik,oz,Tr,Ts⟩:=ac;have dK:=Nat.eq_of_beq_eq_true kP;have dL:=Nat.eq_of_beq_eq_true lT
         have kJ:b.an=none∨b.an=some (e,0):=by
          cases Tt:b.an with
          |none=>exact .inl rfl
          |some q =>
           rw [Tt]at mq;simp only [Bool.and_eq_true]at mq;exact .inr (by rw [←Nat.eq_of_beq_eq_true mq.1,←Nat.eq_of_beq_eq_true mq.2])
         have Tu:hi E.D t (.slice (some a) len cap) x bh h=some (.slice (some {a with R:=a.R+1}) (len+new.length) (len+new.length),h.set a.id (b.grow new)):=by simp only [hi,aD,ao,fN,fC];rw [if_pos ⟨Nat.blt_eq.mp ef,Tr,Ts,fR⟩,if_pos ⟨dL,dK⟩];simp only [ah];rw [if_neg (by omega),if_neg (by rw [kp];simp),if_pos ⟨pq,eU,ik,bZ,kJ⟩]
         simp only [bX,av,gx,gn,b7,hu,ms];cases Dh:k8.kind<;>rw [Dh]at dJ<;>simp only [Bool.false_eq_true]at dJ<;>exact Tu
       ·cases k
      ·cases k
     ·cases k
    ·cases k
   ·cases k
  ·cases k
 case makeSlice t l c =>
  split at k
  ·rename_i d aL c3 aQ fr aD aB ar;split at k
   ·rename_i e he;split at k
    ·rename_i x af;split at k
     ·rename_i z eO;cases av:(Nat.blt 0 x.size&&z.fits x.kind.isAgg x.size)with
      |false=>rw [av]at k;cases k
      |true =>
       rw [av,cond_true]at k;simp only [Option.some.injEq,Prod.mk.injEq]at k;obtain⟨rfl,rfl,rfl⟩:=k;simp only [Bool.and_eq_true]at av;simp only [bX,aB,ar,vj,aD,he,af,eO];rw [if_pos ⟨ac.1,ac.2.1,ac.2.2.1,ac.2.2.2,Nat.blt_eq.mp av.1,av.2⟩]
     ·cases k
    ·cases k
   ·cases k
  ·cases k
def D'(bf:Operand→o)(h:j)(U:Op)(e:o):Option (o×Prop) :=
 match U with
 |.load t x =>
  match bf x with
  |.ptr (some a) =>
   match E.D t,h.get a.id with
   |some d,some b =>
    match iR d.kind.isAgg d.size a.bP e with
    |some v=>some (v,b.elem? a.R a.idx=some e)
    |none=>none
   |_,_=>none
  |_=>none
 |_=>none
theorem Tv{bh:Nat}{bf:Operand→o}{h:j}{U:Op}{e v:o}{I:Prop}(k:D' E bf h U e=some (v,I))(ac:I)(call:dZ):bX E call bh bf h U=some (v,h):=by
 unfold D' at k;split at k
 ·rename_i t x;split at k
  ·rename_i a aS;split at k
   ·rename_i d b aD av;split at k
    ·rename_i bp a';simp only [Option.some.injEq,Prod.mk.injEq]at k;obtain⟨rfl,rfl⟩:=k;simp [bX,aS,cj,aD,av,ac,a']
    ·cases k
   ·cases k
  ·cases k
 ·cases k
def stOp(bf:Operand→o)(h:j)(U:Op)(e:o):Option (j×Prop) :=
 match U with
 |.store t x y =>
  match bf x with
  |.ptr (some a) =>
   match E.D t,h.get a.id with
   |some d,some b =>
    cond ((bf y).fits d.kind.isAgg d.size&&!b.ro)
     (match rL a.bP (bf y) e with
     |some dT=>some (h.set a.id {b with bi:=b.bi.set a.idx dT,fQ:=b.R},a.R=b.R∧b.bi[a.idx]? =some e)
     |none=>none) none
   |_,_=>none
  |_=>none
 |_=>none
theorem Tw{bh:Nat}{bf:Operand→o}{h aa:j}{U:Op}{e:o}{I:Prop}(k:stOp E bf h U e=some (aa,I))(ac:I)(call:dZ):bX E call bh bf h U=some (gf,aa):=by
 unfold stOp at k;split at k
 ·rename_i t x y;split at k
  ·rename_i a aS;split at k
   ·rename_i d b aD av;cases ar:((bf y).fits d.kind.isAgg d.size&&!b.ro)with
    |false=>rw [ar]at k;cases k
    |true =>
     rw [ar,cond_true]at k;split at k
     ·rename_i dT he;simp only [Option.some.injEq,Prod.mk.injEq]at k;obtain⟨rfl,rfl⟩:=k;simp [bX,aS,iA,aD,av,ac.1,ac.2,he,ar]
     ·cases k
   ·cases k
  ·cases k
 ·cases k
def mE(bh:Nat)(bf:Operand→o)(h:j)(U:Op)(v:o)(aa:j):Prop×List hU :=
 match U with
 |.call c =>
  match c.callee with
  |.value f=>match bf f with|.func (.func g) cV bn=>(cW P E.cond g (cV++c.args.toList.map bf++bn) h v aa,[⟨g,cV++c.args.toList.map bf++bn,h,v,aa⟩])|_=>(False,[])
  |.builtin b=>(gn E b c.argTypes (c.args.toList.map bf) bh h=some (v,aa),[])
  |_=>(False,[])
 |U=>(bX E eM bh bf h U=some (v,aa),[])
def jO(bh:Nat)(bf:Operand→o)(h:j)(U:Op)(v:o):Prop×List hU :=
 match U with
 |.load t x=>(match bf x with|.ptr (some a)=>cj E.D t a h=some v|_=>False,[])
 |.indexAddr t x i=>(rN E.D t (bf x) (bf i)=some v,[])
 |.index t x i=>(n7 E.D t (bf x) (bf i)=some v,[])
 |.slice t x a7 al fL=>(kf E.D t (bf x) (a7.map bf) (al.map bf) (fL.map bf)=some v,[])
 |.binOp op t x y _=>(n6 E.D E.ie (n8 x || n8 y) op t (bf x) (bf y)=some v,[])
 |U=>mE P E bh bf h U v h
def tT:Op→Bool
 |.call c=>match c.callee with|.value _=>false|_=>true
 |_=>true
theorem zJ{bh:Nat}{bf:Operand→o}{h:j}{U:Op}(ac:tT U=true)(call:dZ):bX E eM bh bf h U=bX E call bh bf h U:=by
 cases U
 case call c =>
  simp only [tT]at ac;cases ar:c.callee<;>simp only [ar]at ac<;>simp only [bX,ar];cases ac
 case makeFunc f a b=>cases f<;>rfl
 all_goals rfl
theorem Ea{bh:Nat}{bf:Operand→o}{h:j}{U:Op}{v:o}{aa:j}(k:(mE P E bh bf h U v aa).1){call:dZ}(ar:∀c∈(mE P E bh bf h U v aa).2,c.holds call) :
 bX E call bh bf h U=some (v,aa):=by
 cases U
 case call c =>
  simp only [mE]at k ar;split at k
  ·rename_i f a6;simp only [a6]at ar;split at k
   ·rename_i g cV bn ah;simp only [ah]at ar;simp only [bX,a6,ah,n9];exact ar _ (List.mem_singleton.2 rfl)
   ·exact k.elim
  ·rename_i b av;simp only [bX,av];exact k
  ·exact k.elim
 all_goals exact(zJ E rfl call).symm.trans k
theorem Kr{bh:Nat}{bf:Operand→o}{h:j}{U:Op}{v:o}(k:(jO P E bh bf h U v).1){call:dZ}(ar:∀c∈(jO P E bh bf h U v).2,c.holds call) :
 bX E call bh bf h U=some (v,h):=by
 cases U
 case load t x =>
  simp only [jO]at k;split at k
  ·rename_i a aS;simp only [bX,aS,k];rfl
  ·exact k.elim
 case indexAddr t x i=>simp only [jO]at k;simp only [bX,k];rfl
 case index t x i=>simp only [jO]at k;simp only [bX,k];rfl
 case slice t x a7 al fL=>simp only [jO]at k;simp only [bX,k];rfl
 case binOp op t x y z=>simp only [jO]at k;simp only [bX,k];rfl
 all_goals exact Ea P E k ar
theorem Eb{bh:Nat}{bf:Operand→o}{h:j}{U:Op}{v:o}{aa:j}(k:(mE P E bh bf h U v aa).1):∀c∈(mE P E bh bf h U v aa).2,aI P E.cond c.f c.args c.h c.v c.aa:=by
 cases U
 case call n4 =>
  simp only [mE]at k⊢;cases ec:n4.callee with
  |value f =>
   rw [ec]at k;simp only at k⊢;cases a6:bf f with
   |func fn cV bn =>
    rw [a6]at k;cases fn with
    |func g =>
     simp only at k⊢;intro c ar;simp only [List.mem_singleton]at ar;subst ar;exact k.To
    |_=>exact k.elim
   |_=>rw [a6]at k;exact k.elim
  |invoke r m=>rw [ec]at k;exact k.elim
  |builtin b=>intro c ar;simp at ar
 all_goals (intro c ar;simp [mE]at ar)
theorem Ks{bh:Nat}{bf:Operand→o}{h:j}{U:Op}{v:o}(k:(jO P E bh bf h U v).1):∀c∈(jO P E bh bf h U v).2,aI P E.cond c.f c.args c.h c.v c.aa:=by
 cases U;case load t x=>intro c ar;simp [jO]at ar
 case indexAddr t x i=>intro c ar;simp [jO]at ar
 case index t x i=>intro c ar;simp [jO]at ar
 case slice t x a7 al fL=>intro c ar;simp [jO]at ar
 case binOp op t x y z=>intro c ar;simp [jO]at ar
 all_goals exact Eb P E k
def b0(l:List Prop):Prop:= ∀I∈l,I
theorem b0.head{I:Prop}{l:List Prop}(h:b0 (I::l)):I:=h I (by simp)
theorem b0.tail{I:Prop}{l:List Prop}(h:b0 (I::l)):b0 l:=fun q aC=>h q (by simp [aC])
theorem b0.left{a b:List Prop}(h:b0 (a++b)):b0 a:=fun I ac=>h I (by simp [ac])
theorem b0.right{a b:List Prop}(h:b0 (a++b)):b0 b:=fun I ac=>h I (by simp [ac])
def iH(ops:Array Oper)(aj i:Nat)(bf:Operand→o)(h:j)(U:Op)(aa:j):List Prop :=
 match eJ U with
 |.load=>match kg bf U with|some b=>cond (Nat.blt b aj || (Nat.blt b (aj+ops.size)&&(ordered (er ops) (b-aj) i&&!pb ops (er ops) i))) [] [False]|none=> [False]
 |.store=>match nl bf U with|some b=>cond (mh ops (er ops) i&&Nat.blt b aj) [False] []|none=> [False]
 |.call=>cond (mh ops (er ops) i) [qo (aj+ops.size) h aa=true] []
 |.gy=>cond (pc ops aj i (h5 bf U)) [] [False]
 |_=> []
def Ec(aj N:Nat):List Nat→List Prop
 |[]=> []
 |b::r=>(b<aj∨N≤b)::Ec aj N r
def zK(ops:Array Oper)(aj:Nat)(bf:Operand→o)(U:Op):List Prop :=
 match eJ U with
 |.load=>match kg bf U with|some b=> [b<aj]|none=> [False]
 |.gy=>Ec aj (aj+ops.size) (h5 bf U)
 |_=> [False]
theorem Kt{aj N:Nat} :∀{l:List Nat},b0 (Ec aj N l)→ ∀b∈l,b<aj∨N≤b
 |[],_,b,av=>by cases av
 |a::r,h,b,av=>by
  rcases List.mem_cons.1 av with rfl|av
  ·exact h.head
  ·exact Kt h.tail b av
theorem Ku{ops:Array Oper}{aj i:Nat}{bf:Operand→o}{h aa:j}{U:Op}(k:b0 (zK ops aj bf U)):b0 (iH ops aj i bf h U aa):=by
 unfold zK at k;unfold iH;split at k
 ·rename_i ar;rw [ar];simp only;split at k
  ·rename_i b av;have:Nat.blt b aj=true:=Nat.blt_eq.mpr k.head;rw [this];intro I ac;cases ac
  ·exact k.head.elim
 ·rename_i ar;rw [ar];simp only
  have:pc ops aj i (h5 bf U)=true:=by
   unfold pc;rw [List.all_eq_true];intro b av;rcases Kt k b av with h|h
   ·simp [h]
   ·simp [h]
  rw [this];intro I ac;cases ac
 ·exact k.head.elim
abbrev Ed:=Option (o×j×List Hint×List Prop×List hU)
def oA(draw:Bool)(ops:Array Oper)(aj i:Nat)(F:bT)(h:j)(U:Op)(aq:List Hint):Ed :=
 cond (tT U)
  (match bX E eM (aj+i) (bR F) h U with
  |some (v,aa)=>some (v,aa,aq,cond draw (iH ops aj i (bR F) h U aa) [],[])
  |none=>cond (!draw || (iT U&&(k9 ops i || iU ops aj i (bR F) U))) (match eB E (aj+i) (bR F) h U with|some (v,aa)=>some (v,aa,aq,[],[])|none=>none) none) none
abbrev tU:=FuncId→List o→j→List Hint→Option (o×j×List Hint×List Prop)
def wo(fJ:tU)(draw:Bool)(ops:Array Oper)(aj i:Nat)(F:bT)(h:j)(U:Op)(x:Hint)(aq:List Hint):Ed :=
 match x with
 |.enter _ =>
  match U with
  |.call c =>
   match c.callee with
   |.value f =>
    match bR F f with
    |.func (.func g) cV bn =>
     match fJ g (cV++c.args.toList.map (bR F)++bn) h aq with
     |some (v,aa,eK,zg)=>some (v,aa,eK,cond draw (iH ops aj i (bR F) h U aa) []++zg,[⟨g,cV++c.args.toList.map (bR F)++bn,h,v,aa⟩])
     |none=>none
    |_=>none
   |_=>none
  |_=>none
 |.val _ v=>some (v,h,aq,(jO P E (aj+i) (bR F) h U v).1::cond draw (iH ops aj i (bR F) h U h) [],(jO P E (aj+i) (bR F) h U v).2)
 |.act _ v g=>some (v,g h,aq,(mE P E (aj+i) (bR F) h U v (g h)).1::cond draw (iH ops aj i (bR F) h U (g h)) [],(mE P E (aj+i) (bR F) h U v (g h)).2)
 |.D8 _ v g=>some (v,g h,aq,(mE P E (aj+i) (bR F) h U v (g h)).1::cond draw (zK ops aj (bR F) U) [],(mE P E (aj+i) (bR F) h U v (g h)).2)
 |.qP _ v=>some (v,h,aq,(jO P E (aj+i) (bR F) h U v).1::cond draw (zK ops aj (bR F) U) [],(jO P E (aj+i) (bR F) h U v).2)
 |.go _ =>
  match D9 E (aj+i) (bR F) h U with
  |some (v,aa,I)=>some (v,aa,aq,I::cond draw (iH ops aj i (bR F) h U aa) [],[])
  |none=>none
 |.lX _ e =>
  match D' E (bR F) h U e with
  |some (v,I)=>some (v,h,aq,I::cond draw (iH ops aj i (bR F) h U h) [],[])
  |none=>none
 |.ks _ e =>
  match stOp E (bR F) h U e with
  |some (aa,I)=>some (gf,aa,aq,I::cond draw (iH ops aj i (bR F) h U aa) [],[])
  |none=>none
 |.kt _ v g =>
  cond (iT U&&(!draw || (k9 ops i || iU ops aj i (bR F) U)))
  (match bX E eM (aj+i) (bR F) h U with
  |none=>some (v,g h,aq,[eB E (aj+i) (bR F) h U=some (v,g h)],[])
  |some _=>none) none
 |.run _ m =>
  match U with
  |.call c =>
   match c.callee with
   |.value f =>
    match bR F f with
    |.func (.func g) cV bn =>
     match mj P E m g (cV++c.args.toList.map (bR F)++bn) h with
     |some (v,aa)=>some (v,aa,aq,cond draw (iH ops aj i (bR F) h U aa) [],[⟨g,cV++c.args.toList.map (bR F)++bn,h,v,aa⟩])
     |none=>none
    |_=>none
   |_=>none
  |_=>none
 |.Kp _ m =>
  match U with
  |.call c =>
   match c.callee with
   |.value f =>
    match bR F f with
    |.func (.func g) cV bn =>
     match oy P E m g (cV++c.args.toList.map (bR F)++bn) h with
     |some (v,aa)=>some (v,aa,aq,cond draw (iH ops aj i (bR F) h U aa) [],[⟨g,cV++c.args.toList.map (bR F)++bn,h,v,aa⟩])
     |none=>none
    |_=>none
   |_=>none
  |_=>none
 |_=>none
def Hint.at:Hint→Option Nat
 |.val i _=>some i
 |.act i _ _=>some i
 |.D8 i _ _=>some i
 |.qP i _=>some i
 |.go i=>some i
 |.lX i _=>some i
 |.ks i _=>some i
 |.kt i _ _=>some i
 |.run i _=>some i
 |.Kp i _=>some i
 |.enter i=>some i
 |_=>none
def pop(fJ:tU)(q:Nat)(ops:Array Oper)(draw:Bool)(aj i:Nat)(F:bT)(h:j)(U:Op)(aq:List Hint):Ed :=
 match aq with
 |x::r =>
  match x.at with
  |some C=>cond (Nat.beq (1000*q+i) C) (wo P E fJ draw ops aj i F h U x r) (oA E draw ops aj i F h U aq)
  |none=>oA E draw ops aj i F h U aq
 |[]=>oA E draw ops aj i F h U aq
def kT(call:dZ)(ops:Array Oper)(draw:Bool)(aj i:Nat)(bf:Operand→o)(h:j)(U:Op):Option (o×j) :=
 if draw then fx E call ops aj i bf h U else jm E call (aj+i) bf h U
theorem Tx{bh:Nat}{bf dW:Operand→o}{h:j}{U:Op}(cZ:∀x∈U.operands.toList,bf x=dW x):eB E bh bf h U=eB E bh dW h U:=by
 cases U
 case call c =>
  simp only [Op.operands,Call.operands,Array.toList_append,List.mem_append]at cZ;simp only [eB];have aS:=tH (xs:=c.args) (fun x af=>cZ x (.inr af));cases iY:c.callee with
  |value f =>
   rw [iY]at cZ;simp only [aS,cZ f (.inl (by simp))]
  |invoke r m=>rfl
  |builtin b=>rfl
 case convert s d x =>
  simp only [Op.operands]at cZ;simp only [eB];rw [cZ x (by simp)]
 all_goals rfl
theorem Ty{U:Op}(h:iT U=true):eJ U=.pure:=by cases U<;>simp only [iT,Bool.false_eq_true]at h<;>rfl
theorem Ee{call:dZ}{ops:Array Oper}{draw:Bool}{aj i:Nat}{bf:Operand→o}{h aa:j}{U:Op}{v:o}(aS:bX E call (aj+i) bf h U=none)(af:eB E (aj+i) bf h U=some (v,aa))
 (aD:draw=true→iT U=true∧(k9 ops i=true∨iU ops aj i bf U=true)):kT E call ops draw aj i bf h U=some (v,aa):=by
 unfold kT;cases draw with
 |false=>simp only [Bool.false_eq_true,if_false,jm,aS,af]
 |true =>
  obtain⟨p,ae⟩:=aD rfl;simp only [if_true];unfold fx;simp only [Ty p,aS,p,ae,and_self,if_true,af]
theorem jP{call:dZ}{ops:Array Oper}{draw:Bool}{aj i:Nat}{bf:Operand→o}{h aa:j}{U:Op}{v:o}(aS:bX E call (aj+i) bf h U=some (v,aa))(aD:b0 (cond draw (iH ops aj i bf h U aa) [])) :
 kT E call ops draw aj i bf h U=some (v,aa):=by
 unfold kT;cases draw with
 |false=>simp only [Bool.false_eq_true,if_false,jm,aS]
 |true =>
  have aD:b0 (iH ops aj i bf h U aa):=aD;simp only [if_true];unfold fx;unfold iH at aD;cases hl:eJ U<;>simp only [hl]at aD⊢ <;>try exact aS
  ·rw [aS]
  ·split
   ·rename_i b av;rw [av]at aD;simp only at aD;cases aC:(Nat.blt b aj || (Nat.blt b (aj+ops.size)&&(ordered (er ops) (b-aj) i&&!pb ops (er ops) i)))with
    |false=>rw [aC]at aD;exact aD.head.elim
    |true =>
     simp only [Bool.or_eq_true,Bool.and_eq_true,Bool.not_eq_true']at aC;rw [if_pos]
     ·exact aS
     ·rcases aC with aC|⟨aC,eE,Tz⟩
      ·exact .inl (Nat.blt_eq.mp aC)
      ·exact .inr ⟨Nat.blt_eq.mp aC,eE,Tz⟩
   ·rename_i av;rw [av]at aD;exact aD.head.elim
  ·split
   ·rename_i b av;rw [av]at aD;simp only at aD;cases aC:(mh ops (er ops) i&&Nat.blt b aj)with
    |true=>rw [aC]at aD;exact aD.head.elim
    |false =>
     rw [if_neg]
     ·exact aS
     ·rintro ⟨p,ae⟩;rw [p,Nat.blt_eq.mpr ae]at aC;cases aC
   ·rename_i av;rw [av]at aD;exact aD.head.elim
  ·simp only [aS];cases aB:mh ops (er ops) i with
   |false=>simp
   |true =>
    rw [aB,cond_true]at aD;simp only [if_true];rw [if_pos aD.head]
  ·cases aC:pc ops aj i (h5 bf U)with
   |true=>simp [aS]
   |false=>rw [aC]at aD;exact aD.head.elim
theorem Ef{ops:Array Oper}{draw:Bool}{aj i:Nat}{F:bT}{h aa:j}{U:Op}{aq eK:List Hint}{v:o}{bn:List Prop}{bl:List hU}(ac:oA E draw ops aj i F h U aq=some (v,aa,eK,bn,bl))(ar:b0 bn)(call:dZ) :
 kT E call ops draw aj i (bR F) h U=some (v,aa):=by
 unfold oA at ac;cases av:tT U
 ·rw [av]at ac;cases ac
 ·rw [av,cond_true]at ac;split at ac
  ·rename_i v1 p aS;simp only [Option.some.injEq,Prod.mk.injEq]at ac;obtain⟨rfl,rfl,_,rfl,_⟩:=ac;exact jP E ((zJ E av call).symm.trans aS) ar
  ·rename_i aS;cases aC:(!draw || (iT U&&(k9 ops i || iU ops aj i (bR F) U)))with
   |false=>rw [aC]at ac;cases ac
   |true =>
    rw [aC,cond_true]at ac;split at ac
    ·rename_i v1 p af;simp only [Option.some.injEq,Prod.mk.injEq]at ac;obtain⟨rfl,rfl,_,rfl,_⟩:=ac;refine Ee E ((zJ E av call).symm.trans aS) af fun tA=> ?_
     rw [tA]at aC;simpa using aC
    ·cases ac
theorem TA{fJ:tU}{ops:Array Oper}{draw:Bool}{aj i:Nat}{F:bT}{h aa:j}{U:Op}{x:Hint}{aq eK:List Hint}{v:o}{bn:List Prop}{bl:List hU}(ac:wo P E fJ draw ops aj i F h U x aq=some (v,aa,eK,bn,bl))(ar:b0 bn){call:dZ}
 (ao:∀c∈bl,c.holds call):kT E call ops draw aj i (bR F) h U=some (v,aa):=by
 unfold wo at ac;split at ac
 ·split at ac
  ·rename_i c;split at ac
   ·rename_i f a6;split at ac
    ·rename_i g cV so ah;split at ac
     ·rename_i v1 p et zg fV;simp only [Option.some.injEq,Prod.mk.injEq]at ac;obtain⟨rfl,rfl,_,rfl,rfl⟩:=ac;refine jP E ?_ ar.left;simp only [bX,a6,ah,n9];exact ao _ (List.mem_singleton.2 rfl)
     ·cases ac
    ·cases ac
   ·cases ac
  ·cases ac
 ·simp only [Option.some.injEq,Prod.mk.injEq]at ac;obtain⟨rfl,rfl,_,rfl,rfl⟩:=ac;exact jP E (Kr P E ar.head ao) ar.tail
 ·simp only [Option.some.injEq,Prod.mk.injEq]at ac;obtain⟨rfl,rfl,_,rfl,rfl⟩:=ac;exact jP E (Ea P E ar.head ao) ar.tail
 ·simp only [Option.some.injEq,Prod.mk.injEq]at ac;obtain⟨rfl,rfl,_,rfl,rfl⟩:=ac;refine jP E (Ea P E ar.head ao) ?_;have b7:=ar.tail;cases draw with
  |false=>intro I ac;cases ac
  |true=>exact Ku b7
 ·simp only [Option.some.injEq,Prod.mk.injEq]at ac;obtain⟨rfl,rfl,_,rfl,rfl⟩:=ac;refine jP E (Kr P E ar.head ao) ?_;have b7:=ar.tail;cases draw with
  |false=>intro I ac;cases ac
  |true=>exact Ku b7
 ·split at ac
  ·rename_i v1 p I ah;simp only [Option.some.injEq,Prod.mk.injEq]at ac;obtain⟨rfl,rfl,_,rfl,_⟩:=ac;exact jP E (Tp E ah ar.head call) ar.tail
  ·cases ac
 ·split at ac
  ·rename_i v1 I ah;simp only [Option.some.injEq,Prod.mk.injEq]at ac;obtain⟨rfl,rfl,_,rfl,_⟩:=ac;exact jP E (Tv E ah ar.head call) ar.tail
  ·cases ac
 ·split at ac
  ·rename_i p I ah;simp only [Option.some.injEq,Prod.mk.injEq]at ac;obtain⟨rfl,rfl,_,rfl,_⟩:=ac;exact jP E (Tw E ah ar.head call) ar.tail
  ·cases ac
 ·cases aC:(iT U&&(!draw || (k9 ops i || iU ops aj i (bR F) U)))with
  |false=>rw [aC]at ac;cases ac
  |true =>
   rw [aC,cond_true]at ac;simp only [Bool.and_eq_true]at aC;split at ac
   ·rename_i aS;simp only [Option.some.injEq,Prod.mk.injEq]at ac;obtain⟨rfl,rfl,_,rfl,_⟩:=ac
    have qx:tT U=true:=by cases U<;>first|rfl|(simp [iT]at aC)
    refine Ee E ((zJ E qx call).symm.trans aS) ar.head fun tA=>⟨aC.1,?_⟩
    have:=aC.2;rw [tA]at this;simpa using this
   ·cases ac
 ·split at ac
  ·rename_i c;split at ac
   ·rename_i f a6;split at ac
    ·rename_i g cV so ah;split at ac
     ·rename_i v1 p fV;simp only [Option.some.injEq,Prod.mk.injEq]at ac;obtain⟨rfl,rfl,_,rfl,rfl⟩:=ac;refine jP E ?_ ar;simp only [bX,a6,ah,n9];exact ao _ (List.mem_singleton.2 rfl)
     ·cases ac
    ·cases ac
   ·cases ac
  ·cases ac
 ·split at ac
  ·rename_i c;split at ac
   ·rename_i f a6;split at ac
    ·rename_i g cV so ah;split at ac
     ·rename_i v1 p fV;simp only [Option.some.injEq,Prod.mk.injEq]at ac;obtain⟨rfl,rfl,_,rfl,rfl⟩:=ac;refine jP E ?_ ar;simp only [bX,a6,ah,n9];exact ao _ (List.mem_singleton.2 rfl)
     ·cases ac
    ·cases ac
   ·cases ac
  ·cases ac
 ·cases ac
theorem Kv{fJ:tU}{q:Nat}{ops:Array Oper}{draw:Bool}{aj i:Nat}{F:bT}{h aa:j}{U:Op}{aq eK:List Hint}{v:o}{bn:List Prop}{bl:List hU}(ac:pop P E fJ q ops draw aj i F h U aq=some (v,aa,eK,bn,bl))(ar:b0 bn){call:dZ}
 (ao:∀c∈bl,c.holds call):kT E call ops draw aj i (bR F) h U=some (v,aa):=by
 unfold pop at ac;split at ac
 ·split at ac
  ·rename_i C aX;cases av:Nat.beq (1000*q+i) C
   ·rw [av,cond_false]at ac;exact Ef E ac ar call
   ·rw [av,cond_true]at ac;exact TA P E ac ar ao
  ·exact Ef E ac ar call
 ·exact Ef E ac ar call
def Eg(fJ:tU):Prop:= ∀f args h aq v aa eK bn,fJ f args h aq=some (v,aa,eK,bn)→b0 bn→aI P E.cond f args h v aa
theorem Kw(cA:ho P E)(eY:P.follows .mixedOrders=true){fJ:tU}(ku:Eg P E fJ){q:Nat}{ops:Array Oper}{draw:Bool}{aj i:Nat}{F:bT}{h aa:j}{U:Op}{aq eK:List Hint}{v:o}{bn:List Prop}{bl:List hU}(ac:pop P E fJ q ops draw aj i F h U aq=some (v,aa,eK,bn,bl))(ar:b0 bn) :
 ∀c∈bl,aI P E.cond c.f c.args c.h c.v c.aa:=by
 have plain:∀{nh:List Hint},oA E draw ops aj i F h U nh=some (v,aa,eK,bn,bl)→ ∀c∈bl,aI P E.cond c.f c.args c.h c.v c.aa:=by
  intro nh ac;unfold oA at ac;cases av:tT U
  ·rw [av]at ac;cases ac
  ·rw [av,cond_true]at ac;split at ac
   ·simp only [Option.some.injEq,Prod.mk.injEq]at ac;obtain⟨_,_,_,_,rfl⟩:=ac;intro c ar;simp at ar
   ·cases aC:(!draw || (iT U&&(k9 ops i || iU ops aj i (bR F) U)))with
    |false=>rw [aC]at ac;cases ac
    |true =>
     rw [aC,cond_true]at ac;split at ac
     ·simp only [Option.some.injEq,Prod.mk.injEq]at ac;obtain⟨_,_,_,_,rfl⟩:=ac;intro c ar;simp at ar
     ·cases ac
 unfold pop at ac;split at ac
 ·split at ac
  ·rename_i C aX;cases av:Nat.beq (1000*q+i) C
   ·rw [av,cond_false]at ac;exact plain ac
   ·rw [av, cond_true]at ac;unfold wo at ac;split at ac
    ·split at ac
     ·split at ac
      ·split at ac
       ·split at ac
        ·rename_i fV;simp only [Option.some.injEq,Prod.mk.injEq]at ac;obtain⟨_,_,_,rfl,rfl⟩:=ac;intro c hm;simp only [List.mem_singleton]at hm;subst hm;exact ku _ _ _ _ _ _ _ _ fV ar.right
        ·cases ac
       ·cases ac
      ·cases ac
     ·cases ac
    ·simp only [Option.some.injEq,Prod.mk.injEq]at ac;obtain⟨rfl,rfl,_,rfl,rfl⟩:=ac;exact Ks P E ar.head
    ·simp only [Option.some.injEq,Prod.mk.injEq]at ac;obtain⟨rfl,rfl,_,rfl,rfl⟩:=ac;exact Eb P E ar.head
    ·simp only [Option.some.injEq,Prod.mk.injEq]at ac;obtain⟨rfl,rfl,_,rfl,rfl⟩:=ac;exact Eb P E ar.head
    ·simp only [Option.some.injEq,Prod.mk.injEq]at ac;obtain⟨rfl,rfl,_,rfl,rfl⟩:=ac;exact Ks P E ar.head
    all_goals first
     |(split at ac
       ·simp only [Option.some.injEq,Prod.mk.injEq]at ac;obtain⟨_,_,_,_,rfl⟩:=ac;intro c ar;simp at ar
       ·cases ac
       done)
     |(cases ac;done)
     |skip
    ·cases aC:(iT U&&(!draw || (k9 ops i || iU ops aj i (bR F) U)))with
     |false=>rw [aC]at ac;cases ac
     |true =>
      rw [aC,cond_true]at ac;split at ac
      ·simp only [Option.some.injEq,Prod.mk.injEq]at ac;obtain⟨_,_,_,_,rfl⟩:=ac;intro c ar;simp at ar
      ·cases ac
    ·split at ac
     ·split at ac
      ·split at ac
       ·split at ac
        ·rename_i fV;simp only [Option.some.injEq,Prod.mk.injEq]at ac;obtain⟨_,_,_,_,rfl⟩:=ac;intro c ar;simp only [List.mem_singleton]at ar;subst ar;exact aI.tO cA eY fV
        ·cases ac
       ·cases ac
      ·cases ac
     ·cases ac
    ·split at ac
     ·split at ac
      ·split at ac
       ·split at ac
        ·rename_i fV;simp only [Option.some.injEq,Prod.mk.injEq]at ac;obtain⟨_,_,_,_,rfl⟩:=ac;intro c ar;simp only [List.mem_singleton]at ar;subst ar;rw [wk]at fV;exact aI.tO cA eY fV
        ·cases ac
       ·cases ac
      ·cases ac
     ·cases ac
  ·exact plain ac
 ·exact plain ac
def Eh(n:Nat)(U:Oper):Bool :=
 match U.dst with
 |some d=>Nat.blt d n
 |none=>true
def pA(E:b4)(call:dZ)(ops:Array Oper)(draw:Bool)(aj:Nat)(l:List Nat)(s:fq):Option fq :=
 if draw then kh E call ops aj l s else ob E call ops aj l s
theorem TB{call:dZ}{ops:Array Oper}{draw:Bool}{aj i:Nat}{l:List Nat}{s:List o}{h aa:j}{U:Oper}{v:o}(ai:ops[i]? =some U)(hw:jn ops s U=some true)
 (aS:kT E call ops draw aj i (dd s) h U.op=some (v,aa)):pA E call ops draw aj (i::l) ⟨s,h⟩=pA E call ops draw aj l ⟨hR s U.dst v,aa⟩:=by
 unfold pA kT at *;cases draw with
 |false=>simp only [Bool.false_eq_true,if_false]at aS⊢; simp only [ob,qn,ai,hw,aS]
 |true=>simp only [if_true]at aS⊢; simp only [kh,lK,ai,hw,aS]
theorem TC{call:dZ}{ops:Array Oper}{draw:Bool}{aj i:Nat}{l:List Nat}{s:List o}{h:j}{U:Oper}(ai:ops[i]? =some U)(hw:jn ops s U=some false) :
 pA E call ops draw aj (i::l) ⟨s,h⟩=pA E call ops draw aj l ⟨hR s U.dst gf,h⟩:=by
 unfold pA;cases draw with
 |false=>simp only [Bool.false_eq_true,if_false,ob,qn,ai,hw]
 |true=>simp only [if_true,kh,lK,ai,hw]
theorem Kx(s:List o)(d:Option Tmp)(v:o):(hR s d v).length=s.length:=by cases d<;>simp [hR]
structure Ky(a b:List o)(h k:j)(v u:o)(aa fa:j):Prop where
 agree:a=b→h=k→v=u∧aa=fa
def Kz(a b:hU):List Prop:=cond (Nat.beq a.f b.f) [Ky a.args b.args a.h b.h a.v b.v a.aa b.aa] []
def zL:List hU→List Prop
 |[]=> []
 |a::r=>r.flatMap (Kz a)++zL r
open Classical in
def qQ:List hU→dZ
 |[],_,_,_=>none
 |k::r,f,args,h=>if k.f=f∧k.args=args∧k.h=h then some (k.v,k.aa)else qQ r f args h
theorem KA:∀{bl:List hU}{f:FuncId}{args:List o}{h:j}{v:o}{aa:j},qQ bl f args h=some (v,aa)→ ∃k∈bl,k.f=f∧k.args=args∧k.h=h∧k.v=v∧k.aa=aa
 |[],f,args,h,v,aa,ar=>by cases ar
 |k ::r,f,args,h,v,aa,ar=>by
  simp only [qQ]at ar;split at ar
  ·rename_i e;simp only [Option.some.injEq,Prod.mk.injEq]at ar;exact⟨k,by simp,e.1,e.2.1,e.2.2,ar.1,ar.2⟩
  ·obtain⟨fa,hm,q⟩:=KA ar;exact⟨fa,by simp [hm],q⟩
theorem KB:∀{bl:List hU},b0 (zL bl)→ ∀c∈bl,c.holds (qQ bl)
 |[],_,c,ar=>by simp at ar
 |k ::r,hu,c,ar=>by
  simp only [zL]at hu;unfold hU.holds;simp only [qQ];split
  ·rename_i e;rcases List.mem_cons.1 ar with rfl|hm
   ·rfl
   ·have:=hu.left
    have aC:k.v=c.v∧k.aa=c.aa:=by have p:Ky k.args c.args k.h c.h k.v c.v k.aa c.aa:=this _ (List.mem_flatMap.2 ⟨c,hm,by unfold Kz;rw [beq_true e.1];simp⟩);exact p.agree e.2.1 e.2.2
    rw [aC.1,aC.2]
  ·rename_i e;rcases List.mem_cons.1 ar with rfl|hm
   ·exact absurd ⟨rfl,rfl,rfl⟩ e
   ·exact KB hu.right c hm
theorem TD{bl:List hU}(ao:∀c∈bl,aI P E.cond c.f c.args c.h c.v c.aa){bd:Nat→Prop}{bo:World}(dl:fv bd bo.heap.size)(fK:E.cond bd bo):ns P bd bo (qQ bl):=by intro f args h v aa ar ak w dD ep c1 eA;obtain⟨k,hm,rfl,rfl,rfl,rfl,rfl⟩:=KA ar;exact ao k hm bd bo dl fK ak w dD ep c1 eA
def sp:Nat→List o→bT
 |_,[]=> []
 |i,v::r=>(i,v)::sp (i+1) r
def lY(D:dI)(F:bT)(h:j):List ResultVar→List Hint→Option (List o×List Prop)
 |[],[]=>some ([],[])
 |[],_=>none
 |.tmp t::r,aq=>match g' F t,lY D F h r aq with|some v,some (l,bn)=>some (v::l,bn)|_,_=>none
 |.cell a t::r,.cell v::aq=>match g' F a,lY D F h r aq with|some (.ptr (some I)),some (l,bn)=>some (v::l,(cj D t I h=some v)::bn)|_,_=>none
 |.cell a t::r,aq =>
  match g' F a with
  |some (.ptr (some I)) =>
   match cj D t I h with
   |some v=>match lY D F h r aq with|some (l,bn)=>some (v::l,bn)|none=>none
   |none=>none
  |_=>none
end
end
end Go.cH
namespace Go.cH
noncomputable section
open Go.RowKit
section
variable {P:Program}{E:b4}
def zM(ak:Map)(S:Nat→Prop)(bo:World)(n:Nat)(F:bT)(h:j)(a:Act)(w:World):Prop:= ∃s:List o,s.length=n∧Has F s∧gJ ak S bo ⟨s,h⟩ a w
def kU(P:Program)(cb:(Nat→Prop)→World→Prop)(base n:Nat)(pv:(Exit→Act→World→Prop)→Act→World→Prop)(F:bT)(h:j)(e:dj)(eu:bT)(aa:j):Prop :=
 ∀(S:Nat→Prop)(bo:World),fv S bo.heap.size→cb S bo→ ∀(eZ ak:Map)(a:Act)(w:World),(∀i v I,eZ i v=some I→i<base)→fh eZ ak base→zM ak S bo n F h a w →
  ∀Q:Exit→Act→World→Prop,(∀bM cz bA,fh eZ bM base→zM bM S bo n eu aa cz bA→Q (vY e) cz bA)→pv Q a w
def cP(P:Program)(cb:(Nat→Prop)→World→Prop)(base n:Nat)(c:Code)(F:bT)(h:j)(e:dj)(eu:bT)(aa:j):Prop:=kU P cb base n (fun Q a w=>c.wp P Q a w) F h e eu aa
def db(P:Program)(cb:(Nat→Prop)→World→Prop)(base n:Nat)(c:Code)(F:bT)(h:j)(e:dj)(eu:bT)(aa:j):Prop:=kU P cb base n (fun Q a w=>sg P c Q a w) F h e eu aa
def sq(P:Program)(body:Option Code)(c:Code):(Exit→Act→World→Prop)→Act→World→Prop :=
 match body with
 |none=>fun Q a w=>c.wp P Q a w
 |some b=>fun Q a w=>tN P b c Q a w
theorem cP.h'{cb:(Nat→Prop)→World→Prop}{base n:Nat}{c:Code}{F eu:bT}{h aa:j}{e:dj}(k:db P cb base n c F h e eu aa):cP P cb base n (.loop c) F h e eu aa :=
 fun S bo cq fK eZ ak a w bm ao r Q eF=>J3 (k S bo cq fK eZ ak a w bm ao r Q eF)
theorem db.step{cb:(Nat→Prop)→World→Prop}{base n:Nat}{c:Code}{F bb ny:bT}{h p ae:j}{e:dj}(aL:cP P cb base n c F h .normal bb p)(aQ:db P cb base n c bb p e ny ae):db P cb base n c F h e ny ae :=
 fun S bo cq fK eZ ak a w bm ao r Q eF=>DJ (aL S bo cq fK eZ ak a w bm ao r _ fun bM cz bA eg fG=>aQ S bo cq fK eZ bM cz bA bm eg fG Q eF)
theorem db.last{cb:(Nat→Prop)→World→Prop}{base n:Nat}{c:Code}{F bb:bT}{h p:j}{e:dj}(he:e≠ .normal)(aL:cP P cb base n c F h e bb p):db P cb base n c F h e bb p :=
 fun S bo cq fK eZ ak a w bm ao r Q eF=>DJ (aL S bo cq fK eZ ak a w bm ao r _ fun bM cz bA eg fG=>by
  have:=eF bM cz bA eg fG;cases e with
  |normal=>exact absurd rfl he
  |_=>exact this)
def e0(base n:Nat)(F:bT)(h:j)(bb:bT)(p:j):Prop :=
 ∀(S:Nat→Prop)(bo:World)(eZ ak:Map)(a:Act)(w:World),(∀i v I,eZ i v=some I→i<base)→fh eZ ak base→zM ak S bo n F h a w→ ∃tV,fh eZ tV base∧zM tV S bo n bb p a w
theorem kU.pre{cb:(Nat→Prop)→World→Prop}{base n:Nat}{pv:(Exit→Act→World→Prop)→Act→World→Prop}{F G eu:bT}{h g aa:j}{e:dj}(k:kU P cb base n pv F h e eu aa)(i:e0 base n G g F h):kU P cb base n pv G g e eu aa :=
 fun S bo cq fK eZ ak a w bm ao r Q eF=>by obtain⟨tV,gg,fM⟩:=i S bo eZ ak a w bm ao r;exact k S bo cq fK eZ tV a w bm gg fM Q eF
theorem kU.post{cb:(Nat→Prop)→World→Prop}{base n:Nat}{pv:(Exit→Act→World→Prop)→Act→World→Prop}{F eu KC:bT}{h aa dA:j}{e:dj}(k:kU P cb base n pv F h e eu aa)(i:e0 base n eu aa KC dA):kU P cb base n pv F h e KC dA :=
 fun S bo cq fK eZ ak a w bm ao r Q eF=>k S bo cq fK eZ ak a w bm ao r Q fun bM cz bA eg fG=>by obtain⟨tV,gg,fM⟩:=i S bo eZ bM cz bA bm eg fG;exact eF tV cz bA gg fM
def bT.le(G F:bT):Prop:= ∀t v,g' G t=some v→g' F t=some v
theorem bT.TE(F:bT)(l:List Nat):bT.le (py F l) F:=fun _ _ h=>wm h
theorem e0.facts{base n:Nat}{F G:bT}{h:j}(k:bT.le G F):e0 base n F h G h :=
 fun S bo eZ ak a w bm ao ⟨s,aM,fE,r⟩=>⟨ak,ao,s,aM,fun t v a'=>fE t v (k t v a'),r⟩
theorem KD:∀(l:List o)(i t:Nat)(v:o),g' (sp i l) t=some v→i≤t∧l[t-i]? =some v
 |[],i,t,v,h=>by cases h
 |a ::r,i,t,v,h=>by
  simp only [sp,kS]at h;split at h
  ·rename_i e;subst e;exact⟨Nat.le_refl _,by simpa using h⟩
  ·rename_i e;obtain⟨p,ae⟩:=KD r (i+1) t v h;refine⟨by omega,?_⟩;rw [show t-i=(t- (i+1))+1 by omega,List.getElem?_cons_succ];exact ae
theorem zN{D:dI}{F:bT}{h:j}{s:List o}(fE:Has F s):∀{dR:List ResultVar}{aq:List Hint}{l:List o}{bn:List Prop},lY D F h dR aq=some (l,bn)→b0 bn→jo D dR ⟨s,h⟩=some l
 |[],aq,l,bn,ac,ar=>by
  cases aq with
  |nil=>simp only [lY,Option.some.injEq,Prod.mk.injEq]at ac;obtain⟨rfl,_⟩:=ac;rfl
  |cons a r=>simp [lY]at ac
 |.tmp t::r,aq,l,bn,ac,ar=>by
  simp only [lY]at ac;split at ac
  ·rename_i v c3 so a' af;simp only [Option.some.injEq,Prod.mk.injEq]at ac;obtain⟨rfl,rfl⟩:=ac;simp only [jo,zN fE af ar,List.getD_eq_getElem?_getD,fE t v a'];rfl
  ·cases ac
 |.cell a t::r,aq,l,bn,ac,ar=>by
  have go :∀{aq:List Hint}{l:List o}{bn:List Prop},(match g' F a with
   |some (.ptr (some I)) =>
    match cj D t I h with
    |some v=>match lY D F h r aq with|some (l,bn)=>some (v::l,bn)|none=>none
    |none=>none
   |_=>none)=some (l,bn)→b0 bn→jo D (.cell a t::r) ⟨s,h⟩=some l:=by
   intro aq l bn ac ar;split at ac
   ·rename_i I a';split at ac
    ·rename_i v aB;split at ac
     ·rename_i c3 so af;simp only [Option.some.injEq,Prod.mk.injEq]at ac;obtain⟨rfl,rfl⟩:=ac;simp only [jo,zN fE af ar,List.getD_eq_getElem?_getD,fE a _ a',Option.getD_some,aB]
     ·cases ac
    ·cases ac
   ·cases ac
  cases aq with
  |nil=>exact go (aq:=[]) ac ar
  |cons q aq =>
   cases q with
   |cell v =>
    simp only [lY]at ac;split at ac
    ·rename_i I c3 so a' af;simp only [Option.some.injEq,Prod.mk.injEq]at ac;obtain⟨rfl,rfl⟩:=ac;have tW:b0 so:=fun I ac=>ar I (by simp [ac])
     simp only [jo,zN fE af tW,List.getD_eq_getElem?_getD,fE a _ a',Option.getD_some,ar.head]
    ·cases ac
   |_=>exact go (aq:=_::aq) ac ar
theorem aI.TF(cA:ho P E){f:FuncId}{fn:Func}{c:Code}(a6:P.funcs[f]? =some fn)(av:fn.body=some c){args:List o}{h aa:j}{e:dj}(he:e=.normal∨e=.ret){eu:bT}{dR:List Hint}{l:List o}{bn:List Prop}
 (be:cP P E.cond h.next (args.length+(fn.ntmps-args.length)) c (sp 0 args) h e eu aa) (ac:lY E.D eu aa fn.results.toList dR=some (l,bn)) (ar:b0 bn) (aM:h.next≤aa.next):aI P E.cond f args h (mi l) aa:=by
 intro S bo cq gr ak w dD ep si eA;refine⟨⟨fn,c,a6,av⟩,calls_of_wp a6 av ?_⟩;have hlen:dD.size=args.length:=by have:=eA.length;rwa [Array.length_toList]at this
 have fE:Has (sp 0 args) (args++List.replicate (fn.ntmps-args.length) gf):=by intro t u hu;obtain⟨_,ae⟩:=KD args 0 t u hu;simp only [Nat.sub_zero]at ae;obtain⟨cM,_⟩:=List.getElem?_eq_some_iff.1 ae;rw [List.getElem?_append_left cM];exact ae
 have r:gJ ak S bo ⟨args++List.replicate (fn.ntmps-args.length) gf,h⟩ {tmps:=dD++Array.replicate (fn.ntmps-dD.size) undef,defers:=[]} w:=by refine⟨?_,ep,si,rfl⟩;simp only [Array.toList_append,Array.toList_replicate,hlen];exact eA.append (bG.replicate (aK.gf ak) _)
 refine be S bo cq gr ak ak _ w (fun i v I ac=>(ep.dB i v I ac).1) (fh.refl _ _) ⟨_,by simp,fE,r⟩ _ fun bM cz bA ao ⟨bK,a1,f1,fM⟩=> ?_
 have aB:=zN f1 ac ar;obtain⟨bp,aL,aQ⟩:=J8 cA.hS fM aB;rcases he with rfl|rfl
 ·exact⟨fM.defers,bp,aL,bp,bM,rfl,ao,aQ,fM.heap,fM.below,aM⟩
 ·exact⟨fM.defers,bp,aL,bp,bM,rfl,ao,aQ,fM.heap,fM.below,aM⟩
theorem e0.refl(base n:Nat)(F:bT)(h:j):e0 base n F h F h:=fun S bo eZ ak a w bm ao r=>⟨ak,ao,r⟩
theorem e0.bc{base n:Nat}{F bb:bT}{h p:j}{r:Nat→Nat}(hw:zu r p h)(a6:∀t v,g' bb t=some v→t<n∧g' F t=some (v.bc r)∧cv (In p) v)
 (ba:∀i,i<base→In h i→In p i) (bW:∀i,i<base→In p i→r i=i) (fj:∀i,In p i→r i<base→i<base):e0 base n F h bb p:=by
 intro S bo eZ ak a w bm ao ⟨s,aM,fE,sr⟩;have TG:a.tmps.toList.length=n:=by rw [sr.e7.length];exact aM
 refine⟨iG ak r p,⟨?_,?_,?_⟩,(List.range n).map (fun t=>(g' bb t).getD .undef),by simp,?_,⟨?_,sr.heap.iG hw ?_,sr.below,sr.defers⟩⟩
 ·intro i v I ac;have al:=bm i v I ac;have ei:=ao.le i v I ac;obtain⟨_,b,av,_⟩:=sr.heap.dB i v I ei;have iF:=ba i al (by unfold In;rw [av];rfl);rw [pw iF,bW i al iF];exact ei
 ·intro i al jH u;have:=ao.new i al jH;unfold iG;split
  ·rename_i iF;rw [bW i al iF];exact this u
  ·rfl
 ·intro i v I ac eR;obtain⟨iF,ei⟩:=lm ac;have p:=ao.ro _ _ _ ei eR;have ae:=fj i iF (bm _ _ _ p);rw [bW i ae iF]at p;exact p
 ·intro t v a';obtain⟨b7,_,_⟩:=a6 t v a';simp [b7,a']
 ·refine bG.eX (by simp [TG]) fun t x V af Cb=> ?_
  have b7:t<n:=by have:=(List.getElem?_eq_some_iff.1 af).1;simpa using this
  simp only [List.getElem?_map,List.getElem?_range b7,Option.map_some,Option.some.injEq]at af;cases aB:g' bb t with
  |none=>rw [aB]at af;simp at af;subst af;simp [aK]
  |some v =>
   rw [aB]at af;simp at af;subst af;obtain⟨_,g1,g2⟩:=a6 t v aB;obtain⟨aeX,bu,bC⟩:=sr.e7.get (fE t _ g1);rw [Cb]at bu;simp at bu;subst bu;exact aK.lk (fun i al v I ac=>by rw [pw al];exact ac) g2 bC
 ·intro i v I ac eR;obtain⟨_,ei⟩:=lm ac;obtain⟨_,B,_,_,_,_,_,_,sj⟩:=sr.heap.dB _ _ _ ei;exact sj.base eR
def loops:Code→List Code
 |.seq a b=>loops a++loops b
 |.cond _ a b=>loops a++loops b
 |.block _ c=>loops c
 |.scope c=>loops c
 |.loop c=>c::loops c
 |_=> []
def TH(P:Program)(f:FuncId):Code :=
 match P.funcs[f]? with
 |some fn=>match fn.body with|some c=>c|none=> .skip
 |none=> .skip
def c4(P:Program)(f:FuncId)(k:Nat):Code:=(loops (TH P f))[k]?.getD .skip
theorem aI.bc{cb:(Nat→Prop)→World→Prop}{f:FuncId}{args:List o}{h aa ae:j}{v v2:o}{r:Nat→Nat}(k:aI P cb f args h v aa)(hw:zu r ae aa)(a':v=v2.bc r)(hl:cv (In ae) v2)
 (ba:∀i,i<h.next→In aa i→In ae i) (bW:∀i,i<h.next→In ae i→r i=i) (fj:∀i,In ae i→r i<h.next→i<h.next) (aM:h.next≤ae.next):aI P cb f args h v2 ae:=by
 subst a';intro S bo cq gr ak w dD ep si eA;obtain⟨g1,g2⟩:=k S bo cq gr ak w dD ep si eA;refine⟨g1,g2.mono fun e bA ⟨bp,bM,he,nw,a',be,aq,qR⟩=> ?_⟩;refine⟨bp,iG bM r ae,he,⟨?_,?_,?_⟩,aK.lk (fun i al v I ac=>by rw [pw al];exact ac) hl a',be.iG hw ?_,aq,aM⟩
 ·intro i u I ac;have al:=(ep.dB i u I ac).1;have ei:=nw.le i u I ac;obtain⟨_,b,av,_⟩:=be.dB i u I ei;have iF:=ba i al (by unfold In;rw [av];rfl);rw [pw iF,bW i al iF];exact ei
 ·intro i al jH u;have:=nw.new i al jH;unfold iG;split
  ·rename_i iF;rw [bW i al iF];exact this u
  ·rfl
 ·intro i u I ac eR;obtain⟨iF,ei⟩:=lm ac;have p:=nw.ro _ _ _ ei eR;have ae:=fj i iF (ep.dB _ _ _ p).1;rw [bW i ae iF]at p;exact p
 ·intro i u I ac eR;obtain⟨_,ei⟩:=lm ac;obtain⟨_,B,_,_,_,_,_,_,sj⟩:=be.dB _ _ _ ei;exact sj.base eR
theorem b0.nil:b0 []:=fun I ac=>by simp at ac
theorem b0.cons{I:Prop}{l:List Prop}(h:I)(k:b0 l):b0 (I::l):=fun q aC=>by
 rcases List.mem_cons.1 aC with rfl|aC
 ·exact h
 ·exact k q aC
theorem okF{I:Prop}[Decidable I](c:¬I):some (o.bool (decide I))=some (o.bool false):=by rw [decide_eq_false c]
def cT(v:o):Prop:=(∀r,v.bc r=v)∧cv (fun _=>False) v
theorem cT.bool(b:Bool):cT (.bool b):=⟨fun _=>rfl,trivial⟩
theorem cT.int(k:IntKind)(n:Int):cT (.int k n):=⟨fun _=>rfl,trivial⟩
theorem cT.str(s:List UInt8):cT (.str s):=⟨fun _=>rfl,trivial⟩
mutual
theorem cv.mono{D wq:Nat→Prop}(h:∀i,D i→wq i):∀{v:o},cv D v→cv wq v
 |.ptr (some a),k=>by simp only [cv]at k⊢; exact h _ k
 |.slice (some a) _ _,k=>by simp only [cv]at k⊢; exact h _ k
 |.func _ f c,k=>by simp only [cv]at k⊢; exact⟨fo.mono h k.1,fo.mono h k.2⟩
 |.iface _ v,k=>by simp only [cv]at k⊢; exact cv.mono h k
 |.agg bn,k=>by simp only [cv]at k⊢; exact fo.mono h k
 |.tuple cd,k=>by simp only [cv]at k⊢; exact fo.mono h k
 |.undef,_=>by simp [cv]
 |.bool _,_=>by simp [cv]
 |.int _ _,_=>by simp [cv]
 |.str _,_=>by simp [cv]
 |.ptr none,_=>by simp [cv]
 |.slice none _ _,_=>by simp [cv]
 |.nilFunc,_=>by simp [cv]
 |.nilIface,_=>by simp [cv]
theorem fo.mono{D wq:Nat→Prop}(h:∀i,D i→wq i):∀{l:List o},fo D l→fo wq l
 |[],_=>by simp [fo]
 |a::l,k=>by simp only [fo]at k⊢; exact⟨cv.mono h k.1,fo.mono h k.2⟩
end
theorem aI.bare{cb:(Nat→Prop)→World→Prop}[j6 cb]{f:FuncId}{args:List o}{v:o}{aa:j}(k:aI P cb f args ⟨0,.nil⟩ v aa)(aS:∀a∈args,cT a)(a':cT v)(H:j):aI P cb f args H v H:=by
 have aL:aI P cb f args ⟨0,.nil⟩ v ⟨0,.nil⟩:=by
  refine k.bc (r:=fun i=>i) (v2:=v) ⟨?_,?_,?_⟩ (a'.1 _).symm (cv.mono (fun i al=>al.elim) a'.2) ?_ ?_ ?_ (Nat.le_refl _)
  ·intro i b av;cases av
  ·intro i C al;cases al
  ·intro i b av;cases av
  ·intro i al;simp at al
  ·intro i al;simp at al
  ·intro i al;cases al
 have aQ:=aL.frame (r:=fun i=>H.next+i) (H:=H) (aR:=H) ⟨?_,?_,?_⟩ (qK.2 fun a hm=>cv.mono (fun i al=>al.elim) (aS a hm).2) (fun i _=>by simp) ?_ (by simp) (fun _ _ _=>rfl)
 ·rw [a'.1]at aQ
  have:args.map (o.bc fun i=>H.next+i)=args:=by
   conv=>rhs;rw [←List.map_id args]
   exact List.map_congr_left fun a hm=>(aS a hm).1 _
  rw [this]at aQ;exact aQ
 ·intro i b av;cases av
 ·intro i C al;cases al
 ·intro i b av;cases av
 ·intro i b av;cases av
mutual
def o.nz:o→Bool
 |.ptr (some _)=>false
 |.slice (some _) _ _=>false
 |.func _ f c=>o.oB f&&o.oB c
 |.iface _ v=>o.nz v
 |.agg bn=>o.oB bn
 |.tuple cd=>o.oB cd
 |_=>true
def o.oB:List o→Bool
 |[]=>true
 |a::l=>o.nz a&&o.oB l
end
mutual
theorem Ei:∀{v:o},v.nz=true→(∀r,v.bc r=v)∧cv (fun _=>False) v
 |.ptr (some a),k=>by simp [o.nz]at k
 |.slice (some a) _ _,k=>by simp [o.nz]at k
 |.func fn f c,k=>by simp only [o.nz,Bool.and_eq_true]at k;have p:=wu k.1;have ae:=wu k.2;exact⟨fun r=>by simp only [o.bc,p.1 r,ae.1 r],by simp only [cv];exact⟨p.2,ae.2⟩⟩
 |.iface t v,k=>by simp only [o.nz]at k;have p:=Ei k;exact⟨fun r=>by simp only [o.bc,p.1 r],by simp only [cv];exact p.2⟩
 |.agg bn,k=>by simp only [o.nz]at k;have p:=wu k;exact⟨fun r=>by simp only [o.bc,p.1 r],by simp only [cv];exact p.2⟩
 |.tuple cd,k=>by simp only [o.nz]at k;have p:=wu k;exact⟨fun r=>by simp only [o.bc,p.1 r],by simp only [cv];exact p.2⟩
 |.undef,_=>⟨fun _=>rfl,by simp [cv]⟩
 |.bool _,_=>⟨fun _=>rfl,by simp [cv]⟩
 |.int _ _,_=>⟨fun _=>rfl,by simp [cv]⟩
 |.str _,_=>⟨fun _=>rfl,by simp [cv]⟩
 |.ptr none,_=>⟨fun _=>rfl,by simp [cv]⟩
 |.slice none _ _,_=>⟨fun _=>rfl,by simp [cv]⟩
 |.nilFunc,_=>⟨fun _=>rfl,by simp [cv]⟩
 |.nilIface,_=>⟨fun _=>rfl,by simp [cv]⟩
theorem wu:∀{l:List o},o.oB l=true→(∀r,o.gz r l=l)∧fo (fun _=>False) l
 |[],_=>⟨fun _=>rfl,by simp [fo]⟩
 |a::l,k=>by simp only [o.oB,Bool.and_eq_true]at k;have p:=Ei k.1;have ae:=wu k.2;exact⟨fun r=>by simp only [o.gz,p.1 r,ae.1 r],by simp only [fo];exact⟨p.2,ae.2⟩⟩
end
theorem cT.of{v:o}(h:v.nz=true):cT v:=Ei h
end
end
end Go.cH
