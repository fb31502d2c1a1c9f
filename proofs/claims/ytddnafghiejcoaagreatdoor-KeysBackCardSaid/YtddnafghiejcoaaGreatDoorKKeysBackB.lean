/-
  Parts of the proof of KeysBack.
-/
import Derived.Laws.IdiomCopy
import Derived.Scope
import Derived.Test.YtddnafghiejcoaaGreatDoorKKeysBackA
set_option linter.unusedVariables false
set_option linter.unusedSimpArgs false
namespace Go.cf
noncomputable section
open Go.RowKit
def n0(P:Program)(be:Nat→Prop)(bo:World)(call:dV):Prop :=
 ∀f args h v ag,call f args h=some (v,ag)→ ∀(φ:Map)(w:World)(dk:Array Value),cS φ be h w→Safe be bo w→bz φ args dk.toList →
  (∃fn c,P.funcs[f]? =some fn∧fn.body=some c) ∧
  Calls P f dk w fun e bq=> ∃br bE,e=.returned br∧eW φ bE h.U∧aL bE v br∧cS bE be ag bq∧Safe be bo bq∧h.U≤ag.U
def EE(P:Program)(C:(Nat→Prop)→World→Prop)(f:FuncId)(g:z1):Prop :=
 ∀(be:Nat→Prop)(bo:World),fu be bo.heap.size→C be bo→ ∀args h v ag,g args h=some (v,ag)→ ∀(φ:Map)(w:World)(dk:Array Value),cS φ be h w→Safe be bo w→bz φ args dk.toList →
  (∃fn c,P.funcs[f]? =some fn∧fn.body=some c) ∧
  Calls P f dk w fun e bq=> ∃br bE,e=.returned br∧eW φ bE h.U∧aL bE v br∧cS bE be ag bq∧Safe be bo bq∧h.U≤ag.U
def wY:Nat→Option (Array Value→Sem Value)
 |0=>some Extern.BytealgCount.count
 |1=>some Extern.BytealgIndexByte.indexByte
 |2=>some Extern.BytealgCompare.compare
 |_=>none
structure hn(P:Program)(E:bY):Prop where
 hO:E.D.dt P
 eqs:∀t,E.ik t=true→ri P t
 names:∀(f:Nat) fn,P.funcs[f]? =some fn→(fn.name == "runtime.NumGoroutine")=false
 K7:∀(f:Nat) g,E.um f=some g→EE P E.cond f g
 K8:∀(f:Nat) k,E.ext f=some k→ ∃fn e,P.funcs[f]? =some fn∧fn.body.isNone=true∧Extern.findNext fn=none∧Extern.find fn=some e∧wY k=some e
section
variable {P:Program}{φ:Map}{E:bY}
def fF(P:Program)(φ:Map)(be:Nat→Prop)(bo:World)(h:J)(nid:Nat)(v:aa)(ag:J)(r:Result Next):Prop :=
 (∃br bq bE,(r=.ok (.value br) bq∨(r=.ok .skip bq∧br=undef))∧hl φ bE h.U nid∧aL bE v br∧cS bE be ag bq∧Safe be bo bq∧h.U≤ag.U)
 ∨(∃f args bq,r=.ok (.enter f args) bq∧Calls P f args bq fun e mX=> ∃br bE,e=.returned br∧hl φ bE h.U nid∧aL bE v br∧cS bE be ag mX∧Safe be bo mX∧h.U≤ag.U)
theorem fF.sZ{be:Nat→Prop}{bo:World}{h:J}{nid:Nat}{v:aa}{ag:J}{s:Sem Value}{w:World}(k:p4 P φ be bo h nid v ag s w){r:Result Next}
 (bc:r=(s.run P w).andThen fun v w=> .ok (.value v) w):fF P φ be bo h nid v ag r:=by
 obtain⟨br,bq,bE,ac,ai,a8,bQ,bF,dv⟩:=k;refine .inl ⟨br,bq,bE,.inl ?_,ai,a8,bQ,bF,ab⟩;rw [bc,ac];rfl
theorem fF.h7{be:Nat→Prop}{bo:World}{h:J}{nid:Nat}{v:aa}{s:Sem Value}{w:World}(iB:cS φ be h w)(ax:Safe be bo w)(k:∃br,s.run P w=.ok br w∧aL φ v br){r:Result Next}
 (bc:r=(s.run P w).andThen fun v w=> .ok (.value v) w):fF P φ be bo h nid v h r :=
 fF.sZ (p4.pure iB ax k) bc
theorem ma.of_map{ρ:Operand→aa}{dU:Operand→Value}(cN:∀x,aL φ (ρ x) (dU x))(o:Option Operand):ma φ (o.map ρ) (o.map dU):=by
 cases o with
 |none=>trivial
 |some x=>exact cN x
theorem wZ{ρ:Operand→aa}{dU:Operand→Value}(cN:∀x,aL φ (ρ x) (dU x))(xs:Array Operand):bz φ (xs.toList.map ρ) (xs.map dU).toList:=by rw [Array.toList_map];exact bz.map _ _ _ fun x _=>cN x
theorem TC{l:List aa}(h:l.all (·.ka)=true):flat l=l:=by
 induction l with
 |nil=>rfl
 |cons a r ih =>
  simp only [List.all_cons,Bool.and_eq_true]at h;have e:a.cells=[a]:=by cases a<;>first|rfl|(simp [aa.ka]at h)
  show a.cells++flat r=a::r;rw [e,ih h.2];rfl
theorem TD{D:dH}(bZ:D.dt P){be:Nat→Prop}{h ag:J}{bo w:World}(r:cS φ be h w)(dq:Safe be bo w){t u ty:TypeId}{s x v:aa}{bG bT:Value}(hs:aL φ s bG)(aj:aL φ x bT)(ao:DM D t s x h=some (v,ag)) :
 ∃br bq,(Builtin.copy_ #[t,u] ty #[bG,bT]).run P w=.ok br bq∧aL φ v br∧cS φ be ag bq∧Safe be bo bq∧ag.U=h.U:=by
 unfold DM at ao;split at ao
 ·rename_i d a len cap h0 n ahk aE;obtain⟨Ez,EA,EB,rp,rq, -⟩:=bZ.get aE;split at ao
  ·rename_i e au;rw [rq]at au;have:=lx au;subst this;split at ao
   ·rename_i cJ oP b fN TE n1;obtain⟨dY,oZ,fV, -, -,e9, -⟩:=bZ.get fN;split at ao
    ·rename_i aw;obtain⟨dI,c2,c3,c4,c5,kZ,p5,o4,c9,K3⟩:=aw;split at ao
     ·rename_i bm fO;split at ao
      ·rename_i kX;obtain⟨K4,c12⟩:=kX;simp only [Option.some.injEq,Prod.mk.injEq]at ao;obtain⟨rfl,rfl⟩:=ao;simp only [aL]at hs aj;obtain⟨xs,TF,rfl,EF,uF,iF⟩:=hs;obtain⟨K9,K',rfl,dT,fD,w0⟩:=aj;rcases iF with ⟨aZ,_⟩|⟨f,aZ,q,aB,ahl,La,rfl⟩
       ·omega
       ·obtain⟨p,ah,mh,p3,_⟩:=w0.plain c3;rw [c4]at mh;have TG:¬K'=0:= ab;rcases p3 with eK|⟨eI,rfl,oW⟩
        ·exact absurd eK TG
        ·obtain⟨news,a6,n2,eY,hN,ha⟩:=r.El ah TE eI p5 o4;rw [TC c12]at a6;have Er:news.length=n:=by rw [ha,←mh,Nat.mul_one]
         rw [K3]at aB;have ls:b.cC b.ad=b.bk.length:=by simp [af.cC]
         have sM:a.idx<b.bk.length:=(List.getElem?_eq_some_iff.1 fO).1
         have gI:bm.length=q.es:=by obtain⟨_,c,ai,_,_,_,_,_,cj⟩:=r.dD a.id b.ad q aB;rw [n1]at ai;simp at ai;subst ai;exact(cj.cont a.idx (.agg bm) La (by rw [ls];exact sM) fO).1
         have rk:a.fld-1=f:= ab;have TH:((oP.bk.drop h0.idx).take n).length=n:=by have:=a6.length;omega
         obtain⟨aK,aP⟩:=r.store aB n1 c9 (idx:=a.idx) (fld:=f) (e:= .agg bm) (dS:= .agg (iZ bm f ((oP.bk.drop h0.idx).take n))) La fO a6 eY (by rw [TH];omega) rfl;rw [rk];refine⟨_,_,run_copy_cells w t u ty e q.cd (q.off+(a.idx-q.bb)*q.es+f) len TF (p.at h0.idx 0) n K' news rp (by rw [fV];simp [e9▸dI]) (by rw [Er];exact(Nat.min_eq_left kZ).symm) ?_ (fun j a1=>(aP j a1).1) (fun j a1=>(aP j a1).2) eY,?_,aK,?_,rfl⟩
         ·intro j v bh;have:=n2 j v bh;cases j with
          |zero=>simpa [Place.at,Addr.add]using this
          |succ j=>simpa [Place.at,Addr.add]using this
         ·rw [Er];rfl
         ·obtain⟨_,c,ai,g3,g4,g5,g6,g7,cj⟩:=r.dD a.id b.ad q aB;rw [n1]at ai;simp at ai;subst ai;exact wG q.cd (cj.base (g6 c9)) news _ dq
      ·cases ao
     ·cases ao
    ·cases ao
   ·cases ao
  ·cases ao
 ·cases ao
theorem TI(cw:hn P E){be:Nat→Prop}{h ag:J}{bo w:World}(r:cS φ be h w)(dq:Safe be bo w)(db:fu be bo.heap.size){nid:Nat}(hid:∀v,φ nid v=none)(aR:nid<h.U)
 {b:Builtin} {ts:Array TypeId} (ty:TypeId) (w1:Array Bool) {args:List aa} {dk:Array Value} (aT:bz φ args dk.toList) {v:aa} (ao:hC E b ts args nid h=some (v,ag)) :
 fF P φ be bo h nid v ag ((builtin b ts ty w1 dk).run P w):=by
 unfold hC at ao;split at ao
 ·split at ao
  ·rename_i x t bW;simp only [Option.map_eq_some_iff,Prod.mk.injEq]at ao;obtain⟨v1,ac,rfl,rfl⟩:=ao;exact fF.h7 r dq (Tk cw.hO ty aT bW ac w) (by simp [builtin])
  ·cases ao
 ·split at ao
  ·rename_i s x t u bW hu
   have au:(∃lo,E.D u=some lo∧(lo.kind matches .slice _|.string)=true∧hB E.D t s x nid h=some (v,ag)):=by
    split at ao
    ·rename_i lo mY;split at ao
     ·rename_i he;exact⟨lo,mY,by simp [he],ao⟩
     ·rename_i he;exact⟨lo,mY,by simp [he],ao⟩
     ·cases ao
    ·cases ao
   obtain⟨lo,mY,Lb,ao⟩:=au;obtain⟨Lc,TJ,ahm,Ld,EG, -⟩:=cw.hO.get mY
   have TK:(∃dS,P.underlying u=some (.slice dS))∨P.underlying u=some .string:=by
    rw [EG]at Lb;cases TJ<;>simp [gW]at Lb
    ·right;exact Ld
    ·left;exact⟨_,Ld⟩
   simp only [bz]at aT;obtain⟨bG,et,bi,hs,bT,l2,bu,aj,b7⟩:=aT;subst bu b7;have gz:dk= #[bG,bT]:=by apply Array.ext';simpa using bi
   have hD:=To cw.hO r dq db hid aR ty hs aj TK ao;refine fF.sZ (s:=Builtin.append_ ts ty dk) (w:=w) ?_ (by simp [builtin]);obtain⟨br,bq,bE,aK,aP⟩:=hD;refine⟨br,bq,bE,?_,aP⟩;rw [←aK,gz];have k0:ts[0]? =(#[t,u]:Array TypeId)[0]? :=by rw [bW];rfl
   have rj:ts[1]? =(#[t,u]:Array TypeId)[1]? :=by rw [hu];rfl
   simp only [Builtin.append_,k0,rj]
  ·cases ao
 ·split at ao
  ·rename_i x fH;simp only [Option.map_eq_some_iff,Prod.mk.injEq]at ao;obtain⟨v1,ac,rfl,rfl⟩:=ao;exact fF.h7 r dq (SL ts ty aT ac w) (by simp [builtin])
  ·cases ao
 ·split at ao
  ·rename_i x fH;simp only [Option.map_eq_some_iff,Prod.mk.injEq]at ao;obtain⟨v1,ac,rfl,rfl⟩:=ao;exact fF.h7 r dq (SM ts ty aT ac w) (by simp [builtin])
  ·cases ao
 ·
   split at ao
   ·rename_i s x t u bW hu;simp only [bz]at aT;obtain⟨bG,et,bi,hs,bT,l2,bu,aj,b7⟩:=aT;subst bu b7;have gz:dk= #[bG,bT]:=by apply Array.ext';simpa using bi
    obtain⟨br,bq,aK,aP,bt,g',h6⟩:=TD (P:=P) (u:=u) (ty:=ty) cw.hO r dq hs aj ao;refine fF.sZ (s:=Builtin.copy_ ts ty dk) (w:=w) ⟨br,bq,φ,?_,hl.refl _ _ _,aP,bt,g',h6⟩ (by simp [builtin]);rw [←aK,gz];have k0:ts[0]? =(#[t,u]:Array TypeId)[0]? :=by rw [bW];rfl
    have rj:ts[1]? =(#[t,u]:Array TypeId)[1]? :=by rw [hu];rfl
    simp only [Builtin.copy_,k0,rj]
   ·cases ao
 ·
   split at ao
   ·rename_i x;simp only [Option.map_eq_some_iff,Prod.mk.injEq]at ao;obtain⟨v1,ac,rfl,rfl⟩:=ao;simp only [bz]at aT;obtain⟨bG,et,bi,hs,bu⟩:=aT;subst bu;have gz:dk= #[bG]:=by apply Array.ext';simpa using bi
    subst gz;exact fF.h7 r dq (Ty (ts:=ts) (ty:=ty) hs ac w) (by simp [builtin])
   ·cases ao
 ·
   split at ao
   ·rename_i p n t bW;simp only [bz]at aT;obtain⟨bG,et,bi,hs,bT,l2,bu,aj,b7⟩:=aT;subst bu b7;have gz:dk= #[bG,bT]:=by apply Array.ext';simpa using bi
    subst gz;have TL:bT=.int .i64 n:=by simpa only [aL]using aj
    subst TL;obtain⟨br,bq,aK,aP,bt,g',h6⟩:=Tz cw.hO r dq (ty:=ty) bW hs ao;exact fF.sZ (s:=Builtin.unsafeString_ ts ty #[bG,.int .i64 n]) ⟨br,bq,φ,aK,hl.refl _ _ _,aP,bt,g',h6⟩ (by simp [builtin])
   ·cases ao
 ·cases ao
theorem TM(cw:hn P E){be:Nat→Prop}{h ag:J}{bo w:World}{call:dV}(fW:n0 P be bo call)(r:cS φ be h w)(dq:Safe be bo w)(db:fu be bo.heap.size){nid:Nat}(hid:∀v,φ nid v=none)
 (aR:nid<h.U) {ρ:Operand→aa} {dU:Operand→Value} (cN:∀x,aL φ (ρ x) (dU x)) {o:Oper} {v:aa} (ao:bN E call nid ρ h o.op=some (v,ag)) :
 fF P φ be bo h nid v ag ((execOp dU o).run P w):=by
 unfold bN at ao;split at ao
 ·
   rename_i x e;simp only [Option.some.injEq,Prod.mk.injEq]at ao;obtain⟨rfl,rfl⟩:=ao;exact fF.h7 (s:=pure (dU x)) r dq ⟨_,rfl,cN x⟩ (by simp [execOp,e])
 ·rename_i x e;simp only [Option.some.injEq,Prod.mk.injEq]at ao;obtain⟨rfl,rfl⟩:=ao;exact fF.h7 (s:=pure (dU x)) r dq ⟨_,rfl,cN x⟩ (by simp [execOp,e])
 ·
   rename_i c a b e;split at ao
   ·rename_i t aw;simp only [Option.some.injEq,Prod.mk.injEq]at ao;obtain⟨rfl,rfl⟩:=ao;have ac:=cN c;rw [aw]at ac;simp only [aL]at ac;refine fF.h7 (s:=pure (if t then dU a else dU b)) r dq ⟨_,rfl,?_⟩ (by simp [execOp,e,ac,asBool]);cases t
    ·exact cN b
    ·exact cN a
   ·cases ao
 ·
   rename_i t e;split at ao
   ·rename_i d aE;obtain⟨jd,u,h4,hu,au,hs, -,eK⟩:=cw.hO.get aE;split at ao
    ·rename_i z wU;split at ao
     ·rename_i aw;simp only [Option.some.injEq,Prod.mk.injEq]at ao;obtain⟨rfl,rfl⟩:=ao;simp only [Bool.and_eq_true,decide_eq_true_eq]at aw;obtain⟨fI,mg,nW⟩:=uB (P:=P) (φ:=φ) (t:=t) cw.hO eK wU;obtain⟨bq,bE,aK,aP,bt,g',h6⟩:=KL (P:=P) (D:=E.D) r dq db hid aR t nW aw.1 aw.2;refine .inl ⟨_,bq,bE,.inl ?_,aP,bt,g',h6,Nat.le_refl _⟩;simp [execOp,e,Instr.alloc,wI h4 mg,aK]
     ·cases ao
    ·cases ao
   ·cases ao
 ·
   rename_i t x e;split at ao
   ·rename_i d aE;split at ao
    ·rename_i aw;simp only [Option.some.injEq,Prod.mk.injEq]at ao;obtain⟨rfl,rfl⟩:=ao;simp only [Bool.and_eq_true,decide_eq_true_eq]at aw;obtain⟨bq,bE,aK,aP,bt,g',h6⟩:=KL (P:=P) (D:=E.D) r dq db hid aR t (cN x) aw.1 aw.2;refine .inl ⟨_,bq,bE,.inl ?_,aP,bt,g',h6,Nat.le_refl _⟩;simp [execOp,e,Instr.box,aK]
    ·cases ao
   ·cases ao
 ·
   rename_i t parts e;simp only [Option.map_eq_some_iff,Prod.mk.injEq]at ao;obtain⟨v1,ac,rfl,rfl⟩:=ao;exact fF.h7 r dq (S6 cw.hO cN ac w) (by simp [execOp,e])
 ·
   rename_i t n parts e;exact fF.sZ (Td cw.hO r dq db hid aR cN ao) (by simp [execOp,e])
 ·
   rename_i t x e;split at ao
   ·rename_i a aT;simp only [Option.map_eq_some_iff,Prod.mk.injEq]at ao;obtain⟨v1,ac,rfl,rfl⟩:=ao;exact fF.h7 r dq (KJ cw.hO r (by have:=cN x;rw [aT]at this;exact this) ac) (by simp [execOp,e])
   ·cases ao
 ·
   rename_i t x y e;split at ao
   ·rename_i a aT;simp only [Option.map_eq_some_iff,Prod.mk.injEq]at ao;obtain⟨ac,bx,rfl,rfl⟩:=ao;obtain⟨bq,aK,aP,bt,g'⟩:=S2 cw.hO r dq (by have:=cN x;rw [aT]at this;exact this) (cN y) bx;refine .inl ⟨undef,bq,φ,.inr ⟨?_,rfl⟩,hl.refl _ _ _,aL.gg φ,aP,bt,ab⟩;simp [execOp,e,aK]
   ·cases ao
 ·
   rename_i x e;split at ao
   ·rename_i a aT;simp only [Option.some.injEq,Prod.mk.injEq]at ao;obtain⟨rfl,rfl⟩:=ao;have ac:=cN x;rw [aT]at ac;have ai:=ac;simp only [aL]at ai;obtain⟨fJ,ai,a8⟩:=ai;exact fF.h7 (s:=pure (dU x)) r dq ⟨_,rfl,ac⟩ (by simp [execOp,e,ai])
   ·rename_i g fs bm aT;simp only [Option.some.injEq,Prod.mk.injEq]at ao;obtain⟨rfl,rfl⟩:=ao;have ac:=cN x;rw [aT]at ac;have ai:=ac;simp only [aL]at ai;obtain⟨gb,ft,ai,a8,bQ⟩:=ai;exact fF.h7 (s:=pure (dU x)) r dq ⟨_,rfl,ac⟩ (by simp [execOp,e,ai])
   ·cases ao
 ·
   rename_i op t x y ty e;simp only [Option.map_eq_some_iff,Prod.mk.injEq]at ao;obtain⟨v1,ac,rfl,rfl⟩:=ao;obtain⟨br,aK,aP,bt⟩:=SF cw.hO cw.eqs (cN x) (cN y) ac w;exact fF.h7 (s:=binOp op t (dU x) (dU y)) r dq ⟨br,aP,bt⟩ (by simp [execOp,e,aK])
 ·
   rename_i op t x e;simp only [Option.map_eq_some_iff,Prod.mk.injEq]at ao;obtain⟨v1,ac,rfl,rfl⟩:=ao;exact fF.h7 r dq (SG (cN x) ac w) (by simp [execOp,e])
 ·
   rename_i s d x e;simp only [Option.map_eq_some_iff,Prod.mk.injEq]at ao;obtain⟨v1,ac,rfl,rfl⟩:=ao;exact fF.h7 r dq (SH cw.hO (cN x) ac w) (by simp [execOp,e])
 ·
   rename_i g fs bm e;simp only [Option.some.injEq,Prod.mk.injEq]at ao;obtain⟨rfl,rfl⟩:=ao;refine fF.h7 (s:=pure (.func (.func g) (fs.map dU) (bm.map dU))) r dq ⟨_,rfl,?_⟩ (by simp [execOp,e,Instr.makeFunc]);simp only [aL];exact⟨_,_,rfl,wZ cN fs,wZ cN bm⟩
 ·
   rename_i t x e;split at ao
   ·rename_i d aE;obtain⟨jd,u,h4,hu,au, -⟩:=cw.hO.get aE;split at ao
    ·cases ao
    ·rename_i w2;simp only [Option.some.injEq,Prod.mk.injEq]at ao;obtain⟨rfl,rfl⟩:=ao;refine fF.h7 (s:=Instr.makeInterface t (dU x)) r dq ⟨.iface t (dU x),?_,by simp only [aL];exact⟨_,rfl,cN x⟩⟩ (by simp [execOp,e]);rw [au]at w2;simp only [Instr.makeInterface,Sem.run_bind,run_underlying hu,Result.andThen_ok];cases u<;>first|rfl|exact absurd rfl (w2 _)
   ·cases ao
 ·
   rename_i t l c e;exact fF.sZ (Tg cw.hO r dq db hid aR (cN l) (cN c) ao) (by simp [execOp,e])
 ·
   rename_i t x bb aq mx e;simp only [Option.map_eq_some_iff,Prod.mk.injEq]at ao;obtain⟨v1,ac,rfl,rfl⟩:=ao;exact fF.h7 r dq (SX cw.hO (cN x) (ma.of_map cN bb) (ma.of_map cN aq) (ma.of_map cN mx) ac w) (by simp [execOp,e])
 ·
   rename_i t x f e;simp only [Option.map_eq_some_iff,Prod.mk.injEq]at ao;obtain⟨v1,ac,rfl,rfl⟩:=ao;exact fF.h7 r dq (SR cw.hO (cN x) ac w) (by simp [execOp,e])
 ·
   rename_i t x f e;simp only [Option.map_eq_some_iff,Prod.mk.injEq]at ao;obtain⟨v1,ac,rfl,rfl⟩:=ao;exact fF.h7 r dq (SN cw.hO (cN x) ac w) (by simp [execOp,e])
 ·
   rename_i t x i e;simp only [Option.map_eq_some_iff,Prod.mk.injEq]at ao;obtain⟨v1,ac,rfl,rfl⟩:=ao;exact fF.h7 r dq (SV cw.hO (cN x) (cN i) ac w) (by simp [execOp,e])
 ·
   rename_i t x i e;simp only [Option.map_eq_some_iff,Prod.mk.injEq]at ao;obtain⟨v1,ac,rfl,rfl⟩:=ao;exact fF.h7 r dq (SO cw.hO (cN x) (cN i) ac w) (by simp [execOp,e])
 ·
   rename_i x i e;split at ao
   ·rename_i vs bh;simp only [Option.map_eq_some_iff,Prod.mk.injEq]at ao;obtain⟨v1,ac,rfl,rfl⟩:=ao;exact fF.h7 r dq (SQ (by have:=cN x;rw [bh]at this;exact this) ac w) (by simp [execOp,e])
   ·cases ao
 ·
   rename_i c e;split at ao
   ·rename_i f aZ;unfold oO at ao;split at ao
    ·rename_i g first captured EH
     have ac:=cN f;rw [EH]at ac;simp only [aL]at ac;obtain⟨gb,ft,ac,Az,TN⟩:=ac
     have gz:bz φ (first++c.args.toList.map ρ++captured) (gb++c.args.map dU++ft).toList:=by simp only [Array.toList_append];exact(Az.append (wZ cN c.args)).append TN
     obtain⟨⟨fn,body,pR,AA⟩,gI⟩:=fW _ _ _ _ _ ao φ w _ r dq gz;refine .inr ⟨g,gb++c.args.map dU++ft,w,?_,gI.mono ?_⟩
     ·have AB:¬fn.name= "runtime.NumGoroutine" :=by simpa using cw.names g fn pR
      simp [execOp,e,resolve,aZ,ac,Deferred.ofValue,invoke,callFunc,pR,AB,AA]
     ·rintro dS mX ⟨br,bE,aK,aP,g',h6,mV,EI⟩;exact⟨br,bE,aK,⟨aP.le,fun i aq _ mi=>aP.new i aq mi,aP.ro⟩,g',h6,mV,EI⟩
    ·cases ao
   ·rename_i b aZ;have he:∃w1,(execOp dU o).run P w=(builtin b c.argTypes o.type w1 (c.args.map dU)).run P w:=⟨_,by simp [execOp,e,resolve,aZ,invoke];rfl⟩
    obtain⟨w1,he⟩:=he;rw [he];exact TI cw r dq db hid aR o.type w1 (wZ cN c.args) ao
   ·cases ao
 ·cases ao
theorem Le:∀(bH:List Int)(r:ByteArray),(bH.foldl (fun r n=>r.push (UInt8.ofNat n.toNat)) r).data.toList=r.data.toList++bH.map (fun n=>UInt8.ofNat n.toNat)
 |[],r=> aM
 |n::l,r=>by simp only [List.foldl_cons,List.map_cons];rw [Le l];simp [ByteArray.push]
theorem w3(w:World)(a:Addr)(k:Nat):(w.freeze a 1).heap[k]? =if a.block=k then(w.heap[k]?).map fun o=>match o with
 |.cells c elem (bb,aq)=> .cells c elem (if bb == aq then(a.off,a.off+1)else(min bb a.off,max aq (a.off+1)))
 |o=>o else w.heap[k]? :=by
 unfold World.freeze;rw [if_neg aS];simp only [Array.getElem?_modify];rfl
theorem Lf(w:World)(a x:Addr):(w.freeze a 1).cell? x=w.cell? x:=by
 unfold World.cell?;rw [w3];by_cases h:a.block=x.block
 ·rw [if_pos h];cases bU:w.heap[x.block]? with
  |none=>rfl
  |some o =>
   cases o;case cells c t f=>obtain⟨bb,aq⟩:=f;rfl
   all_goals rfl
 ·rw [if_neg h]
theorem kS.freeze{w:World}{a:Addr}{n:Nat}(aR:∃t bb aq,fC w a.block=some (t,n,bb,aq)∧(bb=aq∨n≤bb))(aT:a.off=n){k:Nat}(h:kS w k):kS (w.freeze a 1) k:=by
 by_cases e:a.block=k
 ·subst e;obtain⟨w4,bb,aq,ac,ai⟩:=aR;unfold kS fC;rw [w3,if_pos rfl];unfold fC at ac;cases bU:w.heap[a.block]? with
  |none=>rw [bU]at ac;cases ac
  |some o =>
   rw [bU]at ac;cases o
   case cells c t f =>
    obtain⟨h5,gF⟩:=f;simp only [Option.some.injEq,Prod.mk.injEq]at ac;obtain⟨rfl,rfl,rfl,rfl⟩:=ac;simp only [Option.map_some];by_cases aC:h5=gF
    ·refine⟨t,c.size,a.off,a.off+1,by simp [aC],.inr ab⟩
    ·refine⟨t,c.size,min h5 a.off,max gF (a.off+1),by simp [aC],.inr ?_⟩;rcases ai with ai|ai
     ·exact absurd ai aC
     ·omega
   all_goals cases ac
 ·exact h.of_eq (sL (by rw [w3,if_neg e]))
theorem kS.free{w:World}{b o:Nat}(h:kS w b)(aw:(w.cell? ⟨b,o,none⟩).isSome=true):w.frozen? ⟨b,o,none⟩=false:=by
 obtain⟨w4,n,bb,aq,ac,ai⟩:=h;unfold fC at ac;unfold World.cell? at aw;unfold World.frozen?;simp only at aw⊢;cases bU:w.heap[b]? with
 |none=>simp [bU]at ac
 |some Ey =>
  rw [bU]at ac aw;cases Ey
  case cells c t f =>
   obtain⟨h5,gF⟩:=f;simp only [Option.some.injEq,Prod.mk.injEq]at ac;obtain⟨rfl,rfl,rfl,rfl⟩:=ac;simp only [Option.isSome_none,Bool.false_eq_true,if_false]at aw
   have ao:o<c.size:=by
    rcases Nat.lt_or_ge o c.size with h|h
    ·exact h
    ·rw [Array.getElem?_eq_none h]at aw;cases aw
   simp;omega
  all_goals cases ac
theorem TO{w:World}{a:Addr}{k:Nat}{t:TypeId}{n bb aq:Nat}(h:fC w k=some (t,n,bb,aq)):∃bb aq,fC (w.freeze a 1) k=some (t,n,bb,aq):=by
 unfold fC at h⊢;rw [w3];by_cases e:a.block=k
 ·rw [if_pos e];cases bU:w.heap[k]? with
  |none=>rw [bU]at h;cases h
  |some o =>
   rw [bU]at h;cases o
   case cells c eQ f =>
    obtain⟨h5,gF⟩:=f;simp only [Option.some.injEq,Prod.mk.injEq]at h;obtain⟨rfl,rfl,rfl,rfl⟩:=h;simp only [Option.map_some];by_cases aC:h5=gF
    ·exact⟨a.off,a.off+1,by simp [aC]⟩
    ·exact⟨min h5 a.off,max gF (a.off+1),by simp [aC]⟩
   all_goals cases h
 ·rw [if_neg e];exact⟨bb,aq,h⟩
theorem cS.freeze{be:Nat→Prop}{h:J}{w:World}(r:cS φ be h w){a:Addr}{n:Nat}(aR:∃t bb aq,fC w a.block=some (t,n,bb,aq)∧(bb=aq∨n≤bb))(aT:a.off=n):cS φ be h (w.freeze a 1) where
 dD i v p ah:=by
  obtain⟨ac,b,ai,a8,bQ,bF,dv,cE,cj⟩:=r.dD i v p ah;have hm:b.ro=false→kS (w.freeze a 1) p.cd:=fun bc=>(cj.mark bc).freeze aR aT
  have gI:∀o,o<p.tot*p.es→((w.freeze a 1).cell? ⟨p.cd,p.off+o,none⟩).isSome=true:=fun o ao=>by rw [Lf];exact cj.cells o ao
  refine⟨ac,b,ai,a8,bQ,bF,dv,cE,⟨?_,cj.base,gI,fun bc o ao=>(hm bc).free (gI o ao),hm,fun t9 fv=>(by obtain⟨Eu,Tu,i9,Ev,wW,Ew⟩:=cj.jy t9 fv;obtain⟨o3,i8,wX⟩:=TO (a:=a) Ev;exact⟨Eu,o3,i8,wX,wW,Ew⟩),fun i e g1 g2 g3=> ?_⟩⟩
  ·have:=cj.cd;unfold World.freeze;rw [if_neg aS];simpa using this
  ·obtain⟨dh,du,fE⟩:=cj.cont i e g1 g2 g3
   exact⟨dh,du,fun j bT aj=>by
    obtain⟨x,o2,sW⟩:=fE j bT aj
    exact⟨x,by rw [Lf];exact o2,sW⟩⟩
 apart:=r.apart
 same:=r.same
theorem Safe.freeze{S:Nat→Prop}{a w:World}(h:Safe S a w){p:Addr}(ah:¬S p.block):Safe S a (w.freeze p 1) :=
 h.trans ⟨by unfold World.freeze;rw [if_neg aS],by unfold World.freeze;rw [if_neg aS],by unfold World.freeze;rw [if_neg aS],by unfold World.freeze;rw [if_neg aS];simp,fun k au=>by
  have bX:¬p.block=k:=fun e=>ah (by rw [e];exact au)
  rw [w3,if_neg bX]⟩
theorem TP(w:World)(s e:TypeId)(x:Addr)(n c:Nat)(hs:P.underlying s=some (.slice e))(he:P.underlying e=some (.int .u8)){w4:TypeId}{m bb aq:Nat}(hm:fC w x.block=some (w4,m,bb,aq)) :
 (convert s s (.slice (some x) n c)).run P w=.ok (.slice (some x) n c) (w.freeze ⟨x.block,m,none⟩ 1):=by
 unfold fC at hm;cases bU:w.heap[x.block]? with
 |none=>rw [bU]at hm;cases hm
 |some o =>
  rw [bU]at hm;cases o
  case cells p7 t f =>
   obtain⟨h5,gF⟩:=f;simp only [Option.some.injEq,Prod.mk.injEq]at hm;obtain⟨rfl,rfl,rfl,rfl⟩:=hm;have gA:w.shape? x.block=some (t,p7.size):=by unfold World.shape?;rw [bU]
   simp [convert,run_underlying hs,run_underlying he,markStringish,gA]
  all_goals cases hm
theorem TQ{D:dH}(bZ:D.dt P){be:Nat→Prop}{h ag:J}{bo w:World}(r:cS φ be h w)(dq:Safe be bo w)(db:fu be bo.heap.size){nid:Nat}(hid:∀v,φ nid v=none)(aR:nid<h.U)
 {s d:TypeId} {x v:aa} {bT:Value} (aj:aL φ x bT) (ao:q' D s d x nid h=some (v,ag)):p4 P φ be bo h nid v ag (convert s d bT) w:=by
 unfold q' at ao;split at ao
 ·rename_i nR gq bs EJ w5;obtain⟨ho,TR,TS,uG,AC, -, -⟩:=bZ.get EJ;obtain⟨Ez,EA,EB,rp,rq, -, -⟩:=bZ.get w5;split at ao
  ·rename_i e ck he;rw [AC]at ck;rw [rq]at he;have:=rh ck;subst this;have:=lx he;subst this;split at ao
   ·rename_i gX pZ;obtain⟨Ah,rj,oX,p0,lz, -, -⟩:=bZ.get pZ;split at ao
    ·rename_i au;rw [lz]at au;have:=wH au;subst this;simp only [Option.some.injEq,Prod.mk.injEq]at ao;obtain⟨rfl,rfl⟩:=ao;simp only [aL]at aj;obtain⟨t,rfl,rfl⟩:=aj;have kw:=Go.run_bytes_of_string (P:=P) w s d e t uG rp p0;have gi:t.size≤grownCap w t.size 0 e:=grownCap_ge w t.size 0 e;have fq:(bytesRow t (grownCap w t.size 0 e)).size=grownCap w t.size 0 e:=by simp [bytesRow];omega
     have hlen:(t.data.toList.map fun b=>aa.int .u8 b.toNat).length=t.size:=by rw [List.length_map,Array.length_toList];rfl
     have w6:t.data.toList.length=t.size:=by rw [Array.length_toList];rfl
     have iG:fu be w.heap.size:=db.le dq.size;refine⟨_,_,φ.add nid 0 ⟨w.heap.size,0,0,1,grownCap w t.size 0 e,false,false⟩,kw,hl.add φ _ (hid 0) _,?_,?_,dq.drew.alloc (by simpa using iG) _,rfl⟩
     ·rw [w6];exact aL.kb (ex:=false) (Nat.le_refl _) gi (Nat.le_refl _) aM
     ·have TT:flat (t.data.toList.map fun b=>aa.int .u8 b.toNat)=t.data.toList.map fun b=>aa.int .u8 b.toNat:=by
       generalize t.data.toList=l;induction l with
       |nil=>rfl
       |cons a r ih=>simp only [List.map_cons,flat,List.flatMap_cons,aa.cells]at ih⊢; rw [ih];rfl
      have Lg:(bytesRow t (grownCap w t.size 0 e)).toList.take ((t.data.toList.map fun b=>aa.int .u8 b.toNat).length*1)=t.data.toList.map fun b=>Value.int .u8 b.toNat:=by rw [hlen,Nat.mul_one];simp [bytesRow,List.take_append,w6]
      refine(r.alike (Alike.wT w)).Sr hid aR (by simpa using iG) (Nat.one_pos) ?_ ?_ (by rw [fq];simp) (by rw [hlen];exact gi) ?_ ?_ nofun
      ·intro e he;obtain⟨b,_,rfl⟩:=List.mem_map.1 he;rfl
      ·rw [Lg,TT];exact bz.map _ _ _ fun b _=>by simp only [aL]
      ·rw [Lg];intro u hu;obtain⟨_,_,rfl⟩:=List.mem_map.1 hu;rfl
      ·exact .inr (Nat.le_refl _)
    ·cases ao
   ·cases ao
  ·cases ao
 ·rename_i nR gq a n c EJ w5;obtain⟨ho,TR,TS,uG,AC, -, -⟩:=bZ.get EJ;obtain⟨Ez,EA,EB,rp,rq, -, -⟩:=bZ.get w5;split at ao
  ·rename_i e dS rr o5;rw [AC]at rr;rw [rq]at o5;have:=lx rr;subst this;have:=lx o5;subst this;split at ao
   ·rename_i gX sI pZ;obtain⟨Ah,rj,oX,p0,lz, -, -⟩:=bZ.get pZ;split at ao
    ·rename_i b au ax;rw [lz]at au;have:=wH au;subst this;split at ao
     ·rename_i aw;obtain⟨rfl,eu,aZ,iE⟩:=aw;simp only [Option.some.injEq,Prod.mk.injEq]at ao;obtain⟨rfl,rfl⟩:=ao;have wR:=aj;simp only [aL]at aj;obtain⟨fJ,di,rfl,et,l2,iF⟩:=aj;obtain⟨p,ah,jQ,kc,hex⟩:=iF.plain aZ;obtain⟨g1,jc,g2,g3,g4,g5,g6,g7,g8⟩:=r.dD _ _ _ ah;rw [ax]at g2;simp at g2;subst g2;have uH:b.ro=false:=eu;rcases kc with bf|⟨eI,rfl,oV⟩
      ·omega
      ·obtain⟨w4,m,bb,aq,m1,m2⟩:=g8.mark uH;exact⟨_,_,φ,TP w s e (p.at sI.idx 0) n di uG p0 m1,hl.refl _ _ _,wR,r.freeze (a:=⟨p.cd,m,none⟩) ⟨w4,bb,aq,m1,m2⟩ rfl,dq.freeze (g8.base (g6 uH)),rfl⟩
     ·cases ao
    ·cases ao
   ·cases ao
  ·rename_i e rr o5;rw [AC]at rr;rw [rq]at o5;have:=lx rr;subst this;have:=rh o5;subst this;split at ao
   ·rename_i gX pZ;obtain⟨Ah,rj,oX,p0,lz, -, -⟩:=bZ.get pZ;split at ao
    ·rename_i au;rw [lz]at au;have:=wH au;subst this;split at ao
     ·rename_i l aC;cases ax:bytesOf l with
      |none=>rw [ax]at ao;cases ao
      |some q =>
       rw [ax]at ao;simp only [Option.map_some,Option.some.injEq,Prod.mk.injEq]at ao;obtain⟨rfl,rfl⟩:=ao;obtain⟨news,src,nY,fO⟩:=As (P:=P) (tx:=s) r aj aC (Nat.one_pos) (.inl ⟨e,uG⟩);obtain⟨bH,bi,bu⟩:=K0 ax nY;refine p4.pure r dq ?_;cases a with
       |none =>
        simp only [aL]at aj;obtain⟨rfl,_,_⟩:=aj;have bf:=src.cells;refine⟨.string .empty,?_,?_⟩
        ·rw [run_convert_bytes_string w s d e none 0 0 uG p0 rp];rfl
        ·simp only [aL];refine⟨_,rfl,?_⟩
         have jO:l=[]:=by have:=src.len w;simp [Builtin.lenOf]at this;exact List.length_eq_zero_iff.1 this.symm
         subst jO;simp [bytesOf]at ax;subst ax;rfl
       |some a =>
        simp only [aL]at aj;obtain⟨fJ,di,rfl,et,l2,iF⟩:=aj
        have mf:l.length=n:=by have:=src.len w;simp [Builtin.lenOf]at this;exact this.symm
        have bf:=src.cells;rw [mf]at bf
        have mZ:(loadCells fJ n).run P w=.ok (bH.map (Value.int .u8)).toArray w:=by rw [bi]at bf;simpa [Builtin.firstCells]using bf
        refine⟨_,by rw [run_convert_bytes_string w s d e (some fJ) n di uG p0 rp];exact run_bytesToString w fJ n di bH mZ,?_⟩;simp only [aL];refine⟨_,rfl,?_⟩;rw [Le,bu];rfl
     ·cases ao
    ·cases ao
   ·cases ao
  ·cases ao
 ·cases ao
theorem TU{k:Nat}{args:List aa}{dk:Array Value}(aT:bz φ args dk.toList){v:aa}(h:DN k args=some v){AD:Array Value→Sem Value}(he:wY k=some AD)(w:World) :
 ∃br,(AD dk).run P w=.ok br w∧aL φ v br:=by
 unfold DN at h;split at h
 ·rename_i s c;obtain⟨l⟩:=dk;simp only [bz]at aT;obtain⟨a,t,rfl,rs,b,u,rfl,hE,rfl⟩:=aT;simp only [aL]at rs hE;obtain⟨eQ,rfl,rfl⟩:=rs;subst hE;split at h
  ·simp only [Option.some.injEq]at h;subst h;simp only [wY,Option.some.injEq]at he;subst he;exact⟨_,Go.Lib.run_countString eQ c w,by simp only [aL]⟩
  ·simp only [Option.some.injEq]at h;subst h;simp only [wY,Option.some.injEq]at he;subst he;exact⟨_,Go.Lib.run_indexByteString eQ c w,by simp only [aL]⟩
  ·cases h
 ·rename_i s s2;obtain⟨l⟩:=dk;simp only [bz]at aT;obtain⟨a,t,rfl,rs,b,u,rfl,hE,rfl⟩:=aT;simp only [aL]at rs hE;obtain⟨eQ,rfl,rfl⟩:=rs;obtain⟨uA,rfl,rfl⟩:=hE;split at h
  ·rename_i au;subst au;simp only [Option.some.injEq]at h;subst h;simp only [wY,Option.some.injEq]at he;subst he;exact⟨_,Go.Lib.run_compareString eQ uA w,by simp only [aL]⟩
  ·cases h
 ·cases h
theorem TV(cw:hn P E){be:Nat→Prop}{h ag:J}{bo w:World}{call:dV}(fW:n0 P be bo call)(r:cS φ be h w)(dq:Safe be bo w)(db:fu be bo.heap.size){nid:Nat}(hid:∀v,φ nid v=none)
 (aR:nid<h.U) {ρ:Operand→aa} {dU:Operand→Value} (cN:∀x,aL φ (ρ x) (dU x)) {o:Oper} {v:aa} (ao:jv E call nid ρ h o.op=some (v,ag)) :
 fF P φ be bo h nid v ag ((execOp dU o).run P w):=by
 unfold jv at ao;split at ao
 ·rename_i iB bf;simp only [Option.some.injEq]at ao;subst ao;exact TM cw fW r dq db hid aR cN bf
 ·unfold e7 at ao;split at ao
  ·rename_i s d x e;exact fF.sZ (TQ cw.hO r dq db hid aR (cN x) ao) (by simp [execOp,e])
  ·rename_i c e;split at ao
   ·rename_i f aZ;split at ao
    ·rename_i g EH;split at ao
     ·rename_i k au;simp only [Option.map_eq_some_iff,Prod.mk.injEq]at ao;obtain⟨v1,ac,rfl,rfl⟩:=ao;obtain⟨fn,AD,kY,wS,w7,TW,TX⟩:=cw.K8 g k au;have bh:=cN f;rw [EH]at bh;simp only [aL,bz]at bh;obtain⟨gb,ft,Aq,uz,Lh⟩:=bh;have AE:gb= #[]:=by cases gb;simp at uz;subst uz;rfl
      have AF:ft= #[]:=by cases ft;simp at Lh;subst Lh;rfl
      subst AE;subst AF;have gz:=wZ cN c.args;have kd:=TU (P:=P) gz ac TX w;refine fF.h7 (s:=AD (c.args.map dU)) r dq kd ?_;have kw:=run_callFunc_extern kY (cw.names g fn kY) wS w7 TW (c.args.map dU) w;rw [←kw];simp [execOp,e,resolve,aZ,Aq,Deferred.ofValue,invoke]
     ·cases ao
    ·cases ao
   ·cases ao
  ·cases ao
theorem TY(cw:hn P E){be:Nat→Prop}{h ag:J}{bo w:World}{call:dV}(fW:n0 P be bo call)(r:cS φ be h w)(dq:Safe be bo w)(db:fu be bo.heap.size){nid:Nat}(hid:∀v,φ nid v=none)
 (aR:nid<h.U) {ρ:Operand→aa} {a:Act} (cN:∀x,aL φ (ρ x) (a.eval x)) {o:Oper} {v:aa} (ao:jv E call nid ρ h o.op=some (v,ag)) {U:Act→World→Prop} {Q:Exit→Act→World→Prop}
 (au:∀br bq bE,hl φ bE h.U nid→aL bE v br→cS bE be ag bq→Safe be bo bq→h.U≤ag.U→U (a.put o.dst br) bq):o.wp P a w U Q:=by
 unfold Oper.wp;rcases TV cw fW r dq db hid aR cN ao with ⟨br,bq,bE,bc,aP,bt,g',h6,mV⟩|⟨f,args,bq,bc,aw⟩
 ·rcases bc with bc|⟨bc,rfl⟩
  ·rw [bc];exact au _ _ _ aP bt g' h6 mV
  ·rw [bc];exact au _ _ _ aP bt g' h6 mV
 ·rw [bc]
  exact aw.mono fun e mX ⟨br,bE,aK,aP,bt,g',h6,mV⟩=>by subst aK;exact au _ _ _ aP bt g' h6 mV
end
end
end Go.cf
namespace Go.cf
noncomputable section
open Go.RowKit
structure gJ(φ:Map)(be:Nat→Prop)(bo:World)(s:fr)(a:Act)(w:World):Prop where
 e3:bz φ s.e3 a.tmps.toList
 heap:cS φ be s.heap w
 below:Safe be bo w
 defers:a.defers=[]
section
variable {P:Program}{φ:Map}{E:bY}
theorem bz.EK{l:List aa}{t:Array Value}(h:bz φ l t.toList)(i:Nat):aL φ (l.getD i .undef) (t.getD i undef):=by
 have ai:t.getD i undef=t.toList.getD i undef:=by simp [Array.getD_eq_getD_getElem?,List.getD_eq_getElem?_getD]
 rw [ai];exact h.getD i
theorem gJ.eval{be:Nat→Prop}{bo w:World}{s:fr}{a:Act}(r:gJ φ be bo s a w)(x:Operand):aL φ (de s.e3 x) (a.eval x):=by
 cases x with
 |tmp t=>exact r.e3.EK t
 |const v=>exact Km φ v
 |global g=>simp [de,aL]
 |func f=>simp only [de,aL];exact⟨#[],#[],rfl,by simp [bz],by simp [bz]⟩
theorem Li{s:List aa}{a:Act}(h:bz φ s a.tmps.toList)(dst:Option Tmp){v:aa}{br:Value}(bh:aL φ v br):bz φ (hM s dst v) (a.put dst br).tmps.toList:=by
 cases dst with
 |none=>exact h
 |some d =>
  simp only [hM,Act.put,Array.toList_setIfInBounds];exact h.set d bh
theorem put_defers(a:Act)(dst:Option Tmp)(v:Value):(a.put dst v).defers=a.defers:=by cases dst<;>rfl
theorem Lj{s:List aa}{a:Act}(h:bz φ s a.tmps.toList){ops:Array Oper}{o:Oper}{b:Bool}(hw:jw ops s o=some b):Region.wanted o (yielded ops a.tmps)=b:=by
 unfold jw at hw;unfold Region.wanted;split at hw
 ·rename_i e;simp at hw;subst hw;simp [e]
 ·rename_i j want e;rw [e];simp only;split at hw
  ·rename_i d aE;unfold yielded;rw [aE];simp only [Option.bind_some];split at hw
   ·rename_i c aw;simp at hw;subst hw;obtain⟨v,bh,pW⟩:=h.get aw;simp only [aL]at pW;subst pW;have EL:a.tmps[d]? =some (.bool c):=by simpa using bh
    rw [EL];cases c<;>cases want<;>rfl
   ·rename_i aw;simp at hw;subst hw;obtain⟨v,bh,pW⟩:=h.get aw;simp only [aL]at pW;obtain⟨xs,rfl,_⟩:=pW;have EL:a.tmps[d]? =some (.tuple xs):=by simpa using bh
    rw [EL];cases want<;>rfl
   ·cases hw
  ·cases hw
theorem Lk(cw:hn P E){be:Nat→Prop}{bo w:World}(db:fu be bo.heap.size){call:dV}(fW:n0 P be bo call){ops:Array Oper}{ap i:Nat}{s bG:fr}{a:Act}(r:gJ φ be bo s a w)
 (hid:ap+i<s.heap.U∧∀v,φ (ap+i) v=none) (h:ra E call ops ap i s=some bG) {K:Act→World→Prop} {Q:Exit→Act→World→Prop}
 (au:∀cv bq bE,hl φ bE s.heap.U (ap+i)→gJ bE be bo bG cv bq→s.heap.U≤bG.heap.U→K cv bq):wpOp P ops Q i K a w:=by
 unfold ra at h;unfold wpOp;split at h
 ·rename_i ao;simp at h;subst h;rw [ao];exact au a w φ (hl.refl _ _ _) r (Nat.le_refl _)
 ·rename_i o ao;rw [ao];split at h
  ·rename_i hw;have o6:=Lj r.e3 hw;split at h
   ·rename_i v ah gZ;simp at h;subst h;simp only [o6,if_true];left;refine TY cw fW r.heap r.below db hid.2 hid.1 r.eval gZ fun br bq bE ac ai a8 bQ bF=> ?_
    refine au _ bq bE ac ⟨?_,a8,bQ,by rw [put_defers];exact r.defers⟩ bF;exact Li (r.e3.mono ac.le) _ ai
   ·cases h
  ·rename_i hw;have o6:=Lj r.e3 hw;simp at h;subst h;simp only [o6,Bool.false_eq_true,if_false];exact au _ w φ (hl.refl _ _ _) ⟨Li r.e3 _ (aL.gg φ),r.heap,r.below,by rw [put_defers];exact r.defers⟩ (Nat.le_refl _)
  ·cases h
theorem Ll(cw:hn P E){be:Nat→Prop}{bo:World}(db:fu be bo.heap.size){call:dV}(fW:n0 P be bo call){ops:Array Oper}{ap:Nat}{Q:Exit→Act→World→Prop} :
 ∀{l:List Nat}{s bG:fr}{a:Act}{w:World}{φ:Map},oQ E call ops ap l s=some bG→gJ φ be bo s a w→l.Nodup→(∀j∈l,ap+j<s.heap.U∧∀v,φ (ap+j) v=none) →
  (∀cv bq bE,eW φ bE ap→gJ bE be bo bG cv bq→s.heap.U≤bG.heap.U→Q .normal cv bq)→wpOps P ops Q l a w
 |[],s,bG,a,w,φ,h,r,_,_,au=>by simp [oQ]at h;subst h;simp only [wpOps];exact au a w φ (eW.refl _ _) r (Nat.le_refl _)
 |i ::rest,s,bG,a,w,φ,h,r,hX,hid,au=>by
  simp only [oQ]at h;split at h
  ·rename_i s1 ac;rw [wpOps_cons];have Lm:=List.nodup_cons.1 hX;refine Lk cw db fW r (hid i aM) ac fun cv bq bE aj fH hle=> ?_
   refine Ll cw db fW h fH Lm.2 (fun j a1=> ?_) fun s0 mX s3 EM EN TZ=> ?_
   ·have p8 : ap + j ≠ ap + i := by intro e;have:j=i:= ab
                                    subst this;exact Lm.1 a1
    obtain⟨g1,g2⟩:=hid j (by simp [a1]);exact⟨ab,aj.new _ g1 p8 g2⟩
   ·refine au _ _ _ (eW.trans ⟨aj.le,fun k ky mi=>aj.new k ?_ ab mi,aj.ro⟩ EM) EN ab;have:=(hid i aM).1;omega
  ·cases h
end
end
end Go.cf
namespace Go.cf
noncomputable section
open Go.RowKit
mutual
theorem aa.AG:∀{a b:aa},aa.same a b=true→a=b:=by
 intro a b h
 cases a<;>cases b<;>simp only [aa.same,Bool.false_eq_true,Bool.and_eq_true,beq_iff_eq,decide_eq_true_eq]at h <;>
  first
   |rfl
   |(subst h;rfl)
   |(obtain⟨rfl,rfl⟩:=h;rfl)
   |(obtain⟨⟨rfl,rfl⟩,rfl⟩:=h;rfl)
   |(obtain⟨⟨rfl,ac⟩,ai⟩:=h;rw [aa.w8 ac,aa.w8 ai])
   |(obtain⟨rfl,ac⟩:=h;rw [aa.AG ac])
   |(rw [aa.w8 h])
theorem aa.w8:∀{a b:List aa},aa.oS a b=true→a=b:=by
 intro a b h;cases a<;>cases b<;>simp only [aa.oS,Bool.false_eq_true,Bool.and_eq_true]at h
 ·rfl
 ·obtain⟨ac,ai⟩:=h;rw [aa.AG ac,aa.w8 ai]
end
theorem af.AG{a b:af}(h:af.same a b=true):a=b:=by cases a;cases b;simp only [af.same,Bool.and_eq_true,beq_iff_eq]at h;obtain⟨⟨⟨⟨⟨⟨⟨ac,ai⟩,a8⟩,bQ⟩,bF⟩,dv⟩,cE⟩,cj⟩:=h;rw [aa.w8 ac,ai,a8,bQ,bF,dv,cE,cj]
mutual
theorem aa.AH:∀(a:aa),aa.same a a=true
 |.undef=>rfl
 |.bool _=>by simp [aa.same]
 |.int _ _=>by simp [aa.same]
 |.str _=>by simp [aa.same]
 |.ptr _=>by simp [aa.same]
 |.slice _ _ _=>by simp [aa.same]
 |.func _ f c=>by simp [aa.same,aa.uI f,aa.uI c]
 |.nilFunc=>rfl
 |.iface _ v=>by simp [aa.same,aa.AH v]
 |.nilIface=>rfl
 |.agg l=>by simp [aa.same,aa.uI l]
 |.tuple l=>by simp [aa.same,aa.uI l]
theorem aa.uI:∀(l:List aa),aa.oS l l=true
 |[]=>rfl
 |a::r=>by simp [aa.oS,aa.AH a,aa.uI r]
end
theorem af.AH(a:af):af.same a a=true:=by simp [af.same,aa.uI]
theorem Ln{cC:Nat}{h ag:J}(k:pT cC h ag=true){i:Nat}(aq:i<cC):ag.get i=h.get i :=
 aV.DC (fun _ _=>af.AG) cC ag.aH h.aH 0 1 k i ab
theorem EO{cC:Nat}{h ag:J}(k:∀i,i<cC→ag.get i=h.get i):pT cC h ag=true :=
 aV.DD af.AH cC ag.aH h.aH 0 1 fun i aq=>k i ab
section
variable {E:bY}{call:dV}
theorem n3{nid:Nat}{ρ:Operand→aa}{h ac:J}{o:Op}{v:aa}(aw:ek o=.pure)(ao:bN E call nid ρ h o=some (v,ac)) :
 ac=h∧∀(o7:Nat)(ag:J),bN E call o7 ρ ag o=some (v,ag):=by
 cases o<;>simp only [ek,reduceCtorEq]at aw<;>simp only [bN]at ao⊢ <;>
  first
   |(simp only [Option.map_eq_some_iff,Prod.mk.injEq,Option.some.injEq]at ao
     obtain⟨v1,bh,rfl,rfl⟩:=ao
     exact⟨rfl,fun _ _=>by rw [bh];rfl⟩)
   |(simp only [Prod.mk.injEq,Option.some.injEq]at ao
     obtain⟨rfl,rfl⟩:=ao
     exact⟨rfl,fun _ _=>rfl⟩)
   |skip
 ·split at ao
  ·rename_i t bW;simp only [Prod.mk.injEq,Option.some.injEq]at ao;obtain⟨rfl,rfl⟩:=ao;exact⟨rfl,fun _ _=>by simp only [bW]⟩
  ·cases ao
 ·split at ao
  ·rename_i a aT;simp only [Prod.mk.injEq,Option.some.injEq]at ao;obtain⟨rfl,rfl⟩:=ao;exact⟨rfl,fun _ _=>by simp only [aT]⟩
  ·rename_i g fs bm aT;simp only [Prod.mk.injEq,Option.some.injEq]at ao;obtain⟨rfl,rfl⟩:=ao;exact⟨rfl,fun _ _=>by simp only [aT]⟩
  ·cases ao
 ·split at ao
  ·rename_i d aE;split at ao
   ·cases ao
   ·rename_i w2;simp only [Prod.mk.injEq,Option.some.injEq]at ao;obtain⟨rfl,rfl⟩:=ao;refine⟨rfl,fun _ _=> ?_⟩;simp only [aE]
  ·cases ao
 ·rename_i fn fs bm;cases fn<;>simp only [bN]at ao⊢ <;>first|(cases ao;done)|skip
  simp only [Prod.mk.injEq,Option.some.injEq]at ao;obtain⟨rfl,rfl⟩:=ao;exact⟨rfl,fun _ _=>rfl⟩
 ·split at ao
  ·rename_i vs bh;simp only [Option.map_eq_some_iff,Prod.mk.injEq]at ao;obtain⟨v1,ac,rfl,rfl⟩:=ao;exact⟨rfl,fun _ _=>by simp only [bh,ac,Option.map_some]⟩
  ·cases ao
 ·rename_i c;cases jg:c.callee with
  |value f=>rw [jg]at aw;simp at aw
  |invoke r m=>rw [jg]at aw;simp at aw
  |builtin b =>
   rw [jg]at aw ao;simp only [jg];cases b<;>first|(simp at aw;done)|skip
   all_goals
    simp only [hC]at ao⊢;split at ao
    ·simp only [Option.map_eq_some_iff,Prod.mk.injEq]at ao;obtain⟨v1,ac,rfl,rfl⟩:=ao;exact⟨rfl,fun _ _=>by simp only [ac,Option.map_some]⟩
    ·cases ao
theorem s4{nid:Nat}{ρ:Operand→aa}{h ac:J}{o:Op}{v:aa}(aw:ek o=.load)(ao:bN E call nid ρ h o=some (v,ac)) :
 ac=h∧∃b,kp ρ o=some b∧∀(o7:Nat)(ag:J),ag.get b=h.get b→bN E call o7 ρ ag o=some (v,ag):=by
 cases o<;>simp only [ek,reduceCtorEq]at aw
 ·rename_i t x;simp only [bN]at ao⊢;split at ao
  ·rename_i a aT;simp only [Option.map_eq_some_iff,Prod.mk.injEq]at ao;obtain⟨v1,bh,rfl,rfl⟩:=ao;refine⟨rfl,a.id,by simp [kp,aT],fun o7 ag ak=> ?_⟩;simp only [aT,bM,ak]at bh⊢;rw [bh];rfl
  ·cases ao
 ·rename_i c;cases jg:c.callee with
  |value f=>rw [jg]at aw;simp at aw
  |invoke r m=>rw [jg]at aw;simp at aw
  |builtin b=>rw [jg]at aw;cases b<;>simp at aw
theorem Lo{nid:Nat}{ρ:Operand→aa}{h ac:J}{o:Op}{v:aa}(aw:ek o=.store)(ao:bN E call nid ρ h o=some (v,ac)) :
 ∃s b,nS ρ o=some s∧ac=h.set s b∧True:=by
 cases o<;>simp only [ek,reduceCtorEq]at aw
 ·rename_i t x y;simp only [bN]at ao;split at ao
  ·rename_i a aT;simp only [Option.map_eq_some_iff,Prod.mk.injEq]at ao;obtain⟨ai,bh,rfl,rfl⟩:=ao;unfold hL at bh;split at bh
   ·split at bh
    ·split at bh
     ·split at bh
      ·simp only [Option.some.injEq]at bh;exact⟨a.id,_,by simp [nS,aT],bh.symm,trivial⟩
      ·cases bh
     ·cases bh
    ·cases bh
   ·cases bh
  ·cases ao
 ·rename_i c;cases jg:c.callee with
  |value f=>rw [jg]at aw;simp at aw
  |invoke r m=>rw [jg]at aw;simp at aw
  |builtin b=>rw [jg]at aw;cases b<;>simp at aw
theorem uJ{nid:Nat}{ρ:Operand→aa}{h ac:J}{o:Op}{v:aa}(aw:ek o=.alloc)(ao:bN E call nid ρ h o=some (v,ac)) :
 ∃b,ac=h.set nid b∧∀(ag:J),bN E call nid ρ ag o=some (v,ag.set nid b):=by
 cases o<;>simp only [ek,reduceCtorEq]at aw
 ·rename_i t;simp only [bN]at ao⊢;split at ao
  ·rename_i d aE;split at ao
   ·rename_i z eK;split at ao
    ·rename_i dE;simp only [Prod.mk.injEq,Option.some.injEq]at ao;obtain⟨rfl,rfl⟩:=ao;exact⟨_,rfl,fun ag=>by simp only [dE,if_true]⟩
    ·cases ao
   ·cases ao
  ·cases ao
 ·rename_i t x;simp only [bN]at ao⊢;split at ao
  ·rename_i d aE;split at ao
   ·rename_i dE;simp only [Prod.mk.injEq,Option.some.injEq]at ao;obtain⟨rfl,rfl⟩:=ao;exact⟨_,rfl,fun ag=>by simp only [dE,if_true]⟩
   ·cases ao
  ·cases ao
 ·rename_i t n parts;simp only [bN,oL]at ao⊢;split at ao
  ·rename_i d aE;split at ao
   ·rename_i e he;split at ao
    ·rename_i x aj;split at ao
     ·rename_i z eK;split at ao
      ·rename_i dE;split at ao
       ·rename_i l aC;simp only [Prod.mk.injEq,Option.some.injEq]at ao;obtain⟨rfl,rfl⟩:=ao;refine⟨_,rfl,fun ag=> ?_⟩;simp only [he,aj,eK,dE,aC,and_self,if_true]
       ·cases ao
      ·cases ao
     ·cases ao
    ·cases ao
   ·cases ao
  ·cases ao
 ·rename_i t l c;simp only [bN,wy]at ao⊢;split at ao
  ·rename_i d aK n aP m aE aC hm;split at ao
   ·rename_i e he;split at ao
    ·rename_i x aj;split at ao
     ·rename_i z eK;split at ao
      ·rename_i dE;simp only [Prod.mk.injEq,Option.some.injEq]at ao;obtain⟨rfl,rfl⟩:=ao;refine⟨_,rfl,fun ag=> ?_⟩;simp only [he,aj,eK,dE,and_self,if_true]
      ·cases ao
     ·cases ao
    ·cases ao
   ·cases ao
  ·cases ao
 ·rename_i c;cases jg:c.callee with
  |value f=>rw [jg]at aw;simp at aw
  |invoke r m=>rw [jg]at aw;simp at aw
  |builtin b=>rw [jg]at aw;cases b<;>simp at aw
theorem uK{ρ dU:Operand→aa}{xs:Array Operand}(h:∀x∈xs.toList,ρ x=dU x):xs.toList.map ρ=xs.toList.map dU:=List.map_congr_left h
theorem EP{ρ dU:Operand→aa}{o:Option Operand}(h:∀x∈o.toList,ρ x=dU x):o.map ρ=o.map dU:=by
 cases o with
 |none=>rfl
 |some x=>simp [h x aM]
theorem EQ{nid:Nat}{ρ dU:Operand→aa}{h:J}{o:Op}(cN:∀x∈o.operands.toList,ρ x=dU x):bN E call nid ρ h o=bN E call nid dU h o:=by
 cases o
 case call c =>
  simp only [Op.operands,Call.operands,Array.toList_append,List.mem_append]at cN;simp only [bN];have aT:=uK (xs:=c.args) (fun x aj=>cN x (.inr aj));cases jg:c.callee with
  |value f =>
   rw [jg]at cN;simp only [aT,cN f (.inl aM)]
  |invoke r m=>rfl
  |builtin b=>simp only [aT]
 case makeFunc fn fs bm =>
  simp only [Op.operands,Array.toList_append,List.mem_append]at cN;cases fn<;>simp only [bN];rw [uK (xs:=fs) (fun x aj=>cN x (.inl aj)),uK (xs:=bm) (fun x aj=>cN x (.inr aj))]
 case slice t x bb aq mx =>
  simp only [Op.operands,Array.toList_append,List.mem_append]at cN;simp only [bN];rw [cN x aM,EP (o:=bb) (fun y bV=>cN y (by simp_all)),EP (o:=aq) (fun y bV=>cN y (by simp_all)),EP (o:=mx) (fun y bV=>cN y (by simp_all))]
 case build t parts =>
  have ah:(parts.toList.map fun p=>(p.1,ρ p.2))=parts.toList.map fun p=>(p.1,dU p.2):=by
   refine List.map_congr_left fun p ah=> ?_
   rw [cN p.2 (by simp only [Op.operands];exact List.mem_map.2 ⟨p,ah,rfl⟩)]
  simp only [bN,ah]
 case buildSlice t n parts =>
  have ah:(parts.toList.map fun p=>(p.1,ρ p.2))=parts.toList.map fun p=>(p.1,dU p.2):=by
   refine List.map_congr_left fun p ah=> ?_
   rw [cN p.2 (by simp only [Op.operands];exact List.mem_map.2 ⟨p,ah,rfl⟩)]
  simp only [bN,ah]
 all_goals first
  |rfl
  |(simp only [bN,Op.operands]at cN⊢; simp_all)
def mj(acc:Array Nat)(o:Oper):Nat:=o.after.toList.foldl (fun s e=>if i' e then s ||| 2^e.on ||| acc.getD e.on 0 else s) 0
theorem ER:∀(l:List Oper)(acc:Array Nat)(k:Nat),k<acc.size→(l.foldl (fun acc o=>acc.push (mj acc o)) acc).getD k 0=acc.getD k 0
 |[],acc,k,h=>rfl
 |o::r,acc,k,h=>by simp only [List.foldl_cons];rw [ER r _ k (by simp;omega)];simp [Array.getD_eq_getD_getElem?,Array.getElem?_push,Nat.ne_of_lt h]
theorem T0{a b:Array Nat}{o:Oper}(h:∀e∈o.after.toList,i' e=true→a.getD e.on 0=b.getD e.on 0):mj a o=mj b o:=by
 unfold mj
 have key:∀(l:List Edge)(s:Nat),(∀e∈l,i' e=true→a.getD e.on 0=b.getD e.on 0) →
  l.foldl (fun s e=>if i' e then s ||| 2^e.on ||| a.getD e.on 0 else s) s=l.foldl (fun s e=>if i' e then s ||| 2^e.on ||| b.getD e.on 0 else s) s:=by
  intro l;induction l with
  |nil=>intro s _;rfl
  |cons e r ih =>
   intro s aC;simp only [List.foldl_cons]
   have:(if i' e then s ||| 2^e.on ||| a.getD e.on 0 else s)=(if i' e then s ||| 2^e.on ||| b.getD e.on 0 else s):=by
    cases ax:i' e
    ·rfl
    ·simp only [if_true];rw [aC e aM ax]
   rw [this,ih _ (fun e he=>aC e (by simp [he]))]
 exact key _ 0 h
theorem fold_at:∀(l:List Oper)(acc:Array Nat)(m:Nat)(o:Oper),l[m]? =some o→(∀e∈o.after.toList,i' e=true→e.on<acc.size+m) →
 (l.foldl (fun acc o=>acc.push (mj acc o)) acc).getD (acc.size+m) 0=mj (l.foldl (fun acc o=>acc.push (mj acc o)) acc) o
 |[],acc,m,o,h,_=>by simp at h
 |a::r,acc,0,o,h,he=>by
  simp at h;subst h;simp only [List.foldl_cons,Nat.add_zero];rw [ER r _ acc.size aM];have:(acc.push (mj acc a)).getD acc.size 0=mj acc a:=by simp [Array.getD_eq_getD_getElem?]
  rw [this];refine T0 fun e hm ax=> ?_
  have cG:=he e hm ax;rw [ER r _ e.on (by simp;omega)];simp [Array.getD_eq_getD_getElem?,Array.getElem?_push];rw [if_neg ab]
 |a::r,acc,m+1,o,h,he=>by simp at h;simp only [List.foldl_cons];have:=fold_at r (acc.push (mj acc a)) m o h (fun e hm ax=>by have:=he e hm ax;simp;omega);simp only [Array.size_push]at this;rw [show acc.size+(m+1)=acc.size+1+m by omega];exact this
theorem Lp{acc:Array Nat}{i:Nat} :∀(l:List Edge)(s:Nat),(l.foldl (fun s e=>if i' e then s ||| 2^e.on ||| acc.getD e.on 0 else s) s).testBit i=true →
 s.testBit i=true∨ ∃e∈l,i' e=true∧(e.on=i∨(acc.getD e.on 0).testBit i=true)
 |[],s,h=> .inl h
 |e ::r,s,h=>by
  simp only [List.foldl_cons]at h;rcases Lp r _ h with ac|⟨dS,ac,ai⟩
  ·cases ax:i' e
   ·rw [ax]at ac;exact .inl (by simpa using ac)
   ·rw [ax]at ac;simp only [if_true,Nat.testBit_or,Bool.or_eq_true]at ac;rcases ac with (ac|ac)|ac
    ·exact .inl ac
    ·right;rw [Nat.testBit_two_pow]at ac;exact⟨e,aM,ax,.inl (by simpa using ac)⟩
    ·exact .inr ⟨e,aM,ax,.inr ac⟩
  ·exact .inr ⟨dS,by simp [ac],ai⟩
def p9(ops:Array Oper):Prop:= ∀(j:Nat)(o:Oper),ops[j]? =some o→ ∀e∈o.after.toList,i' e=true→e.on<j
theorem Lq{ops:Array Oper}(aC:p9 ops){i j:Nat}{o:Oper}(ao:ops[j]? =some o)(h:ordered (eb ops) i j=true) :
 ∃e∈o.after.toList,i' e=true∧(e.on=i∨ordered (eb ops) i e.on=true):=by
 unfold ordered at h;have:=fold_at ops.toList #[] j o (by simpa using ao) (fun e he ax=>by have:=aC j o ao e he ax;simp;omega);simp only [List.size_toArray,List.length_nil,Nat.zero_add]at this;have bi:eb ops=ops.toList.foldl (fun acc o=>acc.push (mj acc o)) #[]:=rfl;rw [bi,this]at h;rcases Lp _ _ h with ac|ac
 ·simp at ac
 ·exact ac
theorem Lr{ops:Array Oper}{i j:Nat}(ao:ops[j]? =none):ordered (eb ops) i j=false:=by
 have fq:∀(l:List Oper)(acc:Array Nat),(l.foldl (fun acc o=>acc.push (mj acc o)) acc).size=acc.size+l.length:=by
  intro l;induction l with
  |nil=>intro acc;rfl
  |cons a r ih=>intro acc;simp only [List.foldl_cons,ih,Array.size_push,List.length_cons];omega
 have bi:eb ops=ops.toList.foldl (fun acc o=>acc.push (mj acc o)) #[]:=rfl;have a1:ops.size≤j:=by simpa using ao
 unfold ordered;rw [bi,Array.getD_eq_getD_getElem?,Array.getElem?_eq_none (by rw [fq];simpa using a1)];simp
theorem T1{ops:Array Oper}(aC:p9 ops):∀(j:Nat){i:Nat},ordered (eb ops) i j=true→i<j:=by
 intro j;induction j using Nat.strongRecOn with
 |_ j ih =>
  intro i h;cases ao:ops[j]? with
  |none=>rw [Lr ao]at h;cases h
  |some o =>
   obtain⟨e,he,ax,aw⟩:=Lq aC ao h;have:=aC j o ao e he ax;rcases aw with rfl|aw
   ·exact this
   ·have:=ih e.on this aw;omega
def Ls(ops:Array Oper)(listed:Array Bool):Prop:= ∀(j:Nat)(o:Oper),listed.getD j false=true→ops[j]? =some o→ ∀e∈o.after.toList,i' e=true→listed.getD e.on false=true
theorem T2{ops:Array Oper}(aC:p9 ops){listed:Array Bool}(aw:Ls ops listed):∀(j:Nat)(o:Oper),ops[j]? =some o→(∀e∈o.after.toList,i' e=true→listed.getD e.on false=true) →
 ∀{i:Nat},ordered (eb ops) i j=true→listed.getD i false=true:=by
 intro j;induction j using Nat.strongRecOn with
 |_ j ih =>
  intro o ao ah i h;obtain⟨e,he,ax,w9⟩:=Lq aC ao h;have cG:=aC j o ao e he ax;have hle:=ah e he ax;rcases w9 with rfl|w9
  ·exact hle
  ·cases ES:ops[e.on]? with
   |none=>rw [Lr ES]at w9;cases w9
   |some Lt=>exact ih e.on cG Lt ES (aw e.on Lt hle ES) w9
def m'(E:bY)(call:dV)(ops:Array Oper)(ap j:Nat)(o:Oper)(dx:List aa)(h:J):Option (aa×J) :=
 match jw ops dx o with
 |some true=>fB E call ops ap j (de dx) h o.op
 |some false=>some (gg,h)
 |none=>none
theorem AI{ops:Array Oper}{ap j:Nat}{o:Oper}(ao:ops[j]? =some o)(s:fr) :
 l6 E call ops ap j s=(m' E call ops ap j o s.e3 s.heap).map fun p=>⟨hM s.e3 o.dst p.1,p.2⟩:=by
 unfold l6 m';rw [ao];simp only;cases jw ops s.e3 o with
 |none=>rfl
 |some b =>
  cases b with
  |false=>rfl
  |true =>
   simp only;cases fB E call ops ap j (de s.e3) s.heap o.op with
   |none=>rfl
   |some p=>rfl
theorem w'{ops:Array Oper}{ap j:Nat}{ρ:Operand→aa}{h:J}{o:Op}{v:aa}{ag:J}(aE:fB E call ops ap j ρ h o=some (v,ag)) :
 bN E call (ap+j) ρ h o=some (v,ag)∨(ek o=.pure∧ja o=true∧(lp ops j=true∨jb ops ap j ρ o=true)∧bN E call (ap+j) ρ h o=none):=by
 unfold fB at aE;split at aE
 ·split at aE
  ·split at aE
   ·exact .inl aE
   ·cases aE
  ·cases aE
 ·split at aE
  ·split at aE
   ·cases aE
   ·exact .inl aE
  ·cases aE
 ·split at aE
  ·rename_i v1 ac he;split at aE
   ·split at aE
    ·rw [he];exact .inl aE
    ·cases aE
   ·rw [he];exact .inl aE
  ·cases aE
 ·split at aE
  ·exact .inl aE
  ·cases aE
 ·rename_i aw;split at aE
  ·rename_i r he;rw [he];exact .inl aE
  ·rename_i he;split at aE
   ·rename_i dE;exact .inr ⟨aw,dE.1,dE.2,he⟩
   ·cases aE
 ·exact .inl aE
theorem AJ{ops:Array Oper}{ap j:Nat}{ρ:Operand→aa}{h:J}{o:Op}{v:aa}{ag:J}(aE:fB E call ops ap j ρ h o=some (v,ag)):jv E call (ap+j) ρ h o=some (v,ag):=by
 rcases w' aE with ac|⟨ac,ai,a8,bQ⟩
 ·unfold jv;rw [ac]
 ·unfold fB at aE;rw [ac]at aE;simp only [bQ]at aE;rw [if_pos ⟨ai,a8⟩]at aE;unfold jv;rw [bQ];exact aE
theorem ET{ops:Array Oper}{i j:Nat}(hs:lp ops j=true)(aq:i<ops.size)(bX:i≠j)(ac:ordered (eb ops) i j=false)(ai:ordered (eb ops) j i=false){o:Oper}(ao:ops[i]? =some o):ek o.op=.pure∧ja o.op=false:=by
 unfold lp at hs;have:=List.all_eq_true.1 hs i (List.mem_range.2 aq);simp only [ac,ai,ao,Bool.or_false]at this;simp only [Bool.or_eq_true,beq_iff_eq,Bool.and_eq_true,decide_eq_true_eq,Bool.not_eq_true']at this;rcases this with h|h
 ·exact absurd h bX
 ·exact h
theorem EU{es:Nat}{x:aa}{h ag:J}(aj:∀k∈h1 x,ag.get k=h.get k):fU es x ag=fU es x h:=by
 unfold fU;split
 ·rfl
 ·rename_i a len c;have e:ag.get a.id=h.get a.id:=aj a.id (by simp [h1]);rw [e]
 ·rfl
 ·rfl
theorem uL{D:dH}{t:TypeId}{s x:aa}{nid:Nat}{h ac:J}{v:aa}(aT:hB D t s x nid h=some (v,ac)) :
 (ac=h∧∀ag,(∀k∈h1 s++h1 x,ag.get k=h.get k)→hB D t s x nid ag=some (v,ag)) ∨
 ∃id b,(id=nid∨id∈h1 s++h1 x)∧ac=h.set id b∧∀ag,(∀k∈h1 s++h1 x,ag.get k=h.get k)→hB D t s x nid ag=some (v,ag.set id b):=by
 have fo:∀{ag},(∀k∈h1 s++h1 x,ag.get k=h.get k)→(∀es,fU es s ag=fU es s h)∧(∀es,fU es x ag=fU es x h):=fun {ag} bU =>
  ⟨fun es=>EU fun k au=>bU k (List.mem_append_left _ au),fun es=>EU fun k au=>bU k (List.mem_append_right _ au)⟩
 unfold hB at aT;split at aT
 ·rename_i d base len cap aE;split at aT
  ·rename_i e au;split at aT
   ·rename_i cJ fN;split at aT
    ·rename_i new fS;simp only at aT;split at aT
     ·rename_i aw;split at aT
      ·split at aT
       ·rename_i bf;simp only [Option.some.injEq,Prod.mk.injEq]at aT;obtain⟨rfl,rfl⟩:=aT;refine .inl ⟨rfl,fun ag bU=> ?_⟩;have:=(fo bU).2 cJ.size;unfold hB;simp only [aE,au,fN,this,fS];rw [if_pos aw,if_pos bf]
       ·rename_i bf;split at aT
        ·rename_i ai;simp only [Option.some.injEq,Prod.mk.injEq]at aT;obtain⟨rfl,rfl⟩:=aT;refine .inr ⟨nid,_,.inl rfl,rfl,fun ag bU=> ?_⟩;have:=(fo bU).2 cJ.size;unfold hB;simp only [aE,au,fN,this,fS];rw [if_pos aw,if_neg bf,if_pos ai]
        ·cases aT
      ·rename_i a;split at aT
       ·rename_i p2;split at aT
        ·rename_i b ax;have ak:∀{ag:J},(∀k∈h1 (.slice (some a) len cap)++h1 x,ag.get k=h.get k)→ag.get a.id=some b:=fun {ag} bU=>by rw [bU a.id (by simp [h1]),ax]
         split at aT
         ·rename_i oW;split at aT
          ·rename_i bf;simp only [Option.some.injEq,Prod.mk.injEq]at aT;obtain⟨rfl,rfl⟩:=aT;refine .inl ⟨rfl,fun ag bU=> ?_⟩;have:=(fo bU).2 cJ.size;unfold hB;simp only [aE,au,fN,this,fS,ak bU];rw [if_pos aw,if_pos p2,if_pos oW,if_pos bf]
          ·rename_i bf;split at aT
           ·rename_i dE;simp only [Option.some.injEq,Prod.mk.injEq]at aT;obtain⟨rfl,rfl⟩:=aT;refine .inr ⟨a.id,_,.inr (by simp [h1]),rfl,fun ag bU=> ?_⟩;have:=(fo bU).2 cJ.size;unfold hB;simp only [aE,au,fN,this,fS,ak bU];rw [if_pos aw,if_pos p2,if_pos oW,if_neg bf,if_pos dE]
           ·cases aT
         ·rename_i oW;split at aT
          ·rename_i hex;split at aT
           ·rename_i old aF;simp only [Option.some.injEq,Prod.mk.injEq]at aT;obtain⟨rfl,rfl⟩:=aT;refine .inr ⟨nid,_,.inl rfl,rfl,fun ag bU=> ?_⟩;have bi:=(fo bU).2 cJ.size;have bu:=(fo bU).1 cJ.size;unfold hB;simp only [aE,au,fN,bi,fS,ak bU];rw [if_pos aw,if_pos p2,if_neg oW,if_pos hex];simp only [bu,aF]
           ·cases aT
          ·rename_i hex;split at aT
           ·rename_i dE;simp only [Option.some.injEq,Prod.mk.injEq]at aT;obtain⟨rfl,rfl⟩:=aT;refine .inr ⟨a.id,_,.inr (by simp [h1]),rfl,fun ag bU=> ?_⟩;have:=(fo bU).2 cJ.size;unfold hB;simp only [aE,au,fN,this,fS,ak bU];rw [if_pos aw,if_pos p2,if_neg oW,if_neg hex,if_pos dE]
           ·cases aT
        ·cases aT
       ·cases aT
     ·cases aT
    ·cases aT
   ·cases aT
  ·cases aT
 ·cases aT
theorem Lu{nid:Nat}{ρ:Operand→aa}{h ac:J}{o:Op}{v:aa}(aw:ek o=.hk)(ao:bN E call nid ρ h o=some (v,ac)) :
 (ac=h∧∀ag,(∀k∈h2 ρ o,ag.get k=h.get k)→bN E call nid ρ ag o=some (v,ag)) ∨
 ∃id b,(id=nid∨id∈h2 ρ o)∧ac=h.set id b∧∀ag,(∀k∈h2 ρ o,ag.get k=h.get k)→bN E call nid ρ ag o=some (v,ag.set id b):=by
 cases o<;>simp only [ek,reduceCtorEq]at aw;rename_i c;obtain⟨callee,args,ts⟩:=c;cases callee<;>simp only [reduceCtorEq]at aw;rename_i b;cases b<;>simp only [reduceCtorEq]at aw;simp only [bN,hC]at ao⊢;split at ao
 ·rename_i s x t u gz bW hu;have ru:h2 ρ (.call ⟨.builtin .append,args,ts⟩)=h1 s++h1 x:=by simp [h2,gz]
  rw [ru];split at ao
  ·rename_i lo mY;split at ao
   ·rename_i e he;first|exact uL ao|(rw [he];exact uL ao)|(have:=uL ao;simpa [he]using this)
   ·rename_i he;first|exact uL ao|(rw [he];exact uL ao)|(have:=uL ao;simpa [he]using this)
   ·cases ao
  ·cases ao
 ·cases ao
theorem T3{dx:List aa}{d:Tmp}{v:aa}{x:Operand}(h:∀t,x=.tmp t→t≠d):de (dx.set d v) x=de dx x:=by
 cases x with
 |tmp t =>
  have:d≠t:=fun e=>h t rfl e.symm
  simp [de,List.getD_eq_getElem?_getD,List.getElem?_set_ne this]
 |const v=>rfl
 |global g=>rfl
 |func f=>rfl
theorem T4{xs:List Operand}{t:Tmp}(h:Operand.tmp t∈xs):t∈tmpsOf xs:=by unfold tmpsOf;exact List.mem_filterMap.2 ⟨_,h,rfl⟩
theorem T5{ops:Array Oper}{ap j:Nat}{o:Oper}{dx:List aa}{d:Tmp}{v:aa}{h:J}(aE:d ∉ sJ ops o) :
 m' E call ops ap j o (dx.set d v) h=m' E call ops ap j o dx h:=by
 unfold sJ at aE;simp only [List.mem_append,not_or]at aE;obtain⟨n4,s5⟩:=aE
 have cN:∀x∈o.op.operands.toList,de (dx.set d v) x=de dx x:=fun x aj=>T3 fun t bW e=>by subst bW e;exact n4 (T4 aj)
 have hw:jw ops (dx.set d v) o=jw ops dx o:=by
  unfold jw;split
  ·rfl
  ·rename_i g want ak;rw [ak]at s5;split
   ·rename_i gq w5;simp only [w5,Option.toList_some,List.mem_singleton]at s5;rw [List.getElem?_set_ne (fun e=>s5 e)]
   ·rfl
 unfold m';rw [hw];have gZ:∀nid,bN E call nid (de (dx.set d v)) h o.op=bN E call nid (de dx) h o.op:=fun nid=>EQ cN
 have eI:kp (de (dx.set d v)) o.op=kp (de dx) o.op:=by cases jR:o.op<;>simp only [kp];rename_i t x;rw [jR]at cN;rw [cN x (by simp [Op.operands])]
 have iF:nS (de (dx.set d v)) o.op=nS (de dx) o.op:=by cases jR:o.op<;>simp only [nS];rename_i t x y;rw [jR]at cN;rw [cN x (by simp [Op.operands])]
 have T6:fB E call ops ap j (de (dx.set d v)) h o.op=fB E call ops ap j (de dx) h o.op:=by
  have T7:h2 (de (dx.set d v)) o.op=h2 (de dx) o.op:=by cases jR:o.op<;>simp only [h2];rename_i c;rw [jR]at cN;rw [uK (ρ:=de (dx.set d v)) (dU:=de dx) fun x aj=>cN x (by simp only [Op.operands,Call.operands];cases c.callee<;>simp [aj])]
  have w0:ja o.op=true→e7 E (ap+j) (de (dx.set d v)) h o.op=e7 E (ap+j) (de dx) h o.op:=by intro xa;cases jR:o.op<;>rw [jR]at xa<;>simp only [ja,reduceCtorEq]at xa;simp only [e7];rename_i a b x;rw [jR]at cN;rw [cN x (by simp [Op.operands])]
  have EV:jb ops ap j (de (dx.set d v)) o.op=jb ops ap j (de dx) o.op:=by
   have:oT (de (dx.set d v)) o.op=oT (de dx) o.op:=by cases jR:o.op<;>simp only [oT];rename_i a b x;rw [jR]at cN;rw [cN x (by simp [Op.operands])]
   unfold jb;rw [this]
  unfold fB;rw [gZ,eI,iF,T7,EV];by_cases xa:ja o.op=true
  ·rw [w0 xa]
  ·simp only [xa,Bool.false_eq_true,false_and,if_false]
 rw [T6]
theorem Lv{ops:Array Oper}{ap j:Nat}{o x:Oper}{dx:List aa}{v:aa}{h:J}(aE:∀d,x.dst=some d→d ∉ sJ ops o) :
 m' E call ops ap j o (hM dx x.dst v) h=m' E call ops ap j o dx h:=by
 cases aj:x.dst with
 |none=>rfl
 |some d=>exact T5 (aE d aj)
theorem T8{dx:List aa}{x y:Oper}{v u:aa}(h:∀d,x.dst=some d→y.dst≠some d):hM (hM dx x.dst v) y.dst u=hM (hM dx y.dst u) x.dst v:=by
 cases aj:x.dst with
 |none=>rfl
 |some d =>
  cases bV:y.dst with
  |none=>rfl
  |some e =>
   have bX:d≠e:=fun he=>h d aj (by rw [bV,he])
   simp only [hM];exact List.set_comm _ _ bX
theorem set_comm{a b:Nat}(sD:a≠b)(h:J)(x y:af):(h.set a x).set b y=(h.set b y).set a x:=by unfold J.set;simp only [aV.set_comm x y h.aH a b sD]
structure xb(ops:Array Oper)(x i:Nat):Prop where
 lt:x<i
 aq:i<ops.size
 no:ordered (eb ops) x i=false
 pair:∀hG fT,ops[x]? =some hG→ops[i]? =some fT→Kl (ek hG.op) (ek fT.op)=true∧z6 ops hG fT=true
theorem apart_spec{ops:Array Oper}{x y:Oper}(h:z6 ops x y=true):(∀d,x.dst=some d→d ∉ sJ ops y)∧(∀d,y.dst=some d→d ∉ sJ ops x)∧(∀d,x.dst=some d→y.dst≠some d):=by
 unfold z6 at h;simp only [Bool.and_eq_true]at h;obtain⟨ac,ai⟩:=h;refine⟨fun d aE=> ?_,fun d aE=> ?_,fun d aE=> ?_⟩
 ·rw [aE]at ac;simp at ac;exact ac.1
 ·rw [aE]at ai;simp at ai;exact ai
 ·rw [aE]at ac;simp at ac;exact ac.2
theorem xc{ops:Array Oper}{x i:Nat}{fT:Oper}(h:rb ops x=true)(io:ops[i]? =some fT)(aq:i<ops.size)(ne:i≠x)(xd:ordered (eb ops) x i=false)(xe:ordered (eb ops) i x=false)(dI:ek fT.op≠ .pure)(c2:ek fT.op≠ .load):False:=by
 have:=List.all_eq_true.1 h i (List.mem_range.2 aq);simp only [xd,xe,io,Bool.or_false,Bool.or_eq_true,beq_iff_eq,decide_eq_true_eq]at this;rcases this with h|h|h
 ·exact ne h
 ·exact dI h
 ·exact c2 h
theorem Lw{ops:Array Oper}{ap x i:Nat}{hG fT:Oper}(jz:ops[x]? =some hG)(io:ops[i]? =some fT)(dZ:ek hG.op=.load)(c1:ek fT.op=.store)(xd:ordered (eb ops) x i=false)(xe:ordered (eb ops) i x=false)(aj:x<ops.size)(aq:i<ops.size)
 {ρ:Operand→aa} {h ai:J} {rv:aa} {b h8:Nat} (aC:∃b,kp ρ hG.op=some b∧(rb ops x=true∨b<ap∨(b<ap+ops.size∧ordered (eb ops) (b-ap) x=true∧pU ops (eb ops) x=false))) (ax:kp ρ hG.op=some b)
 (aE:fB E call ops ap i ρ h fT.op=some (rv,ai)) (hs:nS ρ fT.op=some h8):b<ap∧ap≤h8:=by
 have et:pU ops (eb ops) x=true:=by unfold pU;rw [List.any_eq_true];refine⟨i,List.mem_range.2 aq,?_⟩;rw [io];simp [c1,xd,xe]
 have l2:mR ops (eb ops) i=true:=by unfold mR;rw [List.any_eq_true];refine⟨x,List.mem_range.2 aj,?_⟩;rw [jz];simp [dZ,xd,xe]
 refine⟨?_,?_⟩
 ·obtain⟨jc,fy,aw⟩:=aC;rw [ax]at fy;simp only [Option.some.injEq]at fy;subst fy;rcases aw with aw|aw|⟨_,_,aw⟩
  ·exact(xc aw io aq (fun e=>by subst e;rw [jz]at io;cases io;rw [dZ]at c1;cases c1) xd xe (by rw [c1];decide) (by rw [c1];decide)).elim
  ·exact aw
  ·rw [et]at aw;cases aw
 ·unfold fB at aE;rw [c1]at aE;simp only [hs]at aE;split at aE
  ·cases aE
  ·rename_i aw;rcases Nat.lt_or_ge h8 ap with cG|gi
   ·exact absurd ⟨l2,cG⟩ aw
   ·exact gi
theorem EW{ops:Array Oper}{ap j:Nat}{ρ:Operand→aa}{o:Op}(h:jb ops ap j ρ o=true):∃x,oT ρ o=some x∧(∀b∈h1 x,∀k,ordered (eb ops) k j=false→b≠ap+k) ∧
 ∀i y,i<ops.size→i≠j→ordered (eb ops) i j=false→ordered (eb ops) j i=false→ops[i]? =some y→ek y.op=.pure∨ek y.op=.load∨ek y.op=.alloc:=by
 unfold jb at h;split at h
 ·rename_i x aj;simp only [Bool.and_eq_true]at h;refine⟨x,aj,fun b ax k au e=> ?_,fun i y aq bX ac ai bV=> ?_⟩
  ·have:=List.all_eq_true.1 h.1 b ax;simp only [Bool.or_eq_true,Bool.and_eq_true,decide_eq_true_eq]at this;subst e;rcases this with h|⟨_,h⟩
   ·omega
   ·rw [show ap+k-ap=k by omega,au]at h;cases h
  ·have:=List.all_eq_true.1 h.2 i (List.mem_range.2 aq);simp only [ac,ai,bV,Bool.or_false,Bool.or_eq_true,beq_iff_eq,decide_eq_true_eq]at this;rcases this with h|(h|h)|h
   ·exact absurd h bX
   ·exact .inl h
   ·exact .inr (.inl h)
   ·exact .inr (.inr h)
 ·cases h
theorem EX{nid:Nat}{ρ:Operand→aa}{h ac:J}{o:Op}{v x:aa}(aj:oT ρ o=some x)(ao:e7 E nid ρ h o=some (v,ac)) :
 ac=h∧∀(o7:Nat)(ag:J),(∀k∈h1 x,ag.get k=h.get k)→e7 E o7 ρ ag o=some (v,ag):=by
 cases o<;>simp only [oT,reduceCtorEq]at aj;rename_i s d y;split at aj
 ·rename_i a n c bV;simp only [Option.some.injEq]at aj;subst aj;simp only [e7,bV,q']at ao⊢;cases hs:E.D s with
  |none=>rw [hs]at ao;simp at ao
  |some nR =>
   cases aE:E.D d with
   |none=>rw [hs,aE]at ao;simp at ao
   |some gq =>
    simp only [hs,aE]at ao⊢;cases gh:nR.kind<;>cases cn:gq.kind<;>simp only [gh,cn,reduceCtorEq]at ao⊢
    ·
      rename_i e;cases he:E.D e with
      |none=>rw [he]at ao;simp at ao
      |some gX =>
       simp only [he]at ao⊢;cases lz:gX.kind<;>simp only [lz,reduceCtorEq]at ao⊢;rename_i l9;cases l9<;>simp only [reduceCtorEq]at ao⊢;split at ao
       ·rename_i l aC;simp only [Option.map_eq_some_iff,Prod.mk.injEq]at ao;obtain⟨u,hu,rfl,rfl⟩:=ao;refine⟨rfl,fun o7 ag bU=> ?_⟩;rw [EU bU,aC];simp only [hu,Option.map_some]
       ·cases ao
    ·
      rename_i e bu;cases he:E.D e with
      |none=>rw [he]at ao;simp at ao
      |some gX =>
       cases a with
       |none=>rw [he]at ao;simp at ao
       |some sI =>
        simp only [he]at ao⊢;split at ao
        ·rename_i b lz ak;split at ao
         ·rename_i aw;simp only [Option.some.injEq,Prod.mk.injEq]at ao;obtain⟨rfl,rfl⟩:=ao;refine⟨rfl,fun o7 ag bU=> ?_⟩;rw [bU sI.id (by simp [h1]),lz,ak];simp only;rw [if_pos aw]
         ·cases ao
        ·cases ao
 ·cases aj
theorem T9{nid:Nat}{ρ:Operand→aa}{h:J}{o:Op}(aw:ja o=true)(aT:bN E call nid ρ h o=none)(o7:Nat)(ag:J):bN E call o7 ρ ag o=none:=by cases o<;>simp only [ja,reduceCtorEq]at aw;simp only [bN,Option.map_eq_none_iff]at aT⊢;exact aT
theorem T'{ops:Array Oper}(aC:p9 ops){ap x i:Nat}(m:xb ops x i){hG fT:Oper}(jz:ops[x]? =some hG)(io:ops[i]? =some fT){dx:List aa}{h aj ai:J}{nU rv:aa}
 (ac:m' E call ops ap x hG dx h=some (nU,aj)) (aq:m' E call ops ap i fT dx aj=some (rv,ai)) :
 ∃l',m' E call ops ap i fT dx h=some (rv,l')∧m' E call ops ap x hG dx l'=some (nU,ai):=by
 obtain⟨eh,AK⟩:=m.pair hG fT jz io
 have kz:ordered (eb ops) i x=false:=by
  cases ax:ordered (eb ops) i x with
  |false=>rfl
  |true=>have:=T1 aC x ax;have:=m.lt;omega
 unfold m' at ac aq⊢;cases Lx:jw ops dx hG with
 |none=>rw [Lx]at ac;cases ac
 |some oP =>
  cases Ly:jw ops dx fT with
  |none=>rw [Ly]at aq;cases aq
  |some EY =>
   rw [Lx]at ac;rw [Ly]at aq;cases oP with
   |false =>
    simp only [Option.some.injEq,Prod.mk.injEq]at ac;obtain⟨rfl,rfl⟩:=ac;exact⟨ai,aq,rfl⟩
   |true =>
    cases EY with
    |false =>
     simp only [Option.some.injEq,Prod.mk.injEq]at aq;obtain⟨rfl,rfl⟩:=aq;exact⟨h,rfl,ac⟩
    |true =>
     simp only at ac aq⊢;have e9:x<ops.size:=by have:=m.lt;have:=m.aq;omega
     have ry:∀{j:Nat}{o:Oper}{h:J}{r:aa×J},ek o.op=.pure→bN E call (ap+j) (de dx) h o.op=some r→fB E call ops ap j (de dx) h o.op=some r:=by intro j o h r aw aT;unfold fB;rw [aw];simp only [aT]
     have Lz:∀{j:Nat}{o:Oper}{h bf:J}{r:aa×J},ek o.op=.pure→ja o.op=true→(lp ops j=true∨jb ops ap j (de dx) o.op=true)→bN E call (ap+j) (de dx) bf o.op=none→e7 E (ap+j) (de dx) h o.op=some r→fB E call ops ap j (de dx) h o.op=some r:=by intro j o h bf r aw aq hs aT aj;unfold fB;rw [aw];simp only [T9 aq aT (ap+j) h];rw [if_pos ⟨aq,hs⟩];exact aj
     rcases w' ac with h0|⟨Ua,EZ,uM,LA⟩
     rotate_left
     ·
       have K9:e7 E (ap+x) (de dx) h hG.op=some (nU,aj):=by have:=AJ ac;unfold jv at this;rw [LA]at this;exact this
       rcases uM with uM|uM
       ·obtain⟨ep,hb⟩:=ET uM m.aq (by have:=m.lt;omega) kz m.no io;rcases w' aq with iq|⟨_,du,_,_⟩
        ·obtain⟨rfl,aB⟩:=n3 ep iq;refine⟨h,ry ep (aB _ _),ac⟩
        ·rw [hb]at du;cases du
       ·obtain⟨y,bV,ru,E0⟩:=EW uM;obtain⟨rfl,aB⟩:=EX bV K9;have Ub:=E0 i fT m.aq (by have:=m.lt;omega) kz m.no io;have back:∀ai:J,(∀k∈h1 y,ai.get k=aj.get k)→fB E call ops ap x (de dx) ai hG.op=some (nU,ai):=fun ai ak=>Lz Ua EZ (.inr uM) LA (aB _ ai ak)
        rcases w' aq with iq|⟨LB,LC,na,AL⟩
        ·rcases Ub with c|c|c
         ·obtain⟨rfl,_⟩:=n3 c iq;exact⟨_,aq,back _ fun _ _=>rfl⟩
         ·obtain⟨rfl,_⟩:=s4 c iq;exact⟨_,aq,back _ fun _ _=>rfl⟩
         ·obtain⟨b,rfl,_⟩:=uJ c iq;exact⟨_,aq,back _ fun k au=>J.fg _ _ fun e=>ru k au i kz e.symm⟩
        ·have E1:e7 E (ap+i) (de dx) aj fT.op=some (rv,ai):=by have:=AJ aq;unfold jv at this;rw [AL]at this;exact this
         rcases na with na|na
         ·obtain⟨_,hb⟩:=ET na e9 (by have:=m.lt;omega) m.no kz jz;rw [hb]at EZ;cases EZ
         ·obtain⟨z,eK,_,_⟩:=EW na;obtain⟨rfl,_⟩:=EX eK E1;exact⟨_,aq,back _ fun _ _=>rfl⟩
     rcases w' aq with iq|⟨LB,LC,na,AL⟩
     rotate_left
     ·rcases na with na|na
      ·obtain⟨ep,hb⟩:=ET na e9 (by have:=m.lt;omega) m.no kz jz;obtain⟨rfl,ah⟩:=n3 ep h0;exact⟨ai,aq,ry ep (ah _ _)⟩
      ·have E1:e7 E (ap+i) (de dx) aj fT.op=some (rv,ai):=by have:=AJ aq;unfold jv at this;rw [AL]at this;exact this
       obtain⟨y,bV,ru,E0⟩:=EW na;obtain⟨rfl,aB⟩:=EX bV E1;rcases E0 x hG e9 (by have:=m.lt;omega) m.no kz jz with c|c|c
       ·obtain⟨rfl,_⟩:=n3 c h0;exact⟨_,aq,ac⟩
       ·obtain⟨rfl,_⟩:=s4 c h0;exact⟨_,aq,ac⟩
       ·obtain⟨b,rfl,_⟩:=uJ c h0;exact⟨h,Lz LB LC (.inr na) AL (aB _ h fun k au=>(J.fg _ _ fun e=>ru k au x m.no e.symm).symm),ac⟩
     have uN:ek hG.op=.load→ ∃b,kp (de dx) hG.op=some b∧(rb ops x=true∨b<ap∨(b<ap+ops.size∧ordered (eb ops) (b-ap) x=true∧pU ops (eb ops) x=false)):=by
      intro aw;unfold fB at ac;rw [aw]at ac;simp only at ac;split at ac
      ·rename_i b ax;split at ac
       ·rename_i dE;exact⟨b,ax,dE⟩
       ·cases ac
      ·cases ac
     have uO:ek fT.op=.load→ ∃b,kp (de dx) fT.op=some b∧(rb ops i=true∨b<ap∨(b<ap+ops.size∧ordered (eb ops) (b-ap) i=true∧pU ops (eb ops) i=false)):=by
      intro aw;unfold fB at aq;rw [aw]at aq;simp only at aq;split at aq
      ·rename_i b ax;split at aq
       ·rename_i dE;exact⟨b,ax,dE⟩
       ·cases aq
      ·cases aq
     have uP:∀{j:Nat}{o:Oper}{h ag:J}{v:aa},ek o.op=.load→(∃b,kp (de dx) o.op=some b∧(rb ops j=true∨b<ap∨(b<ap+ops.size∧ordered (eb ops) (b-ap) j=true∧pU ops (eb ops) j=false))) →
      bN E call (ap+j) (de dx) h o.op=some (v,ag)→fB E call ops ap j (de dx) h o.op=some (v,ag):=by
      intro j o h ag v aw ⟨b,ax,dE⟩ aT;unfold fB;rw [aw];simp only [ax];rw [if_pos dE];exact aT
     have AM:∀{j:Nat}{o:Oper}{h:J},ek o.op=.alloc→fB E call ops ap j (de dx) h o.op=bN E call (ap+j) (de dx) h o.op:=by intro j o h aw;unfold fB;rw [aw]
     have Uc:ek hG.op=.hk→pV ops ap x (h2 (de dx) hG.op)=true:=by
      intro aw;unfold fB at ac;rw [aw]at ac;simp only at ac;split at ac
      ·assumption
      ·cases ac
     have Ud:ek fT.op=.hk→pV ops ap i (h2 (de dx) fT.op)=true:=by
      intro aw;unfold fB at aq;rw [aw]at aq;simp only at aq;split at aq
      ·assumption
      ·cases aq
     have E2:∀{j:Nat}{o:Oper}{h:J},ek o.op=.hk→pV ops ap j (h2 (de dx) o.op)=true→fB E call ops ap j (de dx) h o.op=bN E call (ap+j) (de dx) h o.op:=by intro j o h aw au;unfold fB;rw [aw];simp only;rw [if_pos au]
     have LD:∀{j k b:Nat}{ids:List Nat},k<ops.size→pV ops ap j ids=true→b∈ids→ordered (eb ops) k j=false→b≠ap+k:=by
      intro j k b ids nb au ax jf e;subst e;have:=List.all_eq_true.1 au _ ax;simp only [Bool.or_eq_true,Bool.and_eq_true,decide_eq_true_eq]at this;rcases this with (h|⟨_,h⟩)|h
      ·omega
      ·rw [show ap+k-ap=k by omega,jf]at h;cases h
      ·omega
     cases dZ:ek hG.op with
     |pure =>
      obtain⟨rfl,ah⟩:=n3 dZ h0;exact⟨ai,aq,ry dZ (ah _ _)⟩
     |load =>
      obtain⟨rfl,b,ax,ah⟩:=s4 dZ h0;cases c1:ek fT.op with
      |pure =>
       obtain⟨rfl,aB⟩:=n3 c1 iq;exact⟨_,aq,ac⟩
      |load =>
       obtain⟨rfl,jc,fy,aB⟩:=s4 c1 iq;exact⟨_,aq,ac⟩
      |alloc =>
       obtain⟨cd,rfl,aB⟩:=uJ c1 iq;refine⟨_,aq,uP dZ (uN dZ) (ah _ _ ?_)⟩;refine J.fg _ _ ?_;rintro rfl;obtain⟨E3,k1,dE⟩:=uN dZ;rw [ax]at k1;simp at k1;subst k1;rcases dE with dE|dE|⟨_,dE,_⟩
       ·exact(xc dE io m.aq (by have:=m.lt;omega) m.no kz (by rw [c1];decide) (by rw [c1];decide)).elim
       ·omega
       ·rw [show ap+i-ap=i by omega,kz]at dE;cases dE
      |call =>
       refine⟨_,aq,uP dZ (uN dZ) (ah _ _ ?_)⟩;unfold fB at aq;rw [c1]at aq;simp only [iq]at aq
       have E4:mR ops (eb ops) i=true:=by unfold mR;rw [List.any_eq_true];refine⟨x,List.mem_range.2 (by have:=m.lt;have:=m.aq;omega),?_⟩;rw [jz];simp [dZ,m.no,kz]
       rw [if_pos E4]at aq;split at aq
       ·rename_i hs;obtain⟨E3,k1,dE⟩:=uN dZ;rw [ax]at k1;simp at k1;subst k1;rcases dE with dE|dE
        ·exact(xc dE io m.aq (by have:=m.lt;omega) m.no kz (by rw [c1];decide) (by rw [c1];decide)).elim
        exact Ln hs (by rcases dE with dE|⟨dE,_,_⟩<;>omega)
       ·cases aq
      |store =>
       obtain⟨h8,cd,p6,rfl,aB⟩:=Lo c1 iq;refine⟨_,aq,uP dZ (uN dZ) (ah _ _ ?_)⟩;refine J.fg _ _ ?_;rintro rfl;have o8:=Lw jz io dZ c1 m.no kz (by have:=m.lt;have:=m.aq;omega) m.aq (uN dZ) ax aq p6;omega
      |hk=>rw [dZ,c1]at eh;cases eh
      |other=>rw [dZ,c1]at eh;cases eh
     |store =>
      obtain⟨h8,cd,p6,rfl,aB⟩:=Lo dZ h0;cases c1:ek fT.op with
      |pure =>
       obtain⟨rfl,aB⟩:=n3 c1 iq;exact⟨h,ry c1 (aB _ _),ac⟩
      |load =>
       obtain⟨rfl,jc,fy,aB⟩:=s4 c1 iq;refine⟨h,uP c1 (uO c1) (aB _ _ ?_),ac⟩;refine(J.fg _ _ ?_).symm;rintro rfl;have o8:=Lw io jz c1 dZ kz m.no m.aq (by have:=m.lt;have:=m.aq;omega) (uO c1) fy ac p6;omega
      |alloc=>rw [dZ,c1]at eh;cases eh
      |store=>rw [dZ,c1]at eh;cases eh
      |call=>rw [dZ,c1]at eh;cases eh
      |hk=>rw [dZ,c1]at eh;cases eh
      |other=>rw [dZ,c1]at eh;cases eh
     |alloc =>
      obtain⟨cd,rfl,ah⟩:=uJ dZ h0;cases c1:ek fT.op with
      |pure =>
       obtain⟨rfl,aB⟩:=n3 c1 iq;exact⟨h,ry c1 (aB _ _),ac⟩
      |load =>
       obtain⟨rfl,jc,fy,aB⟩:=s4 c1 iq;refine⟨h,uP c1 (uO c1) (aB _ _ ?_),ac⟩;refine(J.fg _ _ ?_).symm;rintro rfl;obtain⟨E3,k1,dE⟩:=uO c1;rw [fy]at k1;simp at k1;subst k1;rcases dE with dE|dE|⟨_,dE,_⟩
       ·exact(xc dE jz (by have:=m.lt;have:=m.aq;omega) (by have:=m.lt;omega) kz m.no (by rw [dZ];decide) (by rw [dZ];decide)).elim
       ·omega
       ·rw [show ap+x-ap=x by omega,m.no]at dE;cases dE
      |alloc =>
       obtain⟨Ue,rfl,aB⟩:=uJ c1 iq;refine⟨h.set (ap+i) Ue,by rw [AM c1];exact aB _,?_⟩;rw [AM dZ,ah,set_comm (by have:=m.lt;omega)]
      |store=>rw [dZ,c1]at eh;cases eh
      |call=>rw [dZ,c1]at eh;cases eh
      |hk =>
       have au:=Ud c1;have rz:∀k∈h2 (de dx) fT.op,k≠ap+x:=fun k s6=>LD (by have:=m.lt;have:=m.aq;omega) au s6 m.no
       have agree:∀k∈h2 (de dx) fT.op,h.get k=(h.set (ap+x) cd).get k:=fun k s6=>(J.fg _ _ (fun e=>rz k s6 e.symm)).symm
       rcases Lu c1 iq with ⟨aK,aP⟩|⟨id,jc,aK,aP,bt⟩
       ·subst aK;exact⟨h,by rw [E2 c1 au];exact aP h agree,ac⟩
       ·subst aP;refine⟨h.set id jc,by rw [E2 c1 au];exact bt h agree,?_⟩
        have bX:ap+x≠id:=by
         rcases aK with rfl|aK
         ·have:=m.lt;omega
         ·exact fun e=>rz id aK e.symm
        rw [AM dZ,ah,set_comm bX]
      |other=>rw [dZ,c1]at eh;cases eh
     |call =>
      cases c1:ek fT.op with
      |pure =>
       obtain⟨rfl,aB⟩:=n3 c1 iq;exact⟨h,ry c1 (aB _ _),ac⟩
      |load =>
       obtain⟨rfl,jc,fy,aB⟩:=s4 c1 iq;refine⟨h,uP c1 (uO c1) (aB _ _ ?_),ac⟩;unfold fB at ac;rw [dZ]at ac;simp only [h0]at ac
       have E4:mR ops (eb ops) x=true:=by unfold mR;rw [List.any_eq_true];refine⟨i,List.mem_range.2 m.aq,?_⟩;rw [io];simp [c1,m.no,kz]
       rw [if_pos E4]at ac;split at ac
       ·rename_i hs;obtain⟨E3,k1,dE⟩:=uO c1;rw [fy]at k1;simp at k1;subst k1;rcases dE with dE|dE
        ·exact(xc dE jz (by have:=m.lt;have:=m.aq;omega) (by have:=m.lt;omega) kz m.no (by rw [dZ];decide) (by rw [dZ];decide)).elim
        exact(Ln hs (by rcases dE with dE|⟨dE,_,_⟩<;>omega)).symm
       ·cases ac
      |alloc=>rw [dZ,c1]at eh;cases eh
      |store=>rw [dZ,c1]at eh;cases eh
      |call=>rw [dZ,c1]at eh;cases eh
      |hk=>rw [dZ,c1]at eh;cases eh
      |other=>rw [dZ,c1]at eh;cases eh
     |hk =>
      cases c1:ek fT.op with
      |pure =>
       obtain⟨rfl,aB⟩:=n3 c1 iq;exact⟨h,ry c1 (aB _ _),ac⟩
      |alloc =>
       obtain⟨cd,rfl,aB⟩:=uJ c1 iq;have au:=Uc dZ;have rz:∀k∈h2 (de dx) hG.op,k≠ap+i:=fun k s6=>LD m.aq au s6 kz
       have agree:∀k∈h2 (de dx) hG.op,(h.set (ap+i) cd).get k=h.get k:=fun k s6=>J.fg _ _ (fun e=>rz k s6 e.symm)
       refine⟨h.set (ap+i) cd,by rw [AM c1];exact aB _,?_⟩;rw [E2 dZ au];rcases Lu dZ h0 with ⟨aK,aP⟩|⟨id,jc,aK,aP,bt⟩
       ·subst aK;exact aP _ agree
       ·subst aP
        have bX:ap+i≠id:=by
         rcases aK with rfl|aK
         ·have:=m.lt;omega
         ·exact fun e=>rz id aK e.symm
        rw [bt _ agree,set_comm bX]
      |load=>rw [dZ,c1]at eh;cases eh
      |store=>rw [dZ,c1]at eh;cases eh
      |call=>rw [dZ,c1]at eh;cases eh
      |hk=>rw [dZ,c1]at eh;cases eh
      |other=>rw [dZ,c1]at eh;cases eh
     |other =>
      cases c1:ek fT.op with
      |pure =>
       obtain⟨rfl,aB⟩:=n3 c1 iq;exact⟨h,ry c1 (aB _ _),ac⟩
      |load=>rw [dZ,c1]at eh;cases eh
      |alloc=>rw [dZ,c1]at eh;cases eh
      |store=>rw [dZ,c1]at eh;cases eh
      |call=>rw [dZ,c1]at eh;cases eh
      |hk=>rw [dZ,c1]at eh;cases eh
      |other=>rw [dZ,c1]at eh;cases eh
theorem Uf{ops:Array Oper}(aC:p9 ops){ap x i:Nat}(m:xb ops x i){s s1 s2:fr}(ac:l6 E call ops ap x s=some s1)(ai:l6 E call ops ap i s1=some s2) :
 ∃t,l6 E call ops ap i s=some t∧l6 E call ops ap x t=some s2:=by
 have rA:x<ops.size:=by have:=m.lt;have:=m.aq;omega
 have jz:ops[x]? =some ops[x]:=Array.getElem?_eq_getElem rA;have io:ops[i]? =some (ops[i]'m.aq):=Array.getElem?_eq_getElem m.aq;obtain⟨eh,AK⟩:=m.pair _ _ jz io;obtain⟨av,a2,a3⟩:=apart_spec AK;rw [AI jz,Option.map_eq_some_iff]at ac;obtain⟨⟨nU,aj⟩,aK,rfl⟩:=ac;rw [AI io,Option.map_eq_some_iff]at ai;obtain⟨⟨rv,ahn⟩,aP,rfl⟩:=ai;simp only at aP;rw [Lv av]at aP;obtain⟨l',g1,g2⟩:=T' aC m jz io aK aP;refine⟨⟨hM s.e3 (ops[i]'m.aq).dst rv,l'⟩,?_,?_⟩
 ·rw [AI io,g1];rfl
 ·rw [AI jz];simp only;rw [Lv a2,g2];simp only [Option.map_some];rw [T8 a3]
theorem front{ops:Array Oper}(aC:p9 ops){ap i:Nat}{q:List Nat} :∀{p:List Nat}{s bG:fr},(∀x∈p,xb ops x i)→kq E call ops ap (p++i::q) s=some bG →
 ∃t,l6 E call ops ap i s=some t∧kq E call ops ap (p++q) t=some bG
 |[],s,bG,_,h=>by
  simp only [List.nil_append,kq]at h⊢;split at h
  ·rename_i t bW;exact⟨t,bW,h⟩
  ·cases h
 |x ::p,s,bG,hm,h=>by
  simp only [List.cons_append,kq]at h;split at h
  ·rename_i s1 ec;obtain⟨t,ac,ai⟩:=front aC (fun y bV=>hm y (by simp [bV])) h;obtain⟨u,g1,g2⟩:=Uf aC (hm x aM) ec ac;refine⟨u,g1,?_⟩;simp only [List.cons_append,kq,g2];exact ai
  ·cases h
theorem Ug{ops:Array Oper}{ap j:Nat}{s bG:fr}(h:l6 E call ops ap j s=some bG):ra E call ops ap j s=some bG:=by
 unfold l6 at h;unfold ra;split at h
 ·rename_i e;simp [e];simpa using h
 ·rename_i o e;split at h
  ·rename_i hw;split at h
   ·rename_i v ah aE;rw [show jv E call (ap+j) (de s.e3) s.heap o.op=some (v,ah)from AJ aE];exact h
   ·cases h
  ·exact h
  ·cases h
end
section
variable {P:Program}{φ:Map}{E:bY}
theorem Uh{ops:Array Oper}(h:oR ops=true):p9 ops∧∀x i,x<i→i<ops.size→ordered (eb ops) x i=false→xb ops x i:=by
 unfold oR at h;simp only [List.all_eq_true,List.mem_range]at h
 have s7:p9 ops:=by
  intro j o ao e he ax
  have a1:j<ops.size:=by
   rcases Nat.lt_or_ge j ops.size with ag|ag
   ·exact ag
   ·rw [Array.getElem?_eq_none ag]at ao;cases ao
  have:=h j a1;rw [ao]at this;simp only [Bool.and_eq_true,List.all_eq_true]at this;have:=this.1 e he;simpa [ax]using this
 refine⟨s7,fun x i fV aq jf=>⟨fV,aq,jf,fun hG fT jz io=> ?_⟩⟩;have:=h i aq;rw [io]at this;simp only [Bool.and_eq_true,List.all_eq_true,List.mem_range]at this;have:=this.2 x fV;rw [jf,jz]at this;simpa using this
def gj(ops:Array Oper)(listed:Array Bool):List Nat:=(List.range ops.size).filter fun i=> !listed.getD i true
theorem LF{ops:Array Oper}{listed:Array Bool}{i:Nat}(h:i∈Region.ready .any ops listed) :
 i<ops.size∧listed.getD i true=false∧∃o,ops[i]? =some o∧∀e∈o.after.toList,i' e=true→listed.getD e.on false=true:=by
 unfold Region.ready at h;simp only [List.mem_filter,List.mem_range,Bool.and_eq_true,Bool.not_eq_true']at h;obtain⟨ac,ai,a8⟩:=h;refine⟨ac,ai,ops[i],Array.getElem?_eq_getElem ac,fun e he ax=> ?_⟩;rw [Array.getElem?_eq_getElem ac]at a8;simp only [Option.map_some,Option.getD_some,Array.all_eq_true_iff_forall_mem]at a8;have:=a8 e (by simpa using he);unfold i' at ax;simpa [ax]using this
theorem Ui{ops:Array Oper}(aC:p9 ops){listed:Array Bool}(fq:listed.size=ops.size){i:Nat}{r:List Nat}(h:gj ops listed=i::r):i∈Region.ready .any ops listed:=by
 have aq:i∈gj ops listed:=by rw [h];simp
 have gF:=aq;unfold gj at aq;simp only [List.mem_filter,List.mem_range,Bool.not_eq_true']at aq;unfold Region.ready;simp only [List.mem_filter,List.mem_range,Bool.and_eq_true,Bool.not_eq_true'];refine⟨aq.1,aq.2,?_⟩;rw [Array.getElem?_eq_getElem aq.1];simp only [Option.map_some,Option.getD_some,Array.all_eq_true_iff_forall_mem];intro e he;cases ax:Region.binds .any e with
 |false=>rfl
 |true =>
  simp only [Bool.not_true,Bool.false_or];have cG:=aC i _ (Array.getElem?_eq_getElem aq.1) e (by simpa using he) ax;cases hle:listed.getD e.on false with
  |true=>rfl
  |false =>
   exfalso
   have h9:e.on∈gj ops listed:=by unfold gj;simp only [List.mem_filter,List.mem_range,Bool.not_eq_true'];refine⟨ab,?_⟩;have pY:e.on<listed.size:= ab;rw [Array.getD_eq_getD_getElem?,Array.getElem?_eq_getElem pY]at hle⊢;simpa using hle
   have xf:(gj ops listed).Pairwise (· < ·):=List.Pairwise.filter _ List.pairwise_lt_range;rw [h]at xf h9;rcases List.mem_cons.1 h9 with jN|jN
   ·omega
   ·have:=(List.pairwise_cons.1 xf).1 _ jN;omega
theorem Uj{ops:Array Oper}{listed:Array Bool}(fq:listed.size=ops.size){i:Nat}{p q:List Nat}(h:gj ops listed=p++i::q):gj ops (listed.setIfInBounds i true)=p++q:=by
 have hX:(gj ops listed).Nodup:=List.Pairwise.filter _ List.nodup_range;have aq:i∈gj ops listed:=by rw [h];simp
 have E5:i<ops.size:=by unfold gj at aq;simp only [List.mem_filter,List.mem_range]at aq;exact aq.1
 have bi:gj ops (listed.setIfInBounds i true)=(gj ops listed).filter fun j=>decide (j≠i):=by
  unfold gj;rw [List.filter_filter];refine List.filter_congr fun j a1=> ?_
  have xg:=List.mem_range.1 a1;by_cases p8:j=i
  ·subst p8;simp [Array.getD_eq_getD_getElem?,fq,E5]
  ·have iC:¬i=j:=fun e=>p8 e.symm
   simp [Array.getD_eq_getD_getElem?,Array.getElem?_setIfInBounds,p8,iC]
 rw [bi,h];rw [h]at hX
 have ah:∀j∈p,j≠i:=fun j a1 e=>by subst e;exact(List.nodup_append.1 hX).2.2 j a1 j aM rfl
 have aB:∀j∈q,j≠i:=fun j a1 e=>by subst e;have:=(List.nodup_append.1 hX).2.1;exact(List.nodup_cons.1 this).1 a1
 rw [List.filter_append,List.filter_cons];simp only [ne_eq,not_true_eq_false,decide_false,Bool.false_eq_true,if_false];rw [List.filter_eq_self.2 (fun j a1=>by simpa using ah j a1),List.filter_eq_self.2 (fun j a1=>by simpa using aB j a1)]
theorem Uk(cw:hn P E){be:Nat→Prop}{bo:World}(db:fu be bo.heap.size){call:dV}(fW:n0 P be bo call){ops:Array Oper}(o9:oR ops=true){ap:Nat}{Q:Exit→Act→World→Prop} :
 ∀{dl:Nat}{listed:Array Bool}{s bG:fr}{a:Act}{w:World}{φ:Map},listed.size=ops.size→Ls ops listed→(gj ops listed).length≤dl→kq E call ops ap (gj ops listed) s=some bG →
  gJ φ be bo s a w→(∀j∈gj ops listed,ap+j<s.heap.U∧∀v,φ (ap+j) v=none) →
  (∀cv bq bE,eW φ bE ap→gJ bE be bo bG cv bq→s.heap.U≤bG.heap.U→Q .normal cv bq)→wpAny P .any ops Q dl listed a w:=by
 intro dl;obtain⟨s7,Ul⟩:=Uh o9
 have uD:∀{listed:Array Bool}{s bG:fr}{a:Act}{w:World}{φ:Map},listed.size=ops.size→kq E call ops ap (gj ops listed) s=some bG→gJ φ be bo s a w →
  (∀cv bq bE,eW φ bE ap→gJ bE be bo bG cv bq→s.heap.U≤bG.heap.U→Q .normal cv bq)→Region.ready .any ops listed=[]→Q .normal a w:=by
  intro listed s bG a w φ fq h r au bc;cases hu:gj ops listed with
  |nil =>
   rw [hu]at h;simp [kq]at h;subst h;exact au a w φ (eW.refl _ _) r (Nat.le_refl _)
  |cons i q =>
   exfalso;have:=Ui s7 fq hu;rw [bc]at this;cases this
 induction dl with
 |zero =>
  intro listed s bG a w φ fq gI hlen h r hid au;have hu:gj ops listed=[]:=List.length_eq_zero_iff.1 ab;simp only [wpAny]
  have LG:Region.ready .any ops listed=[]:=by
   cases bc:Region.ready .any ops listed with
   |nil=>rfl
   |cons i q =>
    exfalso;obtain⟨ac,ai,_⟩:=LF (by rw [bc];exact List.mem_cons_self);have:i∈gj ops listed:=by unfold gj;simp only [List.mem_filter,List.mem_range,Bool.not_eq_true'];exact⟨ac,ai⟩
    rw [hu]at this;cases this
  exact⟨LG,uD fq h r au LG⟩
 |succ dl ih =>
  intro listed s bG a w φ fq gI hlen h r hid au;simp only [wpAny];refine⟨uD fq h r au,fun i aq=> ?_⟩;obtain⟨ac,ai,o,ao,s8⟩:=LF aq;have E6:i∈gj ops listed:=by unfold gj;simp only [List.mem_filter,List.mem_range,Bool.not_eq_true'];exact⟨ac,ai⟩
  obtain⟨p,q,s9⟩:=List.append_of_mem E6;have xf:(gj ops listed).Pairwise (· < ·):=List.Pairwise.filter _ List.pairwise_lt_range
  have hm:∀x∈p,xb ops x i:=by
   intro x aj;rw [s9]at xf;have cG:x<i:=(List.pairwise_append.1 xf).2.2 x aj i aM;refine Ul x i cG ac ?_;cases ax:ordered (eb ops) x i with
   |false=>rfl
   |true =>
    exfalso;have rA:=T2 s7 gI i o ao s8 ax;have E7:x∈gj ops listed:=by rw [s9];simp [aj]
    unfold gj at E7;simp only [List.mem_filter,List.mem_range,Bool.not_eq_true']at E7;have pY:x<listed.size:= ab;rw [Array.getD_eq_getD_getElem?,Array.getElem?_eq_getElem pY]at rA;have a8:=E7.2;rw [Array.getD_eq_getD_getElem?,Array.getElem?_eq_getElem pY]at a8;simp at rA a8;rw [rA]at a8;cases a8
  rw [s9]at h;obtain⟨t,g1,g2⟩:=front s7 hm h;refine Lk cw db fW r (hid i E6) (Ug g1) fun cv bq bE aj fH hle=> ?_
  have E8:=Uj fq s9;refine ih (listed:=listed.setIfInBounds i true) (by simpa using fq) ?_ ?_ (by rw [E8];exact g2) fH (fun j a1=> ?_) fun s0 mX s3 EM EN TZ=> ?_
  ·intro j Um a1 AN e he ax;by_cases oX:e.on=i
   ·rw [oX];simp [Array.getD_eq_getD_getElem?,fq,ac]
   ·have aF:listed.getD e.on false=true:=by
     by_cases p8:j=i
     ·subst p8;rw [ao]at AN;simp at AN;subst AN;exact s8 e he ax
     ·refine gI j Um ?_ AN e he ax;have iC:¬i=j:=fun e=>p8 e.symm
      simpa [Array.getD_eq_getD_getElem?,Array.getElem?_setIfInBounds,iC]using a1
    have Un:¬i=e.on:=fun dS=>oX dS.symm
    simpa [Array.getD_eq_getD_getElem?,Array.getElem?_setIfInBounds,Un]using aF
  ·rw [E8];rw [s9]at hlen;simp at hlen⊢; omega
  ·rw [E8]at a1;have Uo:j∈gj ops listed:=by rw [s9];rcases List.mem_append.1 a1 with a1|a1<;>simp [a1]
   have hX:(gj ops listed).Nodup:=List.Pairwise.filter _ List.nodup_range
   have p8:j≠i:=by
    rintro rfl;rw [s9]at hX;rcases List.mem_append.1 a1 with a1|a1
    ·exact(List.nodup_append.1 hX).2.2 j a1 j aM rfl
    ·exact(List.nodup_cons.1 (List.nodup_append.1 hX).2.1).1 a1
   obtain⟨aK,aP⟩:=hid j Uo;exact⟨ab,aj.new _ aK ab aP⟩
  ·refine au _ _ _ (eW.trans ⟨aj.le,fun k ky mi=>aj.new k ?_ ab mi,aj.ro⟩ EM) EN ab;have:=(hid i E6).1;omega
theorem Up(cw:hn P E){be:Nat→Prop}{bo:World}(db:fu be bo.heap.size){call:dV}(fW:n0 P be bo call){ops:Array Oper}(o9:oR ops=true){ap:Nat}{s bG:fr}{a:Act}{w:World}{φ:Map}
 {Q:Exit→Act→World→Prop} (h:kq E call ops ap (List.range ops.size) s=some bG) (r:gJ φ be bo s a w) (hid:∀j,j<ops.size→ap+j<s.heap.U∧∀v,φ (ap+j) v=none)
 (au:∀cv bq bE,eW φ bE ap→gJ bE be bo bG cv bq→s.heap.U≤bG.heap.U→Q .normal cv bq):wpAny P .any ops Q ops.size (Array.replicate ops.size false) a w:=by
 have hu:gj ops (Array.replicate ops.size false)=List.range ops.size:=by
  unfold gj;refine List.filter_eq_self.2 fun i aq=> ?_
  have:=List.mem_range.1 aq;simp [Array.getD_eq_getD_getElem?,Array.getElem?_replicate,this]
 refine Uk cw db fW o9 aM ?_ (by rw [hu];simp) (by rw [hu];exact h) r (fun j a1=>by rw [hu]at a1;exact hid j (List.mem_range.1 a1)) au;intro j o a1;simp [Array.getD_eq_getD_getElem?,Array.getElem?_replicate]at a1;split at a1<;>simp at a1
end
end
end Go.cf
namespace Go.cf
noncomputable section
open Go.RowKit
section
variable {P:Program}{φ:Map}{E:bY}
def xh:cW→Exit
 |.normal=> .normal
 |.exit id=> .exit id
 |.goto l=> .goto l
 |.ret=> .ret
theorem gJ.bump{be:Nat→Prop}{bo w:World}{s:fr}{a:Act}(r:gJ φ be bo s a w)(n:Nat):gJ φ be bo ⟨s.e3,{s.heap with U:=s.heap.U+n}⟩ a w :=
 ⟨r.e3,r.heap.U ab,r.below,r.defers⟩
theorem gJ.drew{be:Nat→Prop}{bo w:World}{s:fr}{a:Act}(r:gJ φ be bo s a w):gJ φ be bo s a w.drew :=
 ⟨r.e3,r.heap.alike (Alike.wT w),r.below.drew,r.defers⟩
theorem Uq{be:Nat→Prop}{w:World}{h:J}(r:cS φ be h w){i:Nat}(aq:h.U≤i):∀v,φ i v=none:=by
 intro v;cases aB:φ i v with
 |none=>rfl
 |some p=>have:=(r.dD i v p aB).1;omega
theorem LH(cw:hn P E){be:Nat→Prop}{bo w:World}(db:fu be bo.heap.size){call:dV}(fW:n0 P be bo call)(eR:P.follows .mixedOrders=true){id:Nat}{ops:Array Oper}{draw:Bool}{s bG:fr}{a:Act}(r:gJ φ be bo s a w)(h:sK E call ops draw s=some bG)
 {Q:Exit→Act→World→Prop} (au:∀cv bq bE,eW φ bE s.heap.U→gJ bE be bo bG cv bq→s.heap.U≤bG.heap.U→Q .normal cv bq):(Code.region id ops draw).wp P Q a w:=by
 have ru:∀j,j<ops.size→s.heap.U+j<s.heap.U+ops.size∧∀v,φ (s.heap.U+j) v=none:=fun j a1=>⟨ab,Uq r.heap ab⟩
 unfold sK at h;cases draw with
 |false =>
  simp only [Bool.false_eq_true,if_false]at h;refine wp_region ?_;refine Ll cw db fW h (r.bump _) List.nodup_range (fun j a1=>ru j (List.mem_range.1 a1)) fun cv bq bE ac ai a8=>au cv bq bE ac ai ?_
  simp only at a8;omega
 |true =>
  simp only [if_true]at h;split at h
  ·rename_i o9;refine wp_region_any eR ?_;refine Up cw db fW o9 h (r.bump _).drew ru fun cv bq bE ac ai a8=>au cv bq bE ac ai ?_
   simp only at a8;omega
  ·cases h
def s'(P:Program)(c:Code)(Q:Exit→Act→World→Prop)(a:Act)(w:World):Prop :=
 ∀(b:Frame)(k:List Item)(bm:List Frame),∃e cv bq,Q e cv bq∧Arrives P (lone (b.at a (.code c:: .inLoop c::k)) bm w) b k bm e cv bq
theorem LI{c:Code}{Q:Exit→Act→World→Prop}{a:Act}{w:World}(h:s' P c Q a w):(Code.loop c).wp P Q a w:=fun b k bm =>
 let ⟨e,cv,bq,q,r⟩:=h b k bm;⟨e,cv,bq,q,.of_steps (.one step_loop) r⟩
theorem E9{c:Code}{Q:Exit→Act→World→Prop}{a:Act}{w:World}(h:c.wp P (Exit.then (s' P c Q) Q) a w):s' P c Q a w:=by
 intro b k bm;obtain⟨e,nc,nd,aB,lA⟩:=h b (.inLoop c::k) bm;cases e with
 |normal =>
  obtain⟨E',Fa,Fb,Fc,Fe⟩:=aB b k bm;exact⟨E',Fa,Fb,Fc,.of_steps (Steps.trans lA (.one step_inLoop)) Fe⟩
 |exit id=>exact⟨_,nc,nd,aB,.pass (x:= .inLoop c) rfl (fun _ _=> .inl aM) lA⟩
 |goto l=>exact⟨_,nc,nd,aB,.pass (x:= .inLoop c) rfl (fun _ _=> .inl aM) lA⟩
 |ret=>exact⟨_,nc,nd,aB,.pass (x:= .inLoop c) rfl (fun _ _=> .inl aM) lA⟩
 |panic LJ=>exact⟨_,nc,nd,aB,.pass (x:= .inLoop c) rfl (fun _ _=> .inl aM) lA⟩
 |outgrown=>exact⟨_,nc,nd,aB,.pass (x:= .inLoop c) rfl (fun _ _=> .inl aM) lA⟩
def uQ(P:Program)(body c:Code)(Q:Exit→Act→World→Prop)(a:Act)(w:World):Prop :=
 ∀(b:Frame)(k:List Item)(bm:List Frame),∃e cv bq,Q e cv bq∧Arrives P (lone (b.at a (.code c:: .inScope body::k)) bm w) b k bm e cv bq
theorem LK{c:Code}{Q:Exit→Act→World→Prop}{a:Act}{w:World}(h:uQ P c c Q a w):(Code.scope c).wp P Q a w:=fun b k bm =>
 let ⟨e,cv,bq,q,r⟩:=h b k bm;⟨e,cv,bq,q,.of_steps (.one step_scope) r⟩
def rB(P:Program)(body:Code)(Q:Exit→Act→World→Prop):Exit→Act→World→Prop
 |.goto l,a,w =>
  match findLabel body l with
  |some rest=>uQ P body rest Q a w
  |none=>Q (.goto l) a w
 |e,a,w=>Q e a w
theorem AO{body c:Code}{Q:Exit→Act→World→Prop}{a:Act}{w:World}(h:c.wp P (rB P body Q) a w):uQ P body c Q a w:=by
 intro b k bm;obtain⟨e,nc,nd,aB,lA⟩:=h b (.inScope body::k) bm;cases e with
 |normal=>exact⟨.normal,nc,nd,aB,Steps.trans lA (.one step_inScope)⟩
 |exit id=>exact⟨.exit id,nc,nd,aB,fun e6 au=>lA e6 (by simp [exitTo,au])⟩
 |goto l =>
  simp only [rB]at aB;cases aZ:findLabel body l with
  |some rest =>
   rw [aZ]at aB;obtain⟨E',Fa,Fb,Fc,Fe⟩:=aB b k bm;exact⟨E',Fa,Fb,Fc,.of_steps (lA _ (by simp [gotoIn,aZ])) Fe⟩
  |none =>
   rw [aZ]at aB;exact⟨.goto l,nc,nd,aB,fun e6 au=>lA e6 (by simp [gotoIn,aZ,au])⟩
 |ret=>exact⟨.ret,nc,nd,aB,lA⟩
 |panic LJ=>exact⟨.panic LJ,nc,nd,aB,lA⟩
 |outgrown=>exact⟨.outgrown,nc,nd,aB,lA⟩
def xi(P:Program)(E:bY)(be:Nat→Prop)(bo:World)(s bG:fr)(e:cW)(a:Act)(w:World)(p':(Exit→Act→World→Prop)→Prop):Prop :=
 ∀{φ:Map}{Q:Exit→Act→World→Prop},gJ φ be bo s a w→(∀cv bq bE,eW φ bE s.heap.U→gJ bE be bo bG cv bq→s.heap.U≤bG.heap.U→Q (xh e) cv bq)→p' Q
theorem Ur(cw:hn P E){be:Nat→Prop}{bo:World}(db:fu be bo.heap.size){call:dV}(fW:n0 P be bo call)(eR:P.follows .mixedOrders=true):∀(n:Nat),
 (∀{c:Code}{s bG:fr}{e:cW}{a:Act}{w:World},e4 E call n none c s=some (e,bG)→xi P E be bo s bG e a w fun Q=>c.wp P Q a w) ∧
 (∀{c:Code}{s bG:fr}{e:cW}{a:Act}{w:World},e4 E call n none (.loop c) s=some (e,bG)→xi P E be bo s bG e a w fun Q=>s' P c Q a w) ∧
 (∀{b c:Code}{s bG:fr}{e:cW}{a:Act}{w:World},e4 E call n (some b) c s=some (e,bG)→xi P E be bo s bG e a w fun Q=>uQ P b c Q a w):=by
 intro n;induction n with
 |zero=>refine⟨?_,?_,?_⟩<;>(intros;simp_all [e4])
 |succ n ih =>
  obtain⟨ta,Ff,LL⟩:=ih
  have AP:∀{c:Code}{s bG:fr}{e:cW}{a:Act}{w:World},e4 E call (n+1) none (.loop c) s=some (e,bG)→xi P E be bo s bG e a w fun Q=>s' P c Q a w:=by
   intro c s bG e a w h φ Q r au;simp only [e4]at h;refine E9 ?_;cases ac:e4 E call n none c s with
   |none=>simp [ac]at h
   |some p =>
    obtain⟨bi,s1⟩:=p;rw [ac]at h;refine ta ac r fun cv bq bE g1 g2 g3=> ?_
    cases bi with
    |normal =>
     simp only at h;show s' P c Q cv bq;exact Ff h g2 fun s0 mX s3 aK aP bt=>au s0 mX s3 (g1.trans (aK.mono g3)) aP ab
    |exit id=>simp at h;obtain⟨rfl,rfl⟩:=h;exact au cv bq bE g1 g2 g3
    |goto id=>simp at h;obtain⟨rfl,rfl⟩:=h;exact au cv bq bE g1 g2 g3
    |ret=>simp at h;obtain⟨rfl,rfl⟩:=h;exact au cv bq bE g1 g2 g3
  have Us:∀{b c:Code}{s bG:fr}{e:cW}{a:Act}{w:World},e4 E call (n+1) (some b) c s=some (e,bG)→xi P E be bo s bG e a w fun Q=>uQ P b c Q a w:=by
   intro b c s bG e a w h φ Q r au;simp only [e4]at h;refine AO ?_;cases ac:e4 E call n none c s with
   |none=>simp [ac]at h
   |some p =>
    obtain⟨bi,s1⟩:=p;rw [ac]at h;refine ta ac r fun cv bq bE g1 g2 g3=> ?_
    cases bi with
    |normal=>simp at h;obtain⟨rfl,rfl⟩:=h;exact au cv bq bE g1 g2 g3
    |exit id=>simp at h;obtain⟨rfl,rfl⟩:=h;exact au cv bq bE g1 g2 g3
    |goto l =>
     simp only at h;show rB P b Q (.goto l) cv bq;simp only [rB];cases aZ:findLabel b l with
     |some rest =>
      rw [aZ]at h;exact LL h g2 fun s0 mX s3 aK aP bt=>au s0 mX s3 (g1.trans (aK.mono g3)) aP ab
     |none =>
      rw [aZ]at h;simp at h;obtain⟨rfl,rfl⟩:=h;exact au cv bq bE g1 g2 g3
    |ret=>simp at h;obtain⟨rfl,rfl⟩:=h;exact au cv bq bE g1 g2 g3
  refine⟨?_,AP,Us⟩;intro c s bG e a w h φ Q r au;cases c with
  |skip=>simp [e4]at h;obtain⟨rfl,rfl⟩:=h;exact wp_skip (au a w φ (eW.refl _ _) r (Nat.le_refl _))
  |label l=>simp [e4]at h;obtain⟨rfl,rfl⟩:=h;exact wp_label (au a w φ (eW.refl _ _) r (Nat.le_refl _))
  |region id ops draw =>
   simp only [e4,Option.map_eq_some_iff,Prod.mk.injEq]at h;obtain⟨s1,ac,rfl,rfl⟩:=h;exact LH cw db fW eR r ac au
  |seq x y =>
   simp only [e4]at h;refine wp_seq ?_;cases ac:e4 E call n none x s with
   |none=>simp [ac]at h
   |some p =>
    obtain⟨bi,s1⟩:=p;rw [ac]at h;refine ta ac r fun cv bq bE g1 g2 g3=> ?_
    cases bi with
    |normal =>
     simp only at h;show y.wp P Q cv bq;exact ta h g2 fun s0 mX s3 aK aP bt=>au s0 mX s3 (g1.trans (aK.mono g3)) aP ab
    |exit id=>simp at h;obtain⟨rfl,rfl⟩:=h;exact au cv bq bE g1 g2 g3
    |goto id=>simp at h;obtain⟨rfl,rfl⟩:=h;exact au cv bq bE g1 g2 g3
    |ret=>simp at h;obtain⟨rfl,rfl⟩:=h;exact au cv bq bE g1 g2 g3
  |cond x y z =>
   simp only [e4]at h;have aj:=r.eval x;split at h
   ·rename_i ax;rw [ax]at aj;simp only [aL]at aj;exact wp_cond_true aj (ta h r au)
   ·rename_i ax;rw [ax]at aj;simp only [aL]at aj;exact wp_cond_false aj (ta h r au)
   ·cases h
  |block id c =>
   simp only [e4]at h;refine wp_block ?_;cases ac:e4 E call n none c s with
   |none=>simp [ac]at h
   |some p =>
    obtain⟨bi,s1⟩:=p;rw [ac]at h;refine ta ac r fun cv bq bE g1 g2 g3=> ?_
    cases bi with
    |normal=>simp at h;obtain⟨rfl,rfl⟩:=h;exact au cv bq bE g1 g2 g3
    |exit j =>
     simp at h;obtain⟨rfl,rfl⟩:=h;simp only [xh,Exit.inBlock];by_cases a1:j=id
     ·rw [if_pos a1]at au⊢; exact au cv bq bE g1 g2 g3
     ·rw [if_neg a1]at au⊢; exact au cv bq bE g1 g2 g3
    |goto l=>simp at h;obtain⟨rfl,rfl⟩:=h;exact au cv bq bE g1 g2 g3
    |ret=>simp at h;obtain⟨rfl,rfl⟩:=h;exact au cv bq bE g1 g2 g3
  |loop c=>exact LI (AP h r au)
  |scope c =>
   simp only [e4]at h;exact LK (LL h r au)
  |goto l=>simp [e4]at h;obtain⟨rfl,rfl⟩:=h;exact wp_goto (au a w φ (eW.refl _ _) r (Nat.le_refl _))
  |exit id=>simp [e4]at h;obtain⟨rfl,rfl⟩:=h;exact wp_exit (au a w φ (eW.refl _ _) r (Nat.le_refl _))
  |ret=>simp [e4]at h;obtain⟨rfl,rfl⟩:=h;exact wp_ret (au a w φ (eW.refl _ _) r (Nat.le_refl _))
  |rangeFunc f ps x y=>simp [e4]at h
  |refuse w=>simp [e4]at h
theorem Fg(bZ:E.D.dt P){be:Nat→Prop}{bo w:World}{s:fr}{a:Act}(r:gJ φ be bo s a w):∀{dR:List ResultVar}{l:List aa},jx E.D dR s=some l →
 ∃vs,(dR.mapM (fun(x:ResultVar)=>(match x with|.tmp t=>pure (a.tmps.getD t undef)|.cell b t=>do loadVar t (←asAddr (a.tmps.getD b undef)):Sem Value))).run P w=.ok vs w∧bz φ l vs
 |[],l,h=>by simp [jx]at h;subst h;exact⟨[],rfl,by simp [bz]⟩
 |.tmp t::dR,l,h=>by
  simp only [jx,Option.map_eq_some_iff]at h;obtain⟨m,ac,rfl⟩:=h;obtain⟨vs,aK,aP⟩:=Fg bZ r ac;refine⟨a.tmps.getD t undef::vs,?_,?_⟩
  ·simp only [List.mapM_cons,Sem.run_bind,Sem.run_pure,Result.andThen_ok,aK]
  ·simp only [bz];exact⟨_,_,rfl,r.e3.EK t,aP⟩
 |.cell b t::dR,l,h=>by
  simp only [jx]at h;split at h
  ·rename_i p ah;split at h
   ·rename_i v m ac ai;simp at h;subst h;obtain⟨vs,aK,aP⟩:=Fg bZ r ai;have ax:=r.e3.EK b;rw [ah]at ax;obtain⟨br,g1,g2⟩:=KJ bZ r.heap ax ac;simp only [aL]at ax;obtain⟨fJ,LM,me⟩:=ax;rw [LM]at g1;simp only [Instr.loadAt,Instr.sureAddr,Sem.run_bind,Sem.run_pure,Result.andThen_ok]at g1;refine⟨br::vs,?_,?_⟩
    ·have ea:(asAddr (a.tmps.getD b undef)).run P w=.ok fJ w:=by rw [LM];rfl
     simp only [List.mapM_cons,Sem.run_bind,ea,Sem.run_pure,Result.andThen_ok,g1,aK]
    ·simp only [bz];exact⟨_,_,rfl,g2,aP⟩
   ·cases h
  ·cases h
theorem LN(bZ:E.D.dt P){be:Nat→Prop}{bo w:World}{s:fr}{a:Act}(r:gJ φ be bo s a w){fn:Func}{l:List aa}(h:jx E.D fn.results.toList s=some l) :
 ∃br,(results fn a.tmps).run P w=.ok br w∧aL φ (mS l) br:=by
 obtain⟨vs,ac,ai⟩:=Fg bZ r h
 have hm:(fn.results.mapM (fun(x:ResultVar)=>(match x with|.tmp t=>pure (a.tmps.getD t undef)|.cell b t=>do loadVar t (←asAddr (a.tmps.getD b undef)):Sem Value))).run P w=.ok vs.toArray w:=by rw [←Array.toArray_toList (xs:=fn.results)];simp only [List.mapM_toArray,Sem.run_map,ac,Result.andThen_ok]
 have hlen:=ai.length;by_cases Fh:l.length=1
 ·obtain⟨x,rfl⟩:=List.length_eq_one_iff.1 Fh;obtain⟨y,rfl⟩:=List.length_eq_one_iff.1 (by rw [hlen,Fh]);refine⟨y,?_,?_⟩
  ·unfold results;rw [Sem.run_bind]
   erw [hm]
   rfl
  ·simp only [bz]at ai;obtain⟨v,t,e,a8,bQ⟩:=ai;simp at e;obtain⟨rfl,rfl⟩:=e;exact a8
 ·refine⟨.tuple vs.toArray,?_,?_⟩
  ·unfold results;rw [Sem.run_bind]
   erw [hm]
   simp only [Result.andThen_ok,Sem.run_pure];rw [dif_neg (by simp;omega)]
  ·have:mS l=.tuple l:=by
    unfold mS;split
    ·simp at Fh
    ·rfl
   rw [this];simp only [aL];exact⟨_,rfl,by simpa using ai⟩
theorem Ut(cw:hn P E){be:Nat→Prop}{bo:World}(db:fu be bo.heap.size)(fm:E.cond be bo)(eR:P.follows .mixedOrders=true):∀n,n0 P be bo (l7 P E n):=by
 intro n;induction n with
 |zero=>intro f args h v ag aw;simp [l7]at aw
 |succ n ih =>
  intro f args h v ag aw φ w dk ed cH ea;simp only [l7]at aw;split at aw
  ·rename_i g ak;exact cw.K7 f g ak be bo db fm args h v ag aw φ w dk ed cH ea
  ·rename_i im;split at aw
   ·rename_i fn pR;split at aw
    ·rename_i c AA;refine⟨⟨fn,c,pR,AA⟩,?_⟩;refine calls_of_wp pR AA ?_;have hlen:dk.size=args.length:=by have:=ea.length;rwa [Array.length_toList]at this
     have r:gJ φ be bo ⟨args++List.replicate (fn.ntmps-args.length) gg,h⟩ {tmps:=dk++Array.replicate (fn.ntmps-dk.size) undef,defers:=[]} w:=by refine⟨?_,ed,cH,rfl⟩;simp only [Array.toList_append,Array.toList_replicate,hlen];exact ea.append (bz.replicate (aL.gg φ) _)
     cases aj:e4 E (l7 P E n) n none c ⟨args++List.replicate (fn.ntmps-args.length) gg,h⟩with
     |none=>simp [aj]at aw
     |some p =>
      obtain⟨e,s⟩:=p;rw [aj]at aw
      have fin:∀cv bq bE,eW φ bE h.U→gJ bE be bo s cv bq→h.U≤s.heap.U→ ∀{l},jx E.D fn.results.toList s=some l→v=mS l→ag=s.heap →
       cv.defers=[]∧∃LO,(results fn cv.tmps).run P bq=.ok LO bq∧∃br bE,Ending.returned LO=.returned br∧eW φ bE h.U∧aL bE v br∧cS bE be ag bq∧Safe be bo bq∧h.U≤ag.U:=by
       intro cv bq bE g1 g2 g3 l aC bh bU;subst bh bU;obtain⟨br,aK,aP⟩:=LN cw.hO g2 aC;exact⟨g2.defers,br,aK,br,bE,rfl,g1,aP,g2.heap,g2.below,g3⟩
      refine(Ur cw db ih eR n).1 aj r fun cv bq bE g1 g2 g3=> ?_
      cases e with
      |normal =>
       simp only [Option.map_eq_some_iff,Prod.mk.injEq]at aw;obtain⟨l,aC,ac,ai⟩:=aw;exact fin cv bq bE g1 g2 g3 aC ac.symm ai.symm
      |ret =>
       simp only [Option.map_eq_some_iff,Prod.mk.injEq]at aw;obtain⟨l,aC,ac,ai⟩:=aw;exact fin cv bq bE g1 g2 g3 aC ac.symm ai.symm
      |exit id=>simp at aw
      |goto id=>simp at aw
    ·cases aw
   ·cases aw
end
end
end Go.cf
namespace Go.cf
noncomputable section
open Go.RowKit
section
variable {P:Program}{E:bY}
def AQ:Option (aa×J)→Bool
 |some (.bool true,_)=>true
 |_=>false
theorem Uu{r:Option (aa×J)}(h:AQ r=true):∃ag,r=some (.bool true,ag):=by
 unfold AQ at h;split at h
 ·exact⟨_,rfl⟩
 ·cases h
def Uv:Map:=fun _ _=>none
theorem cS.empty(be:Nat→Prop)(w:World)(n:Nat):cS Uv be ⟨n,.nil⟩ w where
 dD i v p h:=by cases h
 apart i v p j u q h:=by cases h
 same i v p u q h:=by cases h
theorem dH.Uw(P:Program):dH.dt (zW P) P:=fun _ _ h=>h
theorem Ux{P:Program}(h:(P.funcs.toList.all fun fn=> !(fn.name == "runtime.NumGoroutine"))=true):∀(f:Nat) fn,P.funcs[f]? =some fn→(fn.name == "runtime.NumGoroutine")=false:=by
 intro f fn aZ
 have hm:fn∈P.funcs.toList:=by rw [←Array.getElem?_toList]at aZ;exact List.mem_of_getElem? aZ
 have:=List.all_eq_true.1 h fn hm;simpa using this
theorem Uy{P:Program}{E:bY}(h:(E.eqs.all fun t=>DY P t)=true):∀t,E.ik t=true→ri P t:=by intro t bW;exact List.all_eq_true.1 h t (by simpa [bY.ik]using bW)
end
end
end Go.cf
namespace Go.cf
noncomputable section
open Go.RowKit
def bA.bg(r:Nat→Nat)(a:bA):bA:= {a with id:=r a.id}
mutual
def aa.bg(r:Nat→Nat):aa→aa
 |.ptr (some a)=> .ptr (some (a.bg r))
 |.slice (some a) n c=> .slice (some (a.bg r)) n c
 |.func fn f c=> .func fn (aa.gK r f) (aa.gK r c)
 |.iface t v=> .iface t (aa.bg r v)
 |.agg bm=> .agg (aa.gK r bm)
 |.tuple vs=> .tuple (aa.gK r vs)
 |.undef=> .undef
 |.bool b=> .bool b
 |.int k n=> .int k n
 |.str s=> .str s
 |.ptr none=> .ptr none
 |.slice none n c=> .slice none n c
 |.nilFunc=> .nilFunc
 |.nilIface=> .nilIface
def aa.gK(r:Nat→Nat):List aa→List aa
 |[]=> []
 |a::l=>aa.bg r a::aa.gK r l
end
theorem aa.Fi(r:Nat→Nat):∀(l:List aa),aa.gK r l=l.map (aa.bg r)
 |[]=>rfl
 |a::l=>by simp [aa.gK,aa.Fi r l]
mutual
def ch(D:Nat→Prop):aa→Prop
 |.ptr (some a)=>D a.id
 |.slice (some a) _ _=>D a.id
 |.func _ f c=>fp D f∧fp D c
 |.iface _ v=>ch D v
 |.agg bm=>fp D bm
 |.tuple vs=>fp D vs
 |.undef=>True
 |.bool _=>True
 |.int _ _=>True
 |.str _=>True
 |.ptr none=>True
 |.slice none _ _=>True
 |.nilFunc=>True
 |.nilIface=>True
def fp(D:Nat→Prop):List aa→Prop
 |[]=>True
 |a::l=>ch D a∧fp D l
end
theorem tb{D:Nat→Prop} :∀{l:List aa},fp D l↔ ∀a∈l,ch D a
 |[]=>by simp [fp]
 |a::l=>by simp [fp,tb (l:=l)]
mutual
theorem aL.bg{φ cO:Map}{r:Nat→Nat}(h:∀i v p,φ i v=some p→cO (r i) v=some p):∀{a:aa}{v:Value},aL φ a v→aL cO (a.bg r) v
 |.undef,_,_=>by simp [aL,aa.bg]
 |.bool b,v,k=>by simpa [aL,aa.bg]using k
 |.int _ n,v,k=>by simpa [aL,aa.bg]using k
 |.str s,v,k=>by simpa [aL,aa.bg]using k
 |.ptr none,v,k=>by simpa [aL,aa.bg]using k
 |.ptr (some a),v,k=>by simp only [aL,aa.bg]at k⊢;obtain⟨x,e,p,ah,q⟩:=k;exact⟨x,e,p,h _ _ _ ah,q⟩
 |.slice none len cap,v,k=>by simpa [aL,aa.bg]using k
 |.slice (some a) len cap,v,k=>by
  simp only [aL,aa.bg]at k⊢;obtain⟨x,c,e,et,l2,q⟩:=k;refine⟨x,c,e,et,l2,?_⟩;rcases q with ⟨aZ,p,ah,q⟩|⟨f,aZ,p,ah,q⟩
  ·exact .inl ⟨aZ,p,h _ _ _ ah,q⟩
  ·exact .inr ⟨f,aZ,p,h _ _ _ ah,q⟩
 |.func fn f c,v,k=>by simp only [aL,aa.bg]at k⊢;obtain⟨gb,ft,e,e8,il⟩:=k;exact⟨gb,ft,e,bz.bg h e8,bz.bg h il⟩
 |.nilFunc,v,k=>by simpa [aL,aa.bg]using k
 |.iface t a,v,k=>by simp only [aL,aa.bg]at k⊢;obtain⟨x,e,q⟩:=k;exact⟨x,e,aL.bg h q⟩
 |.nilIface,v,k=>by simpa [aL,aa.bg]using k
 |.agg bm,v,k=>by simp only [aL,aa.bg]at k⊢;obtain⟨x,e,q⟩:=k;exact⟨x,e,bz.bg h q⟩
 |.tuple bm,v,k=>by simp only [aL,aa.bg]at k⊢;obtain⟨x,e,q⟩:=k;exact⟨x,e,bz.bg h q⟩
theorem bz.bg{φ cO:Map}{r:Nat→Nat}(h:∀i v p,φ i v=some p→cO (r i) v=some p):∀{l:List aa}{t:List Value},bz φ l t→bz cO (aa.gK r l) t
 |[],t,k=>by simpa [bz,aa.gK]using k
 |a::l,t,k=>by simp only [bz,aa.gK]at k⊢;obtain⟨v,eQ,e,aK,aP⟩:=k;exact⟨v,eQ,e,aL.bg h aK,bz.bg h aP⟩
end
mutual
theorem aL.lB{φ cO:Map}{r:Nat→Nat}{D:Nat→Prop}(h:∀i,D i→ ∀v p,cO (r i) v=some p→φ i v=some p):∀{a:aa}{v:Value},ch D a→aL cO (a.bg r) v→aL φ a v
 |.undef,_,_,_=>by simp [aL]
 |.bool b,v,_,k=>by simpa [aL,aa.bg]using k
 |.int _ n,v,_,k=>by simpa [aL,aa.bg]using k
 |.str s,v,_,k=>by simpa [aL,aa.bg]using k
 |.ptr none,v,_,k=>by simpa [aL,aa.bg]using k
 |.ptr (some a),v,c,k=>by simp only [aL,aa.bg,ch]at k c⊢;obtain⟨x,e,p,ah,q⟩:=k;exact⟨x,e,p,h _ c _ _ ah,q⟩
 |.slice none len cap,v,_,k=>by simpa [aL,aa.bg]using k
 |.slice (some a) len cap,v,kA,k=>by
  simp only [aL,aa.bg,ch]at k kA⊢;obtain⟨x,c,e,et,l2,q⟩:=k;refine⟨x,c,e,et,l2,?_⟩;rcases q with ⟨aZ,p,ah,q⟩|⟨f,aZ,p,ah,q⟩
  ·exact .inl ⟨aZ,p,h _ kA _ _ ah,q⟩
  ·exact .inr ⟨f,aZ,p,h _ kA _ _ ah,q⟩
 |.func fn f c,v,kA,k=>by simp only [aL,aa.bg,ch]at k kA⊢;obtain⟨gb,ft,e,e8,il⟩:=k;exact⟨gb,ft,e,bz.lB h kA.1 e8,bz.lB h kA.2 il⟩
 |.nilFunc,v,_,k=>by simpa [aL,aa.bg]using k
 |.iface t a,v,kA,k=>by simp only [aL,aa.bg,ch]at k kA⊢;obtain⟨x,e,q⟩:=k;exact⟨x,e,aL.lB h kA q⟩
 |.nilIface,v,_,k=>by simpa [aL,aa.bg]using k
 |.agg bm,v,kA,k=>by simp only [aL,aa.bg,ch]at k kA⊢;obtain⟨x,e,q⟩:=k;exact⟨x,e,bz.lB h kA q⟩
 |.tuple bm,v,kA,k=>by simp only [aL,aa.bg,ch]at k kA⊢;obtain⟨x,e,q⟩:=k;exact⟨x,e,bz.lB h kA q⟩
theorem bz.lB{φ cO:Map}{r:Nat→Nat}{D:Nat→Prop}(h:∀i,D i→ ∀v p,cO (r i) v=some p→φ i v=some p):∀{l:List aa}{t:List Value},fp D l→bz cO (aa.gK r l) t→bz φ l t
 |[],t,_,k=>by simpa [bz,aa.gK]using k
 |a::l,t,c,k=>by simp only [bz,aa.gK,fp]at k c⊢;obtain⟨v,eQ,e,aK,aP⟩:=k;exact⟨v,eQ,e,aL.lB h c.1 aK,bz.lB h c.2 aP⟩
end
def af.bg(r:Nat→Nat)(b:af):af:= {b with bk:=b.bk.map (aa.bg r)}
theorem af.LP(r:Nat→Nat)(b:af)(v:Nat):(b.bg r).cC v=b.cC v:=by show(if v=b.ad then(b.bk.map (aa.bg r)).length else if b.gd≤v∧v<b.ad then b.hj else 0)=b.cC v;rw [List.length_map];rfl
theorem aa.AR(r:Nat→Nat)(e:aa):(e.bg r).cells=e.cells.map (aa.bg r):=by
 cases e with
 |ptr o=>cases o<;>simp [aa.bg,aa.cells]
 |slice o n c=>cases o<;>simp [aa.bg,aa.cells]
 |agg l=>simp [aa.bg,aa.cells,aa.Fi]
 |_=>simp [aa.bg,aa.cells]
theorem Row.bg{φ cO:Map}{r:Nat→Nat}(h:∀i v p,φ i v=some p→cO (r i) v=some p){S T:Nat→Prop}{b:af}{v:Nat}{p:Place}{w:World}(k:Row φ S b v p w)(lC:p.ro=false→ ¬T p.cd):Row cO T (b.bg r) v p w where
 cd:=k.cd
 base:=lC
 cells:=k.cells
 free:=k.free
 mark:=k.mark
 jy:=k.jy
 cont i e ac ai a8:=by rw [af.LP]at ai;simp only [af.bg,List.getElem?_map,Option.map_eq_some_iff]at a8;obtain⟨e0,a8,rfl⟩:=a8;obtain⟨aK,aP,bt⟩:=k.cont i e0 ac ai a8;refine⟨by rw [aa.AR,List.length_map];exact aK,aP,fun j bT aj=> ?_⟩;rw [aa.AR,List.getElem?_map,Option.map_eq_some_iff]at aj;obtain⟨jA,aj,rfl⟩:=aj;obtain⟨x,g1,g2,g3⟩:=bt j jA aj;exact⟨x,g1,aL.bg h g2,g3⟩
theorem ch.cells{D:Nat→Prop}{e:aa}(h:ch D e):∀x∈e.cells,ch D x:=by
 intro x aj;cases e with
 |agg l=>simp only [ch]at h;exact tb.1 h x (by simpa [aa.cells]using aj)
 |ptr o=>cases o<;>(simp only [aa.cells,List.mem_singleton]at aj;subst aj;exact h)
 |slice o n c=>cases o<;>(simp only [aa.cells,List.mem_singleton]at aj;subst aj;exact h)
 |_=>simp only [aa.cells,List.mem_singleton]at aj;subst aj;exact h
theorem Row.lB{φ cO:Map}{r:Nat→Nat}{D:Nat→Prop}(h:∀i,D i→ ∀v p,cO (r i) v=some p→φ i v=some p){S T:Nat→Prop}{b:af}{v:Nat}{p:Place}{w:World}(aw:∀e∈b.bk,ch D e)(k:Row cO S (b.bg r) v p w)
 (lC:p.ro=false→ ¬T p.cd):Row φ T b v p w where
 cd:=k.cd
 base:=lC
 cells:=k.cells
 free:=k.free
 mark:=k.mark
 jy:=k.jy
 cont i e ac ai a8:=by
  have Fj:(b.bg r).bk[i]? =some (e.bg r):=by simp [af.bg,a8]
  obtain⟨aK,aP,bt⟩:=k.cont i (e.bg r) ac (by rw [af.LP];exact ai) Fj;rw [aa.AR,List.length_map]at aK;refine⟨aK,aP,fun j bT aj=> ?_⟩;obtain⟨x,g1,g2,g3⟩:=bt j (bT.bg r) (by rw [aa.AR,List.getElem?_map,aj];rfl);exact⟨x,g1,aL.lB h ((aw e (List.mem_of_getElem? a8)).cells bT (List.mem_of_getElem? aj)) g2,g3⟩
theorem Row.at{φ cO:Map}(h:φ.le cO){S:Nat→Prop}{b:af}{v:Nat}{p:Place}{w bq:World}(k:Row φ S b v p w)(hs:w.heap.size≤bq.heap.size)(ax:bq.heap[p.cd]? =w.heap[p.cd]?):Row cO S b v p bq where
 cd:=Nat.lt_of_lt_of_le k.cd hs
 base:=k.base
 cells o ao:=by have:=k.cells o ao;simp only [World.cell?,ax]at this⊢; exact this
 free bc o ao:=by have:=k.free bc o ao;simp only [World.frozen?,ax]at this⊢; exact this
 mark bc:=(k.mark bc).of_eq (sL ax)
 jy t bW:=by rw [sL ax];exact k.jy t bW
 cont i e ac ai a8:=by obtain⟨aK,aP,bt⟩:=k.cont i e ac ai a8;refine⟨aK,aP,fun j bT aj=> ?_⟩;obtain⟨x,g1,g2,g3⟩:=bt j bT aj;refine⟨x,?_,aL.mono h g2,g3⟩;simp only [World.cell?,Place.at,ax]at g1⊢; exact g1
def In(h:J)(i:Nat):Prop:=(h.get i).isSome=true
structure AS(r:Nat→Nat)(h H:J):Prop where
 get:∀i b,h.get i=some b→i<h.U∧H.get (r i)=some (b.bg r)
 inj:∀i j,In h i→In h j→r i=r j→i=j
 eM:∀i b,h.get i=some b→ ∀e∈b.bk,ch (In h) e
open Classical in
def iI(cO:Map)(r:Nat→Nat)(h:J):Map:=fun i v=>if In h i then cO (r i) v else none
theorem lD{cO:Map}{r:Nat→Nat}{h:J}{i v:Nat}{p:Place}(k:iI cO r h i v=some p):In h i∧cO (r i) v=some p:=by
 unfold iI at k;split at k
 ·rename_i aq;exact⟨aq,k⟩
 ·cases k
theorem qa{cO:Map}{r:Nat→Nat}{h:J}{i v:Nat}(aq:In h i):iI cO r h i v=cO (r i) v:=by unfold iI;rw [if_pos aq]
theorem cS.iI{cO:Map}{S T:Nat→Prop}{H h:J}{w:World}{r:Nat→Nat}(k:cS cO S H w)(hw:AS r h H)(lC:∀i v p,iI cO r h i v=some p→p.ro=false→ ¬T p.cd):cS (iI cO r h) T h w where
 dD i v p ah:=by obtain⟨aq,aB⟩:=lD ah;obtain⟨b,ax⟩:=Option.isSome_iff_exists.1 aq;obtain⟨ac,ai⟩:=hw.get i b ax;obtain⟨aK,B,aP,bt,g',h6,mV,EI,wX⟩:=k.dD _ _ _ aB;rw [ai]at aP;simp only [Option.some.injEq]at aP;subst aP;exact⟨ac,b,ax,bt,g',h6,mV,EI,wX.lB (fun i aq v p ah=>by rw [qa aq];exact ah) (hw.eM i b ax) (lC i v p ah)⟩
 apart i v p j u q ah aB ax bX:=by obtain⟨aq,en⟩:=lD ah;obtain⟨a1,eC⟩:=lD aB;exact k.apart _ _ _ _ _ _ en eC ax fun e=>bX (hw.inj i j aq a1 e)
 same i v p u q ah aB ax:=by obtain⟨aq,en⟩:=lD ah;obtain⟨_,eC⟩:=lD aB;exact k.same _ _ _ _ _ en eC ax
class ke (C:(Nat→Prop)→World→Prop):Prop where
 mono:∀{be xj:Nat→Prop}{bo w:World},fu be bo.heap.size→C be bo→Safe be bo w→(∀x,be x→xj x)→C xj w
def b1(P:Program)(C:(Nat→Prop)→World→Prop)(f:FuncId)(args:List aa)(h:J)(v:aa)(ag:J):Prop :=
 ∀(be:Nat→Prop)(bo:World),fu be bo.heap.size→C be bo→ ∀(φ:Map)(w:World)(dk:Array Value),cS φ be h w→Safe be bo w→bz φ args dk.toList →
  (∃fn c,P.funcs[f]? =some fn∧fn.body=some c) ∧
  Calls P f dk w fun e bq=> ∃br bE,e=.returned br∧eW φ bE h.U∧aL bE v br∧cS bE be ag bq∧Safe be bo bq∧h.U≤ag.U
theorem b1.Uz{P:Program}{C:(Nat→Prop)→World→Prop}{f:FuncId}{g:z1}(k:EE P C f g){args:List aa}{h ag:J}{v:aa}(ak:g args h=some (v,ag)):b1 P C f args h v ag :=
 fun be bo db fm φ w dk ed cH ea=>k be bo db fm args h v ag ak φ w dk ed cH ea
theorem b1.uR{P:Program}{E:bY}(cw:hn P E)(eR:P.follows .mixedOrders=true){n:Nat}{f:FuncId}{args:List aa}{h ag:J}{v:aa}(aw:l7 P E n f args h=some (v,ag)):b1 P E.cond f args h v ag :=
 fun be bo db fm φ w dk ed cH ea=>Ut cw db fm eR n f args h v ag aw φ w dk ed cH ea
open Classical in
def push(cO bE:Map)(r:Nat→Nat):Map:=fun j u=>if k:∃i p,r i=j∧bE i u=some p then bE k.choose u else cO j u
theorem b1.frame{P:Program}{C:(Nat→Prop)→World→Prop}[UA:ke C]{f:FuncId}{args:List aa}{h ag:J}{v:aa}(k:b1 P C f args h v ag){r:Nat→Nat}{H aQ:J}(hw:AS r h H)(gz:fp (In h) args)
 (fS:∀i,h.U≤i→r i=H.U+(i-h.U)) (eX:∀i b,ag.get i=some b→(In h i∨h.U≤i)→aQ.get (r i)=some (b.bg r)) (rC:aQ.U=H.U+(ag.U-h.U))
 (kd:∀j,j<H.U→(∀i,In h i→r i≠j)→aQ.get j=H.get j):b1 P C f (args.map (aa.bg r)) H (v.bg r) aQ:=by
 intro S bo cu xk cO w dk ed tc ea
 let φ:=iI cO r h
 let xl:Nat→Prop:=fun x=>S x∨(x<w.heap.size∧∀i v p,φ i v=some p→p.ro=false→p.cd≠x)
 have s7:fu xl w.heap.size:=by
  rintro x (aj|aj)
  ·exact Nat.lt_of_lt_of_le (cu x aj) tc.size
  ·exact aj.1
 have UB:∀i v p,φ i v=some p→p.ro=false→ ¬xl p.cd:=by
  rintro i v p ah eu (aj|aj)
  ·obtain⟨_,aB⟩:=lD ah;obtain⟨_,B,_,_,_,_,_,_,td⟩:=ed.dD _ _ _ aB;exact td.base eu aj
  ·exact aj.2 i v p ah eu rfl
 have UC:cS φ xl h w:=ed.iI hw UB
 have UD:bz φ args dk.toList:=by rw [←aa.Fi]at ea;exact bz.lB (fun i aq v p ah=>by show iI cO r h i v=some p;rw [qa aq];exact ah) gz ea
 obtain⟨ax,aw⟩:=k xl w s7 (UA.mono cu xk tc fun x aj=> .inl aj) φ w dk UC (Safe.refl _ _) UD;refine⟨ax,aw.mono fun e bq ⟨br,bE,he,n5,bh,bc,hs,aR⟩=> ?_⟩
 have te:∀i u p,bE i u=some p→(In h i∧r i<H.U)∨h.U≤i:=by
  intro i u p ah;by_cases aq:i<h.U
  ·by_cases h9:In h i
   ·left;refine⟨h9,?_⟩;by_cases hex:∃LQ zO,φ i LQ=some zO
    ·obtain⟨LQ,zO,bf⟩:=hex;exact(ed.dD _ _ _ (lD bf).2).1
    ·have:=n5.new i aq (fun u=>by
      cases aB:φ i u with
      |none=>rfl
      |some q=>exact absurd ⟨u,q,aB⟩ hex) u
     rw [this]at ah;cases ah
   ·have:=n5.new i aq (fun u=>by show iI cO r h i u=none;unfold cf.iI;rw [if_neg h9]) u;rw [this]at ah;cases ah
  ·exact .inr ab
 have rD:∀i j u t p q,bE i u=some p→bE j t=some q→r i=r j→i=j:=by
  intro i j u t p q ah aB e;rcases te i u p ah with ⟨aq,Fk⟩|aq<;>rcases te j t q aB with ⟨a1,aho⟩|a1
  ·exact hw.inj i j aq a1 e
  ·rw [fS j a1]at e;omega
  ·rw [fS i aq]at e;omega
  ·rw [fS i aq,fS j a1]at e;omega
 have dh:∀i u p,bE i u=some p→push cO bE r (r i) u=some p:=by
  intro i u p ah;have hex:∃fh lE,r fh=r i∧bE fh u=some lE:=⟨i,p,rfl,ah⟩
  unfold push;rw [dif_pos hex];obtain⟨lE,bi,bu⟩:=hex.choose_spec;rw [rD _ _ _ _ _ _ bu ah bi];exact ah
 have du:∀j u,(¬∃i p,r i=j∧bE i u=some p)→push cO bE r j u=cO j u:=by intro j u hex;unfold push;rw [dif_neg hex]
 have fE:∀j u p,cO j u=some p→(¬∃i p,r i=j∧bE i u=some p)→ ∀i,In h i→r i≠j:=by
  intro j u p ah hex i aq e;subst e;have ac:φ i u=some p:=by show iI cO r h i u=some p;rw [qa aq];exact ah
  exact hex ⟨i,p,rfl,n5.le _ _ _ ac⟩
 have k2:(cO:Map).le (push cO bE r):=by
  intro j u p ah;by_cases hex:∃i p,r i=j∧bE i u=some p
  ·obtain⟨i,q,rfl,aB⟩:=hex;rw [dh i u q aB];rcases te i u q aB with ⟨aq,Fk⟩|aq
   ·have ac:φ i u=some p:=by show iI cO r h i u=some p;rw [qa aq];exact ah
    rw [n5.le _ _ _ ac]at aB;exact aB.symm
   ·have:=(ed.dD _ _ _ ah).1;rw [fS i aq]at this;omega
  ·rw [du j u hex];exact ah
 have rz:∀j u p,cO j u=some p→(∀i,In h i→r i≠j)→xl p.cd:=by intro j u p ah bX;obtain⟨_,B,_,_,_,_,_,_,td⟩:=ed.dD _ _ _ ah;refine .inr ⟨td.cd,fun i v q aB eu e=> ?_⟩;obtain⟨aq,eC⟩:=lD aB;have:=(ed.apart _ _ _ _ _ _ eC ah e (bX i aq)).1;rw [eu]at this;cases this
 refine⟨br,push cO bE r,he,⟨k2,?_,?_⟩,aL.bg dh bh,⟨?_,?_,?_⟩,tc.trans (hs.less fun i aq=> .inl aq),ab⟩
 ·intro j a1 im u;by_cases hex:∃i p,r i=j∧bE i u=some p
  ·obtain⟨i,q,rfl,aB⟩:=hex;rcases te i u q aB with ⟨aq,Fk⟩|aq
   ·have E5:i<h.U:=by obtain⟨b,ax⟩:=Option.isSome_iff_exists.1 aq;exact(hw.get i b ax).1
    have:=n5.new i E5 (fun u=>by show iI cO r h i u=none;rw [qa aq];exact im u) u;rw [this]at aB;cases aB
   ·rw [fS i aq]at a1;omega
  ·rw [du j u hex];exact im u
 ·intro j u p ah eu;by_cases hex:∃i p,r i=j∧bE i u=some p
  ·obtain⟨i,q,rfl,aB⟩:=hex;rw [dh i u q aB]at ah;simp only [Option.some.injEq]at ah;subst ah;exact(lD (n5.ro i u q aB eu)).2
  ·rw [du j u hex]at ah;exact ah
 ·intro j u p ah;by_cases hex:∃i p,r i=j∧bE i u=some p
  ·obtain⟨i,q,rfl,aB⟩:=hex;rw [dh i u q aB]at ah;simp only [Option.some.injEq]at ah;subst ah;obtain⟨d1,b,d2,d3,d4,d5,d6,d7,d8⟩:=bc.dD _ _ _ aB
   have UE:In h i∨h.U≤i:=by
    rcases te i u q aB with ⟨aq,_⟩|aq
    ·exact .inl aq
    ·exact .inr aq
   refine⟨?_,b.bg r,eX i b d2 UE,d3,d4,d5,d6,d7,d8.bg dh fun eu aj=>d8.base eu (.inl aj)⟩;rcases te i u q aB with ⟨_,Fk⟩|aq
   ·omega
   ·rw [fS i aq,rC];omega
  ·rw [du j u hex]at ah;obtain⟨d1,B,d2,d3,d4,d5,d6,d7,d8⟩:=ed.dD _ _ _ ah;have bX:=fE j u p ah hex;exact⟨ab,B,by rw [kd j d1 bX];exact d2,d3,d4,d5,d6,d7,d8.at k2 hs.size (hs.block _ (rz j u p ah bX))⟩
 ·have mixed:∀i u p j t q,bE i u=some p→cO j t=some q→(∀i,In h i→r i≠j)→p.cd=q.cd→p.ro=true∧q.ro=true:=by
   intro i u p j t q ah aB bX ax;have aj:=rz j t q aB bX;by_cases eu:p.ro=true
   ·obtain⟨aq,en⟩:=lD (n5.ro i u p ah eu);exact ed.apart _ _ _ _ _ _ en aB ax (bX i aq)
   ·obtain⟨_,b,_,_,_,_,_,_,d8⟩:=bc.dD _ _ _ ah;exact absurd (ax▸aj) (d8.base (by simpa using eu))
  intro i u p j t q ah aB ax bX;by_cases hex:∃fh p,r fh=i∧bE fh u=some p<;>by_cases nf:∃fh p,r fh=j∧bE fh t=some p
  ·obtain⟨fh,lE,rfl,en⟩:=hex;obtain⟨gB,jP,rfl,eC⟩:=nf;rw [dh _ _ _ en]at ah;rw [dh _ _ _ eC]at aB;simp only [Option.some.injEq]at ah aB;subst ah;subst aB;exact bc.apart _ _ _ _ _ _ en eC ax fun e=>bX (by rw [e])
  ·obtain⟨fh,lE,rfl,en⟩:=hex;rw [dh _ _ _ en]at ah;rw [du _ _ nf]at aB;simp only [Option.some.injEq]at ah;subst ah;exact mixed _ _ _ _ _ _ en aB (fE j t q aB nf) ax
  ·obtain⟨gB,jP,rfl,eC⟩:=nf;rw [du _ _ hex]at ah;rw [dh _ _ _ eC]at aB;simp only [Option.some.injEq]at aB;subst aB;exact(mixed _ _ _ _ _ _ eC ah (fE i u p ah hex) ax.symm).symm
  ·rw [du _ _ hex]at ah;rw [du _ _ nf]at aB;exact ed.apart _ _ _ _ _ _ ah aB ax bX
 ·intro i u p t q ah aB ax
  have both:∀fh lE,r fh=i→ ∀uA,bE fh uA=some lE→ ∀t q,push cO bE r i t=some q→bE fh t=some q:=by
   intro fh lE e uA en t q aB;by_cases nf:∃gB p,r gB=i∧bE gB t=some p
   ·obtain⟨gB,jP,bu,eC⟩:=nf;have:=rD fh gB _ _ _ _ en eC (by rw [e,bu]);subst this;rw [←bu,dh _ _ _ eC]at aB;rw [eC];exact aB
   ·rw [du _ _ nf]at aB;rcases te fh uA lE en with ⟨aq,_⟩|aq
    ·exact absurd e (fE i t q aB nf fh aq)
    ·have:=(ed.dD _ _ _ aB).1;rw [←e,fS fh aq]at this;omega
  by_cases hex:∃fh p,r fh=i∧bE fh u=some p
  ·obtain⟨fh,lE,e,en⟩:=hex;exact bc.same fh _ _ _ _ (both fh lE e u en u p ah) (both fh lE e u en t q aB) ax
  ·by_cases nf:∃fh p,r fh=i∧bE fh t=some p
   ·obtain⟨fh,lE,e,en⟩:=nf;exact bc.same fh _ _ _ _ (both fh lE e t en u p ah) (both fh lE e t en t q aB) ax
   ·rw [du _ _ hex]at ah;rw [du _ _ nf]at aB;exact ed.same _ _ _ _ _ ah aB ax
end
end Go.cf
namespace Go.cf
noncomputable section
section
variable {β:Type}
def gL(n:Nat)(k:Nat→β):β:=Nat.rec (motive:=fun _=>β) (k 0) (fun m _=>k (Nat.succ m)) n
theorem ng(n:Nat)(k:Nat→β):gL n k=k n:=by cases n<;>rfl
def Fl(n:Int)(k:Int→β):β :=
 match n with
 |.ofNat m=>gL m fun m=>k (.ofNat m)
 |.negSucc m=>gL m fun m=>k (.negSucc m)
theorem UF(n:Int)(k:Int→β):Fl n k=k n:=by cases n<;>simp [Fl,ng]
def LR(d:IntKind)(k:IntKind→β):β :=
 match d with
 |.i8=>k .i8|.i16=>k .i16|.i32=>k .i32|.i64=>k .i64|.u8=>k .u8|.u16=>k .u16|.u32=>k .u32|.u64=>k .u64
theorem UG(d:IntKind)(k:IntKind→β):LR d k=k d:=by cases d<;>rfl
def uS(b:Bool)(k:Bool→β):β :=
 match b with
 |true=>k true
 |false=>k false
theorem LS(b:Bool)(k:Bool→β):uS b k=k b:=by cases b<;>rfl
def AT(a:bA)(k:bA→β):β :=
 match a with
 |⟨a,b,c,d,e⟩=>gL a fun a=>gL b fun b=>gL c fun c=>gL d fun d=>gL e fun e=>k ⟨a,b,c,d,e⟩
theorem LU(a:bA)(k:bA→β):AT a k=k a:=by cases a;simp [AT,ng]
def Fm(b:UInt8)(k:UInt8→β):β :=
 match b with
 |⟨⟨⟨n,h⟩⟩⟩=>gL n fun m=>k (UInt8.ofNat m)
theorem UH(b:UInt8)(k:UInt8→β):Fm b k=k b:=by
 obtain⟨⟨⟨n,h⟩⟩⟩:=b;simp only [Fm,ng]
 congr 1
 apply UInt8.toNat_inj.1;simp [UInt8.toNat,UInt8.ofNat];omega
def AU:List UInt8→(List UInt8→β)→β
 |[],k=>k []
 |b::r,k=>Fm b fun b=>AU r fun r=>k (b::r)
theorem LV:∀(l:List UInt8)(k:List UInt8→β),AU l k=k l
 |[],k=>rfl
 |b::r,k=>by simp only [AU,UH,LV r]
def tf(v:aa)(k:aa→β):β :=
 match v with
 |.undef=>k .undef
 |.bool b=>uS b fun b=>k (.bool b)
 |.int d n=>LR d fun d=>Fl n fun n=>k (.int d n)
 |.str s=>AU s fun s=>k (.str s)
 |.ptr none=>k (.ptr none)
 |.ptr (some a)=>AT a fun a=>k (.ptr (some a))
 |.slice none n c=>gL n fun n=>gL c fun c=>k (.slice none n c)
 |.slice (some a) n c=>AT a fun a=>gL n fun n=>gL c fun c=>k (.slice (some a) n c)
 |.nilFunc=>k .nilFunc
 |.nilIface=>k .nilIface
 |.func a b c=>k (.func a b c)
 |.iface t v=>k (.iface t v)
 |.agg l=>k (.agg l)
 |.tuple l=>k (.tuple l)
theorem LW(v:aa)(k:aa→β):tf v k=k v:=by
 cases v with
 |ptr o=>cases o<;>simp [tf,LU]
 |slice o n c=>cases o<;>simp [tf,LU,ng]
 |_=>simp [tf,LS,UG,UF,LV]
def tg:List aa→(List aa→β)→β
 |[],k=>k []
 |a::r,k=>tf a fun a=>tg r fun r=>k (a::r)
theorem LX:∀(l:List aa)(k:List aa→β),tg l k=k l
 |[],k=>rfl
 |a::r,k=>by simp only [tg,LW,LX r]
def xm(v:aa)(k:aa→β):β :=
 match v with
 |.agg l=>tg l fun l=>k (.agg l)
 |.iface t v=>gL t fun t=>tf v fun v=>k (.iface t v)
 |.func a b c=>tg b fun b=>tg c fun c=>k (.func a b c)
 |.tuple l=>tg l fun l=>k (.tuple l)
 |v=>tf v k
theorem LY(v:aa)(k:aa→β):xm v k=k v:=by unfold xm;split<;>simp [LW,LX,ng]
def uT:List aa→(List aa→β)→β
 |[],k=>k []
 |a::r,k=>xm a fun a=>uT r fun r=>k (a::r)
theorem Fo:∀(l:List aa)(k:List aa→β),uT l k=k l
 |[],k=>rfl
 |a::r,k=>by simp only [uT,LY,Fo r]
def xn(v:aa)(k:aa→β):β :=
 match v with
 |.tuple l=>uT l fun l=>k (.tuple l)
 |.iface t v=>gL t fun t=>xm v fun v=>k (.iface t v)
 |v=>xm v k
theorem Fp(v:aa)(k:aa→β):xn v k=k v:=by unfold xn;split<;>simp [LY,Fo,ng]
def Fq(b:af)(k:af→β):β :=
 match b with
 |⟨l,es,ex,ro,v,m,f,none⟩=>uT l fun l=>gL es fun es=>uS ex fun ex=>uS ro fun ro=>gL v fun v=>gL m fun m=>gL f fun f=>k ⟨l,es,ex,ro,v,m,f,none⟩
 |⟨l,es,ex,ro,v,m,f,some (t,n)⟩=>uT l fun l=>gL es fun es=>uS ex fun ex=>uS ro fun ro=>gL v fun v=>gL m fun m=>gL f fun f=>k ⟨l,es,ex,ro,v,m,f,some (t,n)⟩
theorem UI(b:af)(k:af→β):Fq b k=k b:=by obtain⟨l,es,ex,ro,v,m,f,ty⟩:=b;cases ty<;>simp [Fq,Fo,ng,LS]
def fX(n:Nat)(t:aV aa):List aa:=(List.range n).map fun i=>(t.get i).getD gg
theorem AV(n:Nat)(t:aV aa)(i:Nat):(fX n t)[i]? =if i<n then some ((t.get i).getD gg)else none:=by
 simp only [fX,List.getElem?_map];by_cases h:i<n
 ·rw [List.getElem?_range h,if_pos h];rfl
 ·rw [List.getElem?_eq_none (by simpa using h),if_neg h];rfl
def AW(n:Nat)(t:aV aa)(i:Nat):Option aa:=cond (Nat.blt i n) (some (Option.rec (motive:=fun _=>aa) gg (fun v=>v) (t.get i))) none
theorem LZ(n:Nat)(t:aV aa)(i:Nat):AW n t i=(fX n t)[i]? :=by
 rw [AV];unfold AW;by_cases h:i<n
 ·rw [show Nat.blt i n=true by simpa [Nat.blt_eq]using h,if_pos h];cases t.get i<;>rfl
 ·rw [show Nat.blt i n=false by cases ax:Nat.blt i n with|false=>rfl|true=>exact absurd (Nat.blt_eq.mp ax) h,if_neg h];rfl
def ml(n:Nat)(t:aV aa)(o:Operand):aa :=
 match o with
 |.tmp i=>cond (Nat.blt i n) (Option.rec (motive:=fun _=>aa) gg (fun v=>v) (t.get i)) .undef
 |.const v=>q5 v
 |.global _=> .undef
 |.func f=> .func (.func f) [] []
theorem xo(n:Nat)(t:aV aa):ml n t=de (fX n t):=by
 funext o
 cases o with
 |tmp i =>
  have:=LZ n t i;simp only [de,List.getD_eq_getElem?_getD,←this];unfold AW;show cond (Nat.blt i n) (Option.rec (motive:=fun _=>aa) gg (fun v=>v) (t.get i)) .undef=_;cases Nat.blt i n<;>rfl
 |const v=>rfl
 |global g=>rfl
 |func f=>rfl
theorem UJ(n:Nat)(t:aV aa)(d:Nat)(v:aa):fX n (t.set d v)=(fX n t).set d v:=by
 apply List.ext_getElem?;intro i;rw [AV,List.getElem?_set,AV];by_cases h:i<n
 ·simp only [h,if_true,aV.kQ];by_cases aE:d=i
  ·subst aE;simp [fX,h]
  ·simp [aE]
 ·simp only [h,if_false];by_cases aE:d=i
  ·subst aE;simp [fX,h]
  ·simp [aE]
section
variable {α:Type}
def AX(f:Nat):Nat→α→(aV α→β)→β :=
 Nat.rec (motive:=fun _=>Nat→α→(aV α→β)→β) (fun _ v c=>c (.node (some v) .nil .nil))
  (fun _ ih k v c=>cond (Nat.beq k 0) (c (.node (some v) .nil .nil)) (cond (Nat.beq (Nat.mod k 2) 1) (ih (Nat.div k 2) v fun u=>c (.node none u .nil)) (ih (Nat.sub (Nat.div k 2) 1) v fun u=>c (.node none .nil u)))) f
theorem Fs:∀(f k:Nat)(v:α)(c:aV α→β),AX f k v c=c (aV.hY f k v)
 |0,k,v,c=>rfl
 |f +1,k,v,c=>by
  show cond (Nat.beq k 0) (c (.node (some v) .nil .nil)) (cond (Nat.beq (k%2) 1) (AX f (k/2) v fun u=>c (.node none u .nil)) (AX f (k/2-1) v fun u=>c (.node none .nil u))) =
   c (cond (Nat.beq k 0) (.node (some v) .nil .nil) (cond (Nat.beq (k%2) 1) (.node none (aV.hY f (k/2) v) .nil) (.node none .nil (aV.hY f (k/2-1) v))))
  rw [Fs f,Fs f];cases Nat.beq k 0<;>cases Nat.beq (k%2) 1<;>rfl
def xp(t:aV α):Nat→α→(aV α→β)→β :=
 aV.rec (motive:=fun _=>Nat→α→(aV α→β)→β) (fun k v c=>AX k k v c)
  (fun o l r pS DA k v c=>cond (Nat.beq k 0) (c (.node (some v) l r)) (cond (Nat.beq (Nat.mod k 2) 1) (pS (Nat.div k 2) v fun u=>c (.node o u r)) (DA (Nat.sub (Nat.div k 2) 1) v fun u=>c (.node o l u)))) t
theorem AY:∀(t:aV α)(k:Nat)(v:α)(c:aV α→β),xp t k v c=c (t.set k v)
 |.nil,k,v,c=>Fs k k v c
 |.node o l r,k,v,c=>by
  show cond (Nat.beq k 0) (c (.node (some v) l r)) (cond (Nat.beq (k%2) 1) (xp l (k/2) v fun u=>c (.node o u r)) (xp r (k/2-1) v fun u=>c (.node o l u))) =
   c (cond (Nat.beq k 0) (.node (some v) l r) (cond (Nat.beq (k%2) 1) (.node o (l.set (k/2) v) r) (.node o l (r.set (k/2-1) v))))
  rw [AY l,AY r];cases Nat.beq k 0<;>cases Nat.beq (k%2) 1<;>rfl
def AZ(f:α→(α→β)→β)(t:aV α):Nat→(aV α→β)→β :=
 aV.rec (motive:=fun _=>Nat→(aV α→β)→β) (fun _ c=>c .nil)
  (fun o l r aG cF k c=>cond (Nat.beq k 0) (Option.rec (motive:=fun _=>β) (c (.node none l r)) (fun b=>f b fun b=>c (.node (some b) l r)) o) (cond (Nat.beq (Nat.mod k 2) 1) (aG (Nat.div k 2) fun u=>c (.node o u r)) (cF (Nat.sub (Nat.div k 2) 1) fun u=>c (.node o l u)))) t
theorem Ft{f:α→(α→β)→β}(aZ:∀a k,f a k=k a):∀(t:aV α)(k:Nat)(c:aV α→β),AZ f t k c=c t
 |.nil,k,c=>rfl
 |.node o l r,k,c=>by show cond (Nat.beq k 0) (Option.rec (motive:=fun _=>β) (c (.node none l r)) (fun b=>f b fun b=>c (.node (some b) l r)) o) (cond (Nat.beq (k%2) 1) (AZ f l (k/2) fun u=>c (.node o u r)) (AZ f r (k/2-1) fun u=>c (.node o l u)))=_;rw [Ft aZ l,Ft aZ r];cases o<;>cases Nat.beq k 0<;>cases Nat.beq (k%2) 1<;>simp [aZ]
end
def uU(s:aV aa)(d:Option Tmp)(v:aa)(k:aV aa→β):β:=Option.rec (motive:=fun _=>β) (k s) (fun d=>xp s d v k) d
theorem UK(n:Nat)(s:aV aa)(d:Option Tmp)(v:aa)(k:aV aa→β):uU s d v k=k (Option.rec (motive:=fun _=>aV aa) s (fun d=>s.set d v) d):=by cases d<;>simp [uU,AY]
theorem A0(n:Nat)(s:aV aa)(d:Option Tmp)(v:aa):fX n (Option.rec (motive:=fun _=>aV aa) s (fun d=>s.set d v) d)=hM (fX n s) d v:=by cases d<;>simp [hM,UJ]
def Fu(id:Nat)(h:J)(k:J→β):β :=
 match h with
 |⟨n,l⟩=>AZ Fq l id fun l=>k ⟨n,l⟩
theorem UL(id:Nat)(h:J)(k:J→β):Fu id h k=k h:=by cases h;simp [Fu,Ft UI]
def Fv(h:J)(k:J→β):β :=
 match h with
 |⟨n,l⟩=>gL n fun n=>k ⟨n,l⟩
theorem UM(h:J)(k:J→β):Fv h k=k h:=by cases h;simp [Fv,ng]
inductive Fw where
 |no|at (id:Nat)|all
def A1(t:Fw)(h:J)(k:J→β):β :=
 match t with
 |.no=>k h
 |.at id=>Fu id h k
 |.all=>Fv h k
theorem UN(t:Fw)(h:J)(k:J→β):A1 t h k=k h:=by cases t<;>simp [A1,UL,UM]
def L0(v:aa)(k:aa→β):β :=
 match v with
 |.undef=>k .undef
 |.bool b=>k (.bool b)
 |.int d n=>k (.int d n)
 |.str s=>k (.str s)
 |.ptr a=>k (.ptr a)
 |.slice a n c=>k (.slice a n c)
 |.nilFunc=>k .nilFunc
 |.nilIface=>k .nilIface
 |.func a b c=>k (.func a b c)
 |.iface t v=>k (.iface t v)
 |.agg l=>k (.agg l)
 |.tuple l=>k (.tuple l)
theorem UO(v:aa)(k:aa→β):L0 v k=k v:=by cases v<;>rfl
def shallow(o:Op):Bool :=
 match o with
 |.move (.tmp _)|.assign (.tmp _)|.pick _ (.tmp _) (.tmp _)|.extract _ _|.load _ _=>true
 |.call c=>match c.callee with|.value _=>true|_=>false
 |_=>false
def A2(o:Op)(v:aa)(k:aa→β):β:=cond (shallow o) (L0 v k) (xn v k)
theorem UP(o:Op)(v:aa)(k:aa→β):A2 o v k=k v:=by unfold A2;cases shallow o<;>simp [UO,Fp]
end
def L1(nid:Nat)(ρ:Operand→aa)(o:Op)(v:aa):Fw :=
 match o with
 |.alloc _|.box _ _|.buildSlice _ _ _|.makeSlice _ _ _=> .at nid
 |.store _ a _=>match ρ a with|.ptr (some a)=> .at a.id|_=> .no
 |.call c =>
  match c.callee with
  |.value _=> .all
  |.builtin .append=>match v with|.slice (some a) _ _=> .at a.id|_=> .no
  |_=> .no
 |.convert _ _ _=>match v with|.slice (some a) _ _=> .at a.id|_=> .no
 |_=> .no
section
variable {E:bY}
def xq(ops:Array Oper)(n:Nat)(s:aV aa)(o:Oper):Option Bool :=
 match o.guard with
 |none=>some true
 |some (j,want) =>
  match (ops[j]?).bind (·.dst)with
  |some d =>
   match AW n s d with
   |some (.bool b)=>some (b == want)
   |some (.tuple [])=>some false
   |_=>none
  |none=>none
theorem L2(ops:Array Oper)(n:Nat)(s:aV aa)(o:Oper):xq ops n s o=jw ops (fX n s) o:=by unfold xq jw;simp only [LZ];rfl
structure ir where
 e3:aV aa
 heap:J
def ir.to(n:Nat)(s:ir):fr:=⟨fX n s.e3,s.heap⟩
def rE(E:bY)(call:dV)(ops:Array Oper)(draw:Bool)(n ap:Nat)(l:List Oper):Nat→aV aa→J→Option ir :=
 List.rec (motive:=fun _=>Nat→aV aa→J→Option ir) (fun _ s h=>some ⟨s,h⟩)
  (fun o _ ih i s h =>
   match xq ops n s o with
   |some true =>
    match (cond draw (fB E call ops ap i (ml n s) h o.op) (jv E call (Nat.add ap i) (ml n s) h o.op))with
    |some (v,ag)=>A2 o.op v fun v=>A1 (L1 (Nat.add ap i) (ml n s) o.op v) ag fun ag=>uU s o.dst v fun bG=>ih (Nat.succ i) bG ag
    |none=>none
   |some false=>uU s o.dst gg fun bG=>ih (Nat.succ i) bG h
   |none=>none) l
theorem L3(call:dV)(ops:Array Oper)(draw:Bool)(n ap i:Nat)(s:aV aa)(h:J)(o:Oper)(r:List Oper):rE E call ops draw n ap (o::r) i s h =
 match xq ops n s o with
 |some true =>
  match (cond draw (fB E call ops ap i (ml n s) h o.op) (jv E call (ap+i) (ml n s) h o.op))with
  |some (v,ag)=>rE E call ops draw n ap r (i+1) (Option.rec (motive:=fun _=>aV aa) s (fun d=>s.set d v) o.dst) ag
  |none=>none
 |some false=>rE E call ops draw n ap r (i+1) (Option.rec (motive:=fun _=>aV aa) s (fun d=>s.set d gg) o.dst) h
 |none=>none:=by
 show (match xq ops n s o with
  |some true =>
   match (cond draw (fB E call ops ap i (ml n s) h o.op) (jv E call (ap+i) (ml n s) h o.op))with
   |some (v,ag)=>A2 o.op v fun v=>A1 (L1 (ap+i) (ml n s) o.op v) ag fun ag=>uU s o.dst v fun bG=>rE E call ops draw n ap r (i+1) bG ag
   |none=>none
  |some false=>uU s o.dst gg fun bG=>rE E call ops draw n ap r (i+1) bG h
  |none=>none)=_
 simp only [UP,UN,UK n]
theorem Fx{call:dV}{ops:Array Oper}{n ap:Nat} :∀(l:List Oper)(i:Nat)(s:aV aa)(h:J),(∀j,l[j]? =ops[i+j]?) →
 (rE E call ops false n ap l i s h).map (ir.to n)=oQ E call ops ap (List.range' i l.length) ⟨fX n s,h⟩
 |[],i,s,h,_=>rfl
 |o ::r,i,s,h,aC=>by
  have ao:ops[i]? =some o:=by have:=aC 0;simpa using this.symm
  have bc:∀j,r[j]? =ops[i+1+j]? :=fun j=>by have:=aC (j+1);simp at this;rw [this];congr 1;omega
  rw [L3];simp only [List.length_cons,List.range'_succ,oQ,ra,ao,L2,xo,cond_false];cases hw:jw ops (fX n s) o with
  |none=>rfl
  |some b =>
   cases b with
   |true =>
    simp only;cases aT:jv E call (ap+i) (de (fX n s)) h o.op with
    |none=>rfl
    |some p =>
     obtain⟨v,ag⟩:=p;simp only;rw [Fx r (i+1) _ _ bc,A0]
   |false =>
    simp only;rw [Fx r (i+1) _ _ bc,A0]
theorem Fy{call:dV}{ops:Array Oper}{n ap:Nat} :∀(l:List Oper)(i:Nat)(s:aV aa)(h:J),(∀j,l[j]? =ops[i+j]?) →
 (rE E call ops true n ap l i s h).map (ir.to n)=kq E call ops ap (List.range' i l.length) ⟨fX n s,h⟩
 |[],i,s,h,_=>rfl
 |o ::r,i,s,h,aC=>by
  have ao:ops[i]? =some o:=by have:=aC 0;simpa using this.symm
  have bc:∀j,r[j]? =ops[i+1+j]? :=fun j=>by have:=aC (j+1);simp at this;rw [this];congr 1;omega
  rw [L3];simp only [List.length_cons,List.range'_succ,kq,l6,ao,L2,xo,cond_true];cases hw:jw ops (fX n s) o with
  |none=>rfl
  |some b =>
   cases b with
   |true =>
    simp only;cases aT:fB E call ops ap i (de (fX n s)) h o.op with
    |none=>rfl
    |some p =>
     obtain⟨v,ag⟩:=p;simp only;rw [Fy r (i+1) _ _ bc,A0]
   |false =>
    simp only;rw [Fy r (i+1) _ _ bc,A0]
def xr(E:bY)(call:dV)(ops:Array Oper)(draw:Bool)(n:Nat)(s:ir):Option ir :=
 match s with
 |⟨s,⟨ap,l⟩⟩=>cond (!draw || oR ops) (gL (Nat.add ap ops.size) fun m=>rE E call ops draw n ap ops.toList 0 s ⟨m,l⟩) none
theorem UQ(call:dV)(ops:Array Oper)(draw:Bool)(n:Nat)(s:ir):(xr E call ops draw n s).map (ir.to n)=sK E call ops draw (s.to n):=by
 obtain⟨s,ap,l⟩:=s;have aC:∀j:Nat,ops.toList[j]? =ops[0+j]? :=fun j=> aM
 have bc:List.range ops.size=List.range' 0 ops.toList.length:=by rw [List.range_eq_range',Array.length_toList]
 unfold xr sK;cases draw with
 |false=>simp only [Bool.not_false,Bool.true_or,cond_true,ng,Bool.false_eq_true,if_false,Fx _ _ _ _ aC,bc,ir.to,Nat.add_eq]
 |true =>
  cases aE:oR ops with
  |false=>simp
  |true=>simp only [Bool.not_true,Bool.false_or,aE,cond_true,if_true,ng,Fy _ _ _ _ aC,bc,ir.to,Nat.add_eq]
def jS(E:bY)(call:dV)(n dl:Nat):Option Code→Code→ir→Option (cW×ir) :=
 Nat.rec (motive:=fun _=>Option Code→Code→ir→Option (cW×ir)) (fun _ _ _=>none)
 (fun m ih b c s =>
 match b with
 |some body =>
  match ih none c s with
  |some (.goto l,bG) =>
   match findLabel body l with
   |some rest=>ih (some body) rest bG
   |none=>some (.goto l,bG)
  |r=>r
 |none =>
  match c with
  |.skip=>some (.normal,s)
  |.label _=>some (.normal,s)
  |.region _ ops draw =>
   match xr E call ops draw n s with
   |some bG=>some (.normal,bG)
   |none=>none
  |.seq a b =>
   match ih none a s with
   |some (.normal,bG)=>ih none b bG
   |r=>r
  |.cond x a b =>
   match ml n s.e3 x with
   |.bool true=>ih none a s
   |.bool false=>ih none b s
   |_=>none
  |.block id c =>
   match ih none c s with
   |some (.exit j,bG)=>some (if j=id then .normal else .exit j,bG)
   |r=>r
  |.loop c =>
   match ih none c s with
   |some (.normal,bG)=>ih none (.loop c) bG
   |r=>r
  |.scope c=>ih (some c) c s
  |.goto l=>some (.goto l,s)
  |.exit id=>some (.exit id,s)
  |.ret=>some (.ret,s)
  |_=>none) dl
def qb(n:Nat)(p:cW×ir):cW×fr:=(p.1,p.2.to n)
theorem UR(call:dV)(k:Nat):∀(n:Nat)(b:Option Code)(c:Code)(s:ir),(jS E call k n b c s).map (qb k)=e4 E call n b c (s.to k):=by
 intro n;induction n with
 |zero=>intro b c s;rfl
 |succ n ih =>
  intro b c s;cases b with
  |some body =>
   show Option.map (qb k) (match jS E call k n none c s with
    |some (.goto l,bG) =>
     match findLabel body l with
     |some rest=>jS E call k n (some body) rest bG
     |none=>some (.goto l,bG)
    |r=>r)=_
   simp only [e4,←ih];cases aj:jS E call k n none c s with
   |none=>rfl
   |some p =>
    obtain⟨e,bG⟩:=p;cases e with
    |goto l =>
     simp only [Option.map_some,qb];cases aZ:findLabel body l with
     |none=>rfl
     |some rest=>simp only [aZ];exact ih (some body) rest bG
    |_=>rfl
  |none =>
   cases c
   case region id ops draw =>
    show Option.map (qb k) (match xr E call ops draw k s with
     |some bG=>some (.normal,bG)
     |none=>none)=_
    simp only [e4,←UQ];cases xr E call ops draw k s<;>rfl
   case seq a b =>
    show Option.map (qb k) (match jS E call k n none a s with
     |some (.normal,bG)=>jS E call k n none b bG
     |r=>r)=_
    simp only [e4,←ih];cases aj:jS E call k n none a s with
    |none=>rfl
    |some p=>obtain⟨e,bG⟩:=p;cases e<;>first|exact ih none b bG|rfl
   case cond x a b =>
    show Option.map (qb k) (match ml k s.e3 x with
     |.bool true=>jS E call k n none a s
     |.bool false=>jS E call k n none b s
     |_=>none)=_
    simp only [e4,←ih,xo];have he:de (s.to k).e3 x=de (fX k s.e3) x:=rfl;rw [he];cases de (fX k s.e3) x with
    |bool t=>cases t<;>rfl
    |_=>rfl
   case block id c =>
    show Option.map (qb k) (match jS E call k n none c s with
     |some (.exit j,bG)=>some (if j=id then .normal else .exit j,bG)
     |r=>r)=_
    simp only [e4,←ih];cases aj:jS E call k n none c s with
    |none=>rfl
    |some p=>obtain⟨e,bG⟩:=p;cases e<;>rfl
   case loop c =>
    show Option.map (qb k) (match jS E call k n none c s with
     |some (.normal,bG)=>jS E call k n none (.loop c) bG
     |r=>r)=_
    simp only [e4,←ih];cases aj:jS E call k n none c s with
    |none=>rfl
    |some p=>obtain⟨e,bG⟩:=p;cases e<;>first|exact ih none (.loop c) bG|rfl
   case scope c=>exact ih (some c) c s
   all_goals rfl
def xt:List aa→Nat→aV aa→(aV aa→Option (aa×J))→Option (aa×J)
 |[],_,t,k=>k t
 |v::r,i,t,k=>xn v fun v=>xp t i v fun t=>xt r (Nat.succ i) t k
theorem L4:∀(l:List aa)(i:Nat)(t:aV aa) (k:aV aa→Option (aa×J)),
 ∃eQ,xt l i t k=k eQ∧∀j,eQ.get j=if j<i then t.get j else if h:j-i<l.length then some l[j-i]else t.get j
 |[],i,t,k=>⟨t,rfl,fun j=> aM⟩
 |v ::r,i,t,k=>by
  obtain⟨eQ,ac,ai⟩:=L4 r (i+1) (t.set i v) k;refine⟨eQ,by simp only [xt,Fp,AY];exact ac,fun j=> ?_⟩;rw [ai j,aV.kQ];by_cases a1:j<i
  ·rw [if_pos ab,if_neg ab,if_pos a1]
  ·rw [if_neg a1];by_cases he:i=j
   ·subst he;rw [if_pos ab,if_pos rfl];simp
   ·rw [if_neg ab,if_neg he];by_cases aC:j- (i+1)<r.length
    ·rw [dif_pos aC,dif_pos (by simp;omega)];obtain⟨m,hm⟩:∃m,j-i=m+1:=⟨j-i-1,ab⟩
     have mc:j- (i+1)=m:= ab;simp only [hm,mc,List.getElem_cons_succ]
    ·rw [dif_neg aC,dif_neg (by simp;omega)]
theorem US{l:List aa}{m:Nat}{t:aV aa}(h:∀j,t.get j=if j<0 then(aV.nil:aV aa).get j else if h:j-0<l.length then some l[j-0]else(aV.nil:aV aa).get j) :
 fX (l.length+(m-l.length)) t=l++List.replicate (m-l.length) gg:=by
 apply List.ext_getElem?;intro i;rw [AV,h i,if_neg (Nat.not_lt_zero i)];simp only [Nat.sub_zero,aV.oI];by_cases aq:i<l.length
 ·rw [if_pos ab,dif_pos aq,List.getElem?_append_left aq,List.getElem?_eq_getElem aq];rfl
 ·rw [dif_neg aq,List.getElem?_append_right ab,List.getElem?_replicate];by_cases aR:i<l.length+(m-l.length)
  ·rw [if_pos aR,if_pos ab];rfl
  ·rw [if_neg aR,if_neg ab]
def rF(D:dH)(n:Nat)(dR:List ResultVar)(s:ir):Option (List aa) :=
 match dR with
 |[]=>some []
 |.tmp t::r=>(rF D n r s).map fun l=>ml n s.e3 (.tmp t)::l
 |.cell a t::r =>
  match ml n s.e3 (.tmp a)with
  |.ptr (some p) =>
   match bM D t p s.heap,rF D n r s with
   |some v,some l=>some (v::l)
   |_,_=>none
  |_=>none
theorem A3(D:dH)(n:Nat)(s:ir):∀(dR:List ResultVar),rF D n dR s=jx D dR (s.to n)
 |[]=>rfl
 |.tmp t::r=>by simp only [rF,jx,A3 D n s r,xo];rfl
 |.cell a t::r=>by simp only [rF,jx,A3 D n s r,xo];rfl
def A4(r:Option (aa×J)):Option (aa×J) :=
 match r with
 |some (v,⟨n,l⟩)=>gL n fun n=>xn v fun v=>some (v,⟨n,l⟩)
 |none=>none
theorem UT(r:Option (aa×J)):A4 r=r:=by
 cases r with
 |none=>rfl
 |some p=>obtain⟨v,n,l⟩:=p;simp [A4,ng,Fp]
def n6(P:Program)(E:bY)(dl:Nat):dV :=
 Nat.rec (motive:=fun _=>dV) (fun _ _ _=>none)
 (fun n ih f args h =>
  match E.um f with
  |some g=>g args h
  |none =>
  match P.funcs[f]? with
  |some fn =>
   match fn.body with
   |some c =>
    gL (args.length+(fn.ntmps-args.length)) fun k=>xt args 0 .nil fun pS =>
    match jS E ih k n none c ⟨pS,h⟩with
    |some (.exit _,_)=>none
    |some (.goto _,_)=>none
    |some (_,s) =>
     match rF E.D k fn.results.toList s with
     |some l=>A4 (some (mS l,s.heap))
     |none=>none
    |none=>none
   |none=>none
  |none=>none) dl
theorem xu(P:Program)(E:bY):∀(n:Nat),n6 P E n=l7 P E n:=by
 intro n;induction n with
 |zero=>rfl
 |succ n ih =>
  funext f args h
  show(match E.um f with
  |some g=>g args h
  |none =>
  match P.funcs[f]? with
  |some fn =>
   match fn.body with
   |some c =>
    gL (args.length+(fn.ntmps-args.length)) fun k=>xt args 0 .nil fun pS =>
    match jS E (n6 P E n) k n none c ⟨pS,h⟩with
    |some (.exit _,_)=>none
    |some (.goto _,_)=>none
    |some (_,s) =>
     match rF E.D k fn.results.toList s with
     |some l=>A4 (some (mS l,s.heap))
     |none=>none
    |none=>none
   |none=>none
  |none=>none)=_
  simp only [l7,ih,ng,UT];cases E.um f with
  |some g=>rfl
  |none =>
  simp only;cases aZ:P.funcs[f]? with
  |none=>rfl
  |some fn =>
   simp only;cases fn.body with
   |none=>rfl
   |some c =>
    simp only
    obtain⟨t,ac,ai⟩:=L4 args 0 .nil fun pS =>
     match jS E (l7 P E n) (args.length+(fn.ntmps-args.length)) n none c ⟨pS,h⟩with
     |some (.exit _,_)=>none
     |some (.goto _,_)=>none
     |some (_,s) =>
      match rF E.D (args.length+(fn.ntmps-args.length)) fn.results.toList s with
      |some l=>some (mS l,s.heap)
      |none=>none
     |none=>none
    rw [ac]
    have hs:(ir.mk t h).to (args.length+(fn.ntmps-args.length))=⟨args++List.replicate (fn.ntmps-args.length) gg,h⟩:=by simp only [ir.to,US ai]
    have aj:=UR (E:=E) (l7 P E n) (args.length+(fn.ntmps-args.length)) n none c ⟨t,h⟩;rw [hs]at aj;rw [←aj];cases bV:jS E (l7 P E n) (args.length+(fn.ntmps-args.length)) n none c ⟨t,h⟩with
    |none=>rfl
    |some p =>
     obtain⟨e,s⟩:=p;simp only [Option.map_some,qb];cases e with
     |exit id=>rfl
     |goto l=>rfl
     |normal=>simp only [A3];cases jx E.D fn.results.toList (s.to (args.length+(fn.ntmps-args.length)))<;>rfl
     |ret=>simp only [A3];cases jx E.D fn.results.toList (s.to (args.length+(fn.ntmps-args.length)))<;>rfl
theorem UU{P:Program}{E:bY}{n:Nat}{f:FuncId}{args:List aa}{h:J}(k:AQ (n6 P E n f args h)=true):∃ag,l7 P E n f args h=some (.bool true,ag):=by rw [xu]at k;exact Uu k
end
end
end Go.cf
namespace Go.cf
noncomputable section
abbrev bJ:=List (Nat×aa)
def hc:bJ→Nat→Option aa
 |[],_=>none
 |(k,v)::r,t=>cond (Nat.beq k t) (some v) (hc r t)
def xv(t:Nat):bJ→bJ
 |[]=> []
 |(k,v)::r=>cond (Nat.beq k t) (xv t r) ((k,v)::xv t r)
def A5(F:bJ)(d:Option Tmp)(v:aa):bJ :=
 match d with
 |some d=>(d,v)::xv d F
 |none=>F
def qc(F:bJ):List Nat→bJ
 |[]=> []
 |t::r=>match hc F t with|some v=>(t,v)::qc F r|none=>qc F r
def Has(F:bJ)(s:List aa):Prop:= ∀t v,hc F t=some v→s[t]? =some v
theorem n7(a b:Nat):(a=b∧Nat.beq a b=true)∨(a≠b∧Nat.beq a b=false):=by
 by_cases h:a=b
 ·exact .inl ⟨h,beq_true h⟩
 ·exact .inr ⟨h,beq_false h⟩
theorem k3(k:Nat)(v:aa)(r:bJ)(t:Nat):hc ((k,v)::r) t=if k=t then some v else hc r t:=by simp only [hc];rcases n7 k t with ⟨h,e⟩|⟨h,e⟩<;>simp [h,e]
theorem Fz(d t:Nat)(h:d≠t):∀(F:bJ),hc (xv d F) t=hc F t
 |[]=>rfl
 |(k,v)::r=>by
  simp only [xv];rcases n7 k d with ⟨au,e⟩|⟨au,e⟩
  ·rw [e,cond_true,k3,if_neg ab,Fz d t h r]
  ·rw [e,cond_false,k3,k3,Fz d t h r]
theorem Has.set{F:bJ}{s:List aa}(hs:Has F s){d:Option Tmp}(aE:∀t,d=some t→t<s.length)(v:aa):Has (A5 F d v) (hM s d v):=by
 cases d with
 |none=>exact hs
 |some d =>
  intro t u hu;have gk:=aE d rfl;simp only [A5,k3]at hu;simp only [hM,List.getElem?_set];by_cases h:d=t
  ·subst h;rw [if_pos rfl]at hu;rw [if_pos rfl,if_pos gk];exact hu
  ·rw [if_neg h,Fz d t h]at hu;rw [if_neg h];exact hs t u hu
theorem xw{F:bJ}{t:Nat}{v:aa} :∀{l:List Nat},hc (qc F l) t=some v→hc F t=some v
 |[],h=>by cases h
 |k ::r,h=>by
  simp only [qc]at h;split at h
  ·rename_i u hu;rw [k3]at h;split at h
   ·rename_i e;subst e;rw [hu];exact h
   ·exact xw h
  ·exact xw h
theorem Has.only{F:bJ}{s:List aa}(hs:Has F s)(l:List Nat):Has (qc F l) s:=fun t v h=>hs t v (xw h)
def bD(F:bJ):Operand→aa
 |.tmp t=>match hc F t with|some v=>v|none=> .undef
 |.const v=>q5 v
 |.global _=> .undef
 |.func f=> .func (.func f) [] []
def uV(F:bJ):Operand→Bool
 |.tmp t=>match hc F t with|some _=>true|none=>false
 |_=>true
theorem Has.get{F:bJ}{s:List aa}(hs:Has F s){o:Operand}(au:uV F o=true):bD F o=de s o:=by
 cases o with
 |tmp t =>
  simp only [uV]at au;split at au
  ·rename_i v bh;simp only [bD,de,bh,List.getD_eq_getElem?_getD,hs t v bh,Option.getD_some]
  ·cases au
 |const v=>rfl
 |global g=>rfl
 |func f=>rfl
def FA(ops:Array Oper)(F:bJ)(o:Oper):Option Bool :=
 match o.guard with
 |none=>some true
 |some (j,want) =>
  match (ops[j]?).bind (·.dst)with
  |some d =>
   match hc F d with
   |some (.bool b)=>some (b == want)
   |some (.tuple [])=>some false
   |_=>none
  |none=>none
theorem L5{ops:Array Oper}{F:bJ}{s:List aa}(hs:Has F s){o:Oper}{b:Bool}(h:FA ops F o=some b):jw ops s o=some b:=by
 unfold FA at h;unfold jw;split at h
 ·rename_i ak;simp only [ak];exact h
 ·rename_i j want ak;simp only [ak];split at h
  ·rename_i d aE;simp only [aE];split at h
   ·rename_i jc ax;simp only [hs _ _ ax];exact h
   ·rename_i ax;simp only [hs _ _ ax];exact h
   ·cases h
  ·cases h
inductive Hint where
 |val (i:Nat) (v:aa)
 |act (i:Nat) (v:aa) (g:J→J)
 |FB (i:Nat) (v:aa) (g:J→J)
 |k4 (i:Nat) (v:aa)
 |go (i:Nat)
 |iJ (i:Nat) (e:aa)
 |iK (i:Nat) (e:aa)
 |guard (i:Nat) (b:Bool)
 |test (t:Nat) (b:Bool)
 |keep (l:List Nat)
 |loop (F:bJ) (h:J) (e:cW)
 |cut (F:bJ) (h:J) (e:cW)
 |cell (v:aa)
 |mm (i:Nat) (v:aa) (g:J→J)
 |run (i m:Nat)
 |L6 (i m:Nat)
 |rounds (n:Nat)
 |enter (i:Nat)
def dF:dV:=fun _ _ _=>none
structure L7(P:Program)(C:(Nat→Prop)→World→Prop)(f:FuncId)(args:List aa)(h:J)(v:aa)(ag:J):Prop where
 UW:b1 P C f args h v ag
structure hP where
 f:FuncId
 args:List aa
 h:J
 v:aa
 ag:J
def hP.holds(call:dV)(k:hP):Prop:=call k.f k.args k.h=some (k.v,k.ag)
abbrev L8(n:Int):Prop:= -9223372036854775808≤n∧n≤9223372036854775807
def h'(k:IntKind)(n:Int):Prop :=
 match k with
 |.i64=>L8 n
 |.i8=> -128≤n∧n≤127
 |.i32=> -2147483648≤n∧n≤2147483647
 |.u8=>0≤n∧n≤255
 |k=>k.min≤n∧n≤k.max
theorem qd{k:IntKind}{n:Int}(h:h' k n):k.wrap n=n:=by cases k<;>simp only [h',L8,IntKind.min,IntKind.max,IntKind.signed,IntKind.bits,IntKind.wrap]at h⊢ <;>simp at h⊢ <;>omega
def bp(k:IntKind)(x y:Int):Int:=k.wrap (BitVec.ofInt k.bits x &&& BitVec.ofInt k.bits y).toNat
def b2(k:IntKind)(x y:Int):Int:=k.wrap (BitVec.ofInt k.bits x ||| BitVec.ofInt k.bits y).toNat
def A6(k:IntKind)(x y:Int):Int:=k.wrap (BitVec.ofInt k.bits x ^^^ BitVec.ofInt k.bits y).toNat
def dO(k:IntKind)(x y:Int):Int:=k.wrap (BitVec.ofInt k.bits x &&& ~~~(BitVec.ofInt k.bits y)).toNat
def eZ(k:IntKind)(x y:Int):Int:=k.wrap (x*2^(min y.toNat k.bits))
def bw(k:IntKind)(x y:Int):Int:=x.fdiv (2^(min y.toNat k.bits))
section
variable(P:Program)(E:bY)
def FC(nid:Nat)(ρ:Operand→aa)(h:J)(o:Op):Option (aa×J×Prop) :=
 match o with
 |.binOp op t x y _ =>
  match ρ x,ρ y with
  |.int k a,.int e6 b =>
   match op with
   |.shl=>some (.int k (eZ k a b),h,0≤b)
   |.shr=>some (.int k (bw k a b),h,0≤b)
   |_ =>
   match decEq k e6 with
   |isTrue _ =>
    match op with
    |.and=>some (.int k (bp k a b),h,True)
    |.or=>some (.int k (b2 k a b),h,True)
    |.xor=>some (.int k (A6 k a b),h,True)
    |.andNot=>some (.int k (dO k a b),h,True)
    |.add=>some (.int k (a+b),h,h' k (a+b))
    |.sub=>some (.int k (a-b),h,h' k (a-b))
    |.mul=>some (.int k (a*b),h,h' k (a*b))
    |.quo=>some (.int k (a.tdiv b),h,b≠0∧h' k (a.tdiv b))
    |.rem=>some (.int k (a.tmod b),h,b≠0)
    |_=>none
   |isFalse _=>none
  |.str a,.str b =>
   match op with
   |.add=>some (.str (a++b),h,a.length+b.length<2^62)
   |_=>none
  |_,_=>none
 |.unOp op t x =>
  match op,ρ x with
  |.xor,.int k n=>some (.int k (A6 k (if k.signed then-1 else k.max) n),h,True)
  |.neg,.int k n=>some (.int k (0-n),h,h' k (0-n))
  |_,_=>none
 |.index t x i =>
  match E.D t,ρ x,ρ i with
  |some d,.str s,.int _ i =>
   match d.kind with
   |.string=>some (.int .u8 (s.getD i.toNat 0).toNat,h,0≤i∧i<s.length)
   |_=>none
  |_,_,_=>none
 |.slice t x bb aq mx =>
  match mx with
  |some _=>none
  |none =>
   match E.D t,ρ x with
   |some d,.str s =>
    match d.kind with
    |.string =>
     match bb.map ρ,aq.map ρ with
     |none,none=>some (.str s,h,True)
     |some (.int _ l),none=>some (.str (s.drop l.toNat),h,0≤l∧l≤s.length)
     |none,some (.int _ u)=>some (.str (s.take u.toNat),h,0≤u∧u≤s.length)
     |some (.int _ l),some (.int _ u)=>some (.str ((s.take u.toNat).drop l.toNat),h,0≤l∧l≤u∧u≤s.length)
     |_,_=>none
    |_=>none
   |some d,.slice (some a) len cap =>
    match d.kind with
    |.slice e =>
     match E.D e with
     |some cJ =>
      cond (Nat.beq a.fld 0&&Nat.beq a.es cJ.size)
      (match bb.map ρ,aq.map ρ with
      |none,none=>some (.slice (some a) len cap,h,len≤cap)
      |some (.int _ l),none=>some (.slice (some {a with idx:=a.idx+l.toNat}) (len-l.toNat) (cap-l.toNat),h,0≤l∧l≤len∧len≤cap)
      |none,some (.int _ u)=>some (.slice (some a) u.toNat cap,h,0≤u∧u≤cap)
      |some (.int _ l),some (.int _ u)=>some (.slice (some {a with idx:=a.idx+l.toNat}) (u.toNat-l.toNat) (cap-l.toNat),h,0≤l∧l≤u∧u≤cap)
      |_,_=>none) none
     |none=>none
    |_=>none
   |_,_=>none
 |.indexAddr t x i =>
  match E.D t,ρ x,ρ i with
  |some d,.slice (some a) len _,.int _ i =>
   match d.kind with
   |.slice e =>
    match E.D e with
    |some cJ=>cond (Nat.beq a.fld 0&&Nat.beq a.es cJ.size) (some (.ptr (some {a with idx:=a.idx+i.toNat}),h,0≤i∧i<len)) none
    |none=>none
   |_=>none
  |_,_,_=>none
 |.convert s d x =>
  match E.D s,E.D d,ρ x with
  |some _,some gq,.int _ n=>match gq.kind with|.int k=>some (.int k n,h,h' k n)|_=>none
  |_,_,_=>none
 |.call c =>
  match c.callee with
  |.builtin .append =>
   match c.args.toList.map ρ,c.argTypes[0]?,c.argTypes[1]? with
   |[.slice (some a) len cap,x],some t,some u =>
    match E.D u,E.D t,h.get a.id with
    |some lo,some d,some b =>
     match d.kind with
     |.slice e =>
      match E.D e with
      |some cJ =>
       match fU cJ.size x h with
       |some (a6::bH) =>
        cond ((match lo.kind with|.slice _=>true|.string=>true|_=>false)&&Nat.blt 0 cJ.size&&cJ.ul&&Nat.beq a.fld 0&&Nat.beq a.es cJ.size&&!b.exact&&!b.ro&&(match b.ty with|none=>true|some q=>Nat.beq q.1 e&&Nat.beq q.2 0))
         (some (.slice (some {a with ad:=a.ad+1}) (len+(a6::bH).length) (len+(a6::bH).length),h.set a.id (b.grow (a6::bH)),
          a.ad=b.ad∧a.idx+len=b.bk.length∧cap<len+(a6::bH).length∧(len+(a6::bH).length+(len+(a6::bH).length)/4+512)*cJ.bytes≤2^48∧len+(a6::bH).length<2^62)) none
       |_=>none
      |none=>none
     |_=>none
    |_,_,_=>none
   |_,_,_=>none
  |_=>none
 |.makeSlice t l c =>
  match E.D t,ρ l,ρ c with
  |some d, .int _ l,.int _ c =>
   match d.kind with
   |.slice e =>
    match E.D e with
    |some x =>
     match x.zero with
     |some z =>
      cond (Nat.blt 0 x.size&&z.fits x.kind.isAgg x.size)
       (some (kb nid x.size l.toNat c.toNat,h.set nid (.an (List.replicate c.toNat z) x.size true),0≤l∧l≤c∧c<2^62∧x.bytes*c≤2^48)) none
     |none=>none
    |none=>none
   |_=>none
  |_,_,_=>none
 |_=>none
theorem UX{nid:Nat}{ρ:Operand→aa}{h ag:J}{o:Op}{v:aa}{p:Prop}(k:FC E nid ρ h o=some (v,ag,p))(ah:p)(call:dV):bN E call nid ρ h o=some (v,ag):=by
 cases o<;>simp only [FC]at k<;>try (cases k;done)
 case binOp op t x y ty =>
  split at k
  ·rename_i aK a aP b aj bV;split at k
   ·simp only [Option.some.injEq,Prod.mk.injEq]at k;obtain⟨rfl,rfl,rfl⟩:=k;simp only [bN,aj,bV,oK,wv];rw [if_neg ab];rfl
   ·simp only [Option.some.injEq,Prod.mk.injEq]at k;obtain⟨rfl,rfl,rfl⟩:=k;simp only [bN,aj,bV,oK,wv];rw [if_neg ab];rfl
   split at k
   ·rename_i au _;subst au;simp only [bN,aj,bV,oK];split at k<;>first|(cases k;done)|(simp only [Option.some.injEq,Prod.mk.injEq]at k)
    all_goals (obtain⟨rfl,rfl,rfl⟩:=k)
    ·simp [kn,bp]
    ·simp [kn,b2]
    ·simp [kn,A6]
    ·simp [kn,dO]
    ·simp [kn,qd ah]
    ·simp [kn,qd ah]
    ·simp [kn,qd ah]
    ·simp [kn,qd ah.2,ah.1]
    ·simp [kn,ah]
   ·cases k
  ·rename_i a b aj bV;split at k
   ·simp only [Option.some.injEq,Prod.mk.injEq]at k;obtain⟨rfl,rfl,rfl⟩:=k;simp only [bN,aj,bV,oK,ww];rw [if_pos ah];rfl
   ·cases k
  ·cases k
 case unOp op t x =>
  split at k
  ·rename_i l9 n aj;simp only [Option.some.injEq,Prod.mk.injEq]at k;obtain⟨rfl,rfl,rfl⟩:=k;simp [bN,aj,wx,kn,A6]
  ·rename_i l9 n aj;simp only [Option.some.injEq,Prod.mk.injEq]at k;obtain⟨rfl,rfl,rfl⟩:=k;simp only [bN,aj,wx,qd ah];rfl
  ·cases k
 case index t x i =>
  split at k
  ·rename_i d s l9 i aE aj aq;split at k
   ·rename_i au;simp only [Option.some.injEq,Prod.mk.injEq]at k;obtain⟨rfl,rfl,rfl⟩:=k;simp only [bN,aj,aq,oM,aE,au];rw [if_pos ah.1];have cG:i.toNat<s.length:=by have:=ah.2;omega
    simp [List.getD_eq_getElem?_getD,List.getElem?_eq_getElem cG]
   ·cases k
  ·cases k
 case slice t x bb aq mx =>
  split at k
  ·cases k
  ·split at k
   ·rename_i d s aE aj;split at k
    ·rename_i au;split at k<;>first|(cases k;done)|(simp only [Option.some.injEq,Prod.mk.injEq]at k)
     all_goals (obtain⟨rfl,rfl,rfl⟩:=k)
     ·rename_i ac ai;simp [bN,aj,ac,ai,ko,aE,au,gY]
     ·rename_i aK l ac ai;simp only [bN,aj,ac,ai,ko,aE,au,gY,Option.map_none,Option.isSome_none,Bool.false_eq_true,if_false];rw [if_pos ⟨ah.1,ah.2⟩];simp
     ·rename_i aK u ac ai;simp only [bN,aj,ac,ai,ko,aE,au,gY,Option.map_none,Option.isSome_none,Bool.false_eq_true,if_false];rw [if_pos ⟨ah.1,ah.2⟩];simp
     ·rename_i aK l aP u ac ai;simp only [bN,aj,ac,ai,ko,aE,au,gY,Option.map_none,Option.isSome_none,Bool.false_eq_true,if_false];rw [if_pos ⟨ab,ah.2.2⟩];simp only;rw [if_pos ⟨ah.1,ab⟩];simp
    ·cases k
   ·rename_i d a len cap aE aj;split at k
    ·rename_i e au;split at k
     ·rename_i cJ fN;cases aB:(Nat.beq a.fld 0&&Nat.beq a.es cJ.size)with
      |false=>rw [aB]at k;cases k
      |true =>
       rw [aB,cond_true]at k;simp only [Bool.and_eq_true]at aB;have dh:=Nat.eq_of_beq_eq_true aB.1;have du:=Nat.eq_of_beq_eq_true aB.2;split at k<;>first|(cases k;done)|(simp only [Option.some.injEq,Prod.mk.injEq]at k)
       all_goals (obtain⟨rfl,rfl,rfl⟩:=k)
       ·rename_i ac ai;have:len≤cap:=ah;cases a;simp only at dh du;simp [bN,aj,ac,ai,ko,aE,au,gY,fN,dh,du]
       ·rename_i aK l ac ai;simp only [bN,aj,ac,ai,ko,aE,au,gY,fN,Option.map_none,Option.isSome_none,Bool.false_eq_true,if_false];rw [if_pos ⟨ah.1,ah.2.1⟩];simp [dh,du]
       ·rename_i aK u ac ai;simp only [bN,aj,ac,ai,ko,aE,au,gY,fN,Option.map_none,Option.isSome_none,Bool.false_eq_true,if_false];rw [if_pos ⟨ah.1,ah.2⟩];cases a;simp only at dh du;simp [dh,du]
       ·rename_i aK l aP u ac ai;simp only [bN,aj,ac,ai,ko,aE,au,gY,fN,Option.map_none,Option.isSome_none,Bool.false_eq_true,if_false];rw [if_pos ⟨ab,ah.2.2⟩];simp only;rw [if_pos ⟨ah.1,ab⟩];simp [dh,du]
     ·cases k
    ·cases k
   ·cases k
 case indexAddr t x i =>
  split at k
  ·rename_i d a len c l9 i aE aj aq;split at k
   ·rename_i e he;split at k
    ·rename_i cJ fN;cases aB:(Nat.beq a.fld 0&&Nat.beq a.es cJ.size)with
     |false=>rw [aB]at k;cases k
     |true =>
      rw [aB,cond_true]at k;simp only [Bool.and_eq_true]at aB;simp only [Option.some.injEq,Prod.mk.injEq]at k;obtain⟨rfl,rfl,rfl⟩:=k;simp only [bN,aj,aq,sG,aE,he,fN];rw [if_pos ⟨ah.1,ah.2,Nat.eq_of_beq_eq_true aB.2,Nat.eq_of_beq_eq_true aB.1⟩];rfl
    ·cases k
   ·cases k
  ·cases k
 case convert s d x =>
  split at k
  ·rename_i nR gq l9 n hs aE aj;split at k
   ·rename_i aP cn;simp only [Option.some.injEq,Prod.mk.injEq]at k;obtain⟨rfl,rfl,rfl⟩:=k;simp [bN,aj,wA,hs,aE,cn,qd ah]
   ·cases k
  ·cases k
 case call c =>
  split at k
  ·rename_i ax;split at k
   ·rename_i a len cap x t u gz bW hu;split at k
    ·rename_i lo d b mY aE ak;split at k
     ·rename_i e au;split at k
      ·rename_i cJ fN;split at k
       ·rename_i a6 bH fO;generalize fS:a6::bH=new at k fO;have bX:new≠[]:=by rw [←fS];simp
        generalize aB:((match lo.kind with|.slice _=>true|.string=>true|_=>false)&&Nat.blt 0 cJ.size&&cJ.ul&&Nat.beq a.fld 0&&Nat.beq a.es cJ.size&&!b.exact&&!b.ro&&(match b.ty with|none=>true|some q=>Nat.beq q.1 e&&Nat.beq q.2 0))=UY at k;cases UY with
        |false=>cases k
        |true =>
         rw [cond_true]at k;simp only [Option.some.injEq,Prod.mk.injEq]at k;obtain⟨rfl,rfl,rfl⟩:=k;simp only [Bool.and_eq_true,Bool.not_eq_true']at aB;obtain⟨⟨⟨⟨⟨⟨⟨dI,c2⟩,c3⟩,c4⟩,c5⟩,kZ⟩,p5⟩,o4⟩:=aB;obtain⟨ep,hb,k5,UZ,U0⟩:=ah;have dh:=Nat.eq_of_beq_eq_true c4;have du:=Nat.eq_of_beq_eq_true c5
         have kT:b.ty=none∨b.ty=some (e,0):=by
          cases U1:b.ty with
          |none=>exact .inl rfl
          |some q =>
           rw [U1]at o4;simp only [Bool.and_eq_true]at o4;exact .inr (by rw [←Nat.eq_of_beq_eq_true o4.1,←Nat.eq_of_beq_eq_true o4.2])
         have U2:hB E.D t (.slice (some a) len cap) x nid h=some (.slice (some {a with ad:=a.ad+1}) (len+new.length) (len+new.length),h.set a.id (b.grow new)):=by simp only [hB,aE,au,fN,fO];rw [if_pos ⟨Nat.blt_eq.mp c2,UZ,U0,c3⟩,if_pos ⟨du,dh⟩];simp only [ak];rw [if_neg ab,if_neg (by rw [kZ];simp),if_pos ⟨p5,ep,hb,bX,kT⟩]
         simp only [bN,ax,gz,hC,bW,hu,mY];cases EG:lo.kind<;>rw [EG]at dI<;>simp only [Bool.false_eq_true]at dI<;>exact U2
       ·cases k
      ·cases k
     ·cases k
    ·cases k
   ·cases k
  ·cases k
 case makeSlice t l c =>
  split at k
  ·rename_i d aK cQ aP ft aE aC aw;split at k
   ·rename_i e he;split at k
    ·rename_i x aj;split at k
     ·rename_i z eK;cases ax:(Nat.blt 0 x.size&&z.fits x.kind.isAgg x.size)with
      |false=>rw [ax]at k;cases k
      |true =>
       rw [ax,cond_true]at k;simp only [Option.some.injEq,Prod.mk.injEq]at k;obtain⟨rfl,rfl,rfl⟩:=k;simp only [Bool.and_eq_true]at ax;simp only [bN,aC,aw,wy,aE,he,aj,eK];rw [if_pos ⟨ah.1,ah.2.1,ah.2.2.1,ah.2.2.2,Nat.blt_eq.mp ax.1,ax.2⟩]
     ·cases k
    ·cases k
   ·cases k
  ·cases k
def FD(ρ:Operand→aa)(h:J)(o:Op)(e:aa):Option (aa×Prop) :=
 match o with
 |.load t x =>
  match ρ x with
  |.ptr (some a) =>
   match E.D t,h.get a.id with
   |some d,some b =>
    match hZ d.kind.isAgg d.size a.fld e with
    |some v=>some (v,b.elem? a.ad a.idx=some e)
    |none=>none
   |_,_=>none
  |_=>none
 |_=>none
theorem U3{nid:Nat}{ρ:Operand→aa}{h:J}{o:Op}{e v:aa}{p:Prop}(k:FD E ρ h o e=some (v,p))(ah:p)(call:dV):bN E call nid ρ h o=some (v,h):=by
 unfold FD at k;split at k
 ·rename_i t x;split at k
  ·rename_i a aT;split at k
   ·rename_i d b aE ax;split at k
    ·rename_i br bh;simp only [Option.some.injEq,Prod.mk.injEq]at k;obtain⟨rfl,rfl⟩:=k;simp [bN,aT,bM,aE,ax,ah,bh]
    ·cases k
   ·cases k
  ·cases k
 ·cases k
def stOp(ρ:Operand→aa)(h:J)(o:Op)(e:aa):Option (J×Prop) :=
 match o with
 |.store t x y =>
  match ρ x with
  |.ptr (some a) =>
   match E.D t,h.get a.id with
   |some d,some b =>
    cond ((ρ y).fits d.kind.isAgg d.size&&!b.ro)
     (match sE a.fld (ρ y) e with
     |some dS=>some (h.set a.id {b with bk:=b.bk.set a.idx dS,gd:=b.ad},a.ad=b.ad∧b.bk[a.idx]? =some e)
     |none=>none) none
   |_,_=>none
  |_=>none
 |_=>none
theorem U4{nid:Nat}{ρ:Operand→aa}{h ag:J}{o:Op}{e:aa}{p:Prop}(k:stOp E ρ h o e=some (ag,p))(ah:p)(call:dV):bN E call nid ρ h o=some (gg,ag):=by
 unfold stOp at k;split at k
 ·rename_i t x y;split at k
  ·rename_i a aT;split at k
   ·rename_i d b aE ax;cases aw:((ρ y).fits d.kind.isAgg d.size&&!b.ro)with
    |false=>rw [aw]at k;cases k
    |true =>
     rw [aw,cond_true]at k;split at k
     ·rename_i dS he;simp only [Option.some.injEq,Prod.mk.injEq]at k;obtain⟨rfl,rfl⟩:=k;simp [bN,aT,hL,aE,ax,ah.1,ah.2,he,aw]
     ·cases k
   ·cases k
  ·cases k
 ·cases k
def nh(nid:Nat)(ρ:Operand→aa)(h:J)(o:Op)(v:aa)(ag:J):Prop×List hP :=
 match o with
 |.call c =>
  match c.callee with
  |.value f=>match ρ f with|.func (.func g) fs bm=>(L7 P E.cond g (fs++c.args.toList.map ρ++bm) h v ag,[⟨g,fs++c.args.toList.map ρ++bm,h,v,ag⟩])|_=>(False,[])
  |.builtin b=>(hC E b c.argTypes (c.args.toList.map ρ) nid h=some (v,ag),[])
  |_=>(False,[])
 |o=>(bN E dF nid ρ h o=some (v,ag),[])
def jT(nid:Nat)(ρ:Operand→aa)(h:J)(o:Op)(v:aa):Prop×List hP :=
 match o with
 |.load t x=>(match ρ x with|.ptr (some a)=>bM E.D t a h=some v|_=>False,[])
 |.indexAddr t x i=>(sG E.D t (ρ x) (ρ i)=some v,[])
 |.index t x i=>(oM E.D t (ρ x) (ρ i)=some v,[])
 |.slice t x bb aq mx=>(ko E.D t (ρ x) (bb.map ρ) (aq.map ρ) (mx.map ρ)=some v,[])
 |.binOp op t x y _=>(oK E.D E.ik (oN x || oN y) op t (ρ x) (ρ y)=some v,[])
 |o=>nh P E nid ρ h o v h
def uW:Op→Bool
 |.call c=>match c.callee with|.value _=>false|_=>true
 |_=>true
theorem A7{nid:Nat}{ρ:Operand→aa}{h:J}{o:Op}(ah:uW o=true)(call:dV):bN E dF nid ρ h o=bN E call nid ρ h o:=by
 cases o
 case call c =>
  simp only [uW]at ah;cases aw:c.callee<;>simp only [aw]at ah<;>simp only [bN,aw];cases ah
 case makeFunc f a b=>cases f<;>rfl
 all_goals rfl
theorem FE{nid:Nat}{ρ:Operand→aa}{h:J}{o:Op}{v:aa}{ag:J}(k:(nh P E nid ρ h o v ag).1){call:dV}(aw:∀c∈(nh P E nid ρ h o v ag).2,c.holds call) :
 bN E call nid ρ h o=some (v,ag):=by
 cases o
 case call c =>
  simp only [nh]at k aw;split at k
  ·rename_i f aZ;simp only [aZ]at aw;split at k
   ·rename_i g fs bm ak;simp only [ak]at aw;simp only [bN,aZ,ak,oO];exact aw _ (List.mem_singleton.2 rfl)
   ·exact k.elim
  ·rename_i b ax;simp only [bN,ax];exact k
  ·exact k.elim
 all_goals exact(A7 E rfl call).symm.trans k
theorem L9{nid:Nat}{ρ:Operand→aa}{h:J}{o:Op}{v:aa}(k:(jT P E nid ρ h o v).1){call:dV}(aw:∀c∈(jT P E nid ρ h o v).2,c.holds call) :
 bN E call nid ρ h o=some (v,h):=by
 cases o
 case load t x =>
  simp only [jT]at k;split at k
  ·rename_i a aT;simp only [bN,aT,k];rfl
  ·exact k.elim
 case indexAddr t x i=>simp only [jT]at k;simp only [bN,k];rfl
 case index t x i=>simp only [jT]at k;simp only [bN,k];rfl
 case slice t x bb aq mx=>simp only [jT]at k;simp only [bN,k];rfl
 case binOp op t x y z=>simp only [jT]at k;simp only [bN,k];rfl
 all_goals exact FE P E k aw
theorem FF{nid:Nat}{ρ:Operand→aa}{h:J}{o:Op}{v:aa}{ag:J}(k:(nh P E nid ρ h o v ag).1):∀c∈(nh P E nid ρ h o v ag).2,b1 P E.cond c.f c.args c.h c.v c.ag:=by
 cases o
 case call c0 =>
  simp only [nh]at k⊢;cases dE:c0.callee with
  |value f =>
   rw [dE]at k;simp only at k⊢;cases aZ:ρ f with
   |func fn fs bm =>
    rw [aZ]at k;cases fn with
    |func g =>
     simp only at k⊢;intro c aw;simp only [List.mem_singleton]at aw;subst aw;exact k.UW
    |_=>exact k.elim
   |_=>rw [aZ]at k;exact k.elim
  |invoke r m=>rw [dE]at k;exact k.elim
  |builtin b=>intro c aw;simp at aw
 all_goals (intro c aw;simp [nh]at aw)
theorem L'{nid:Nat}{ρ:Operand→aa}{h:J}{o:Op}{v:aa}(k:(jT P E nid ρ h o v).1):∀c∈(jT P E nid ρ h o v).2,b1 P E.cond c.f c.args c.h c.v c.ag:=by
 cases o;case load t x=>intro c aw;simp [jT]at aw
 case indexAddr t x i=>intro c aw;simp [jT]at aw
 case index t x i=>intro c aw;simp [jT]at aw
 case slice t x bb aq mx=>intro c aw;simp [jT]at aw
 case binOp op t x y z=>intro c aw;simp [jT]at aw
 all_goals exact FF P E k
def bR(l:List Prop):Prop:= ∀p∈l,p
theorem bR.head{p:Prop}{l:List Prop}(h:bR (p::l)):p:=h p aM
theorem bR.tail{p:Prop}{l:List Prop}(h:bR (p::l)):bR l:=fun q aB=>h q (by simp [aB])
theorem bR.left{a b:List Prop}(h:bR (a++b)):bR a:=fun p ah=>h p (by simp [ah])
theorem bR.right{a b:List Prop}(h:bR (a++b)):bR b:=fun p ah=>h p (by simp [ah])
def iL(ops:Array Oper)(ap i:Nat)(ρ:Operand→aa)(h:J)(o:Op)(ag:J):List Prop :=
 match ek o with
 |.load=>match kp ρ o with|some b=>cond (rb ops i || (Nat.blt b ap || (Nat.blt b (ap+ops.size)&&(ordered (eb ops) (b-ap) i&&!pU ops (eb ops) i)))) [] [False]|none=> [False]
 |.store=>match nS ρ o with|some b=>cond (mR ops (eb ops) i&&Nat.blt b ap) [False] []|none=> [False]
 |.call=>cond (mR ops (eb ops) i) [pT (ap+ops.size) h ag=true] []
 |.hk=>cond (pV ops ap i (h2 ρ o)) [] [False]
 |_=> []
def FG(ap N:Nat):List Nat→List Prop
 |[]=> []
 |b::r=>(b<ap∨N≤b)::FG ap N r
def A8(ops:Array Oper)(ap:Nat)(ρ:Operand→aa)(o:Op):List Prop :=
 match ek o with
 |.load=>match kp ρ o with|some b=> [b<ap]|none=> [False]
 |.hk=>FG ap (ap+ops.size) (h2 ρ o)
 |_=> [False]
theorem Ma{ap N:Nat} :∀{l:List Nat},bR (FG ap N l)→ ∀b∈l,b<ap∨N≤b
 |[],_,b,ax=>by cases ax
 |a::r,h,b,ax=>by
  rcases List.mem_cons.1 ax with rfl|ax
  ·exact h.head
  ·exact Ma h.tail b ax
theorem Mb{ops:Array Oper}{ap i:Nat}{ρ:Operand→aa}{h ag:J}{o:Op}(k:bR (A8 ops ap ρ o)):bR (iL ops ap i ρ h o ag):=by
 unfold A8 at k;unfold iL;split at k
 ·rename_i aw;rw [aw];simp only;split at k
  ·rename_i b ax;have:Nat.blt b ap=true:=Nat.blt_eq.mpr k.head;rw [this,Bool.true_or,Bool.or_true];intro p ah;cases ah
  ·exact k.head.elim
 ·rename_i aw;rw [aw];simp only
  have:pV ops ap i (h2 ρ o)=true:=by
   unfold pV;rw [List.all_eq_true];intro b ax;rcases Ma k b ax with h|h
   ·simp [h]
   ·simp [h]
  rw [this];intro p ah;cases ah
 ·exact k.head.elim
abbrev FH:=Option (aa×J×List Hint×List Prop×List hP)
def o'(draw:Bool)(ops:Array Oper)(ap i:Nat)(F:bJ)(h:J)(o:Op)(hs:List Hint):FH :=
 cond (uW o)
  (match bN E dF (ap+i) (bD F) h o with
  |some (v,ag)=>some (v,ag,hs,cond draw (iL ops ap i (bD F) h o ag) [],[])
  |none=>cond (!draw || (ja o&&(lp ops i || jb ops ap i (bD F) o))) (match e7 E (ap+i) (bD F) h o with|some (v,ag)=>some (v,ag,hs,[],[])|none=>none) none) none
abbrev uX:=FuncId→List aa→J→List Hint→Option (aa×J×List Hint×List Prop)
def xx(fK:uX)(draw:Bool)(ops:Array Oper)(ap i:Nat)(F:bJ)(h:J)(o:Op)(x:Hint)(hs:List Hint):FH :=
 match x with
 |.enter _ =>
  match o with
  |.call c =>
   match c.callee with
   |.value f =>
    match bD F f with
    |.func (.func g) fs bm =>
     match fK g (fs++c.args.toList.map (bD F)++bm) h hs with
     |some (v,ag,ev,p7)=>some (v,ag,ev,cond draw (iL ops ap i (bD F) h o ag) []++p7,[⟨g,fs++c.args.toList.map (bD F)++bm,h,v,ag⟩])
     |none=>none
    |_=>none
   |_=>none
  |_=>none
 |.val _ v=>some (v,h,hs,(jT P E (ap+i) (bD F) h o v).1::cond draw (iL ops ap i (bD F) h o h) [],(jT P E (ap+i) (bD F) h o v).2)
 |.act _ v g=>some (v,g h,hs,(nh P E (ap+i) (bD F) h o v (g h)).1::cond draw (iL ops ap i (bD F) h o (g h)) [],(nh P E (ap+i) (bD F) h o v (g h)).2)
 |.FB _ v g=>some (v,g h,hs,(nh P E (ap+i) (bD F) h o v (g h)).1::cond draw (A8 ops ap (bD F) o) [],(nh P E (ap+i) (bD F) h o v (g h)).2)
 |.k4 _ v=>some (v,h,hs,(jT P E (ap+i) (bD F) h o v).1::cond draw (A8 ops ap (bD F) o) [],(jT P E (ap+i) (bD F) h o v).2)
 |.go _ =>
  match FC E (ap+i) (bD F) h o with
  |some (v,ag,p)=>some (v,ag,hs,p::cond draw (iL ops ap i (bD F) h o ag) [],[])
  |none=>none
 |.iJ _ e =>
  match FD E (bD F) h o e with
  |some (v,p)=>some (v,h,hs,p::cond draw (iL ops ap i (bD F) h o h) [],[])
  |none=>none
 |.iK _ e =>
  match stOp E (bD F) h o e with
  |some (ag,p)=>some (gg,ag,hs,p::cond draw (iL ops ap i (bD F) h o ag) [],[])
  |none=>none
 |.mm _ v g =>
  cond (ja o&&(!draw || (lp ops i || jb ops ap i (bD F) o)))
  (match bN E dF (ap+i) (bD F) h o with
  |none=>some (v,g h,hs,[e7 E (ap+i) (bD F) h o=some (v,g h)],[])
  |some _=>none) none
 |.run _ m =>
  match o with
  |.call c =>
   match c.callee with
   |.value f =>
    match bD F f with
    |.func (.func g) fs bm =>
     match l7 P E m g (fs++c.args.toList.map (bD F)++bm) h with
     |some (v,ag)=>some (v,ag,hs,cond draw (iL ops ap i (bD F) h o ag) [],[⟨g,fs++c.args.toList.map (bD F)++bm,h,v,ag⟩])
     |none=>none
    |_=>none
   |_=>none
  |_=>none
 |.L6 _ m =>
  match o with
  |.call c =>
   match c.callee with
   |.value f =>
    match bD F f with
    |.func (.func g) fs bm =>
     match n6 P E m g (fs++c.args.toList.map (bD F)++bm) h with
     |some (v,ag)=>some (v,ag,hs,cond draw (iL ops ap i (bD F) h o ag) [],[⟨g,fs++c.args.toList.map (bD F)++bm,h,v,ag⟩])
     |none=>none
    |_=>none
   |_=>none
  |_=>none
 |_=>none
def Hint.at:Hint→Option Nat
 |.val i _=>some i
 |.act i _ _=>some i
 |.FB i _ _=>some i
 |.k4 i _=>some i
 |.go i=>some i
 |.iJ i _=>some i
 |.iK i _=>some i
 |.mm i _ _=>some i
 |.run i _=>some i
 |.L6 i _=>some i
 |.enter i=>some i
 |_=>none
def pop(fK:uX)(q:Nat)(ops:Array Oper)(draw:Bool)(ap i:Nat)(F:bJ)(h:J)(o:Op)(hs:List Hint):FH :=
 match hs with
 |x::r =>
  match x.at with
  |some j=>cond (Nat.beq (1000*q+i) j) (xx P E fK draw ops ap i F h o x r) (o' E draw ops ap i F h o hs)
  |none=>o' E draw ops ap i F h o hs
 |[]=>o' E draw ops ap i F h o hs
def k6(call:dV)(ops:Array Oper)(draw:Bool)(ap i:Nat)(ρ:Operand→aa)(h:J)(o:Op):Option (aa×J) :=
 if draw then fB E call ops ap i ρ h o else jv E call (ap+i) ρ h o
theorem U5{nid:Nat}{ρ dU:Operand→aa}{h:J}{o:Op}(cN:∀x∈o.operands.toList,ρ x=dU x):e7 E nid ρ h o=e7 E nid dU h o:=by
 cases o
 case call c =>
  simp only [Op.operands,Call.operands,Array.toList_append,List.mem_append]at cN;simp only [e7];have aT:=uK (xs:=c.args) (fun x aj=>cN x (.inr aj));cases jg:c.callee with
  |value f =>
   rw [jg]at cN;simp only [aT,cN f (.inl aM)]
  |invoke r m=>rfl
  |builtin b=>rfl
 case convert s d x =>
  simp only [Op.operands]at cN;simp only [e7];rw [cN x aM]
 all_goals rfl
theorem U6{o:Op}(h:ja o=true):ek o=.pure:=by cases o<;>simp only [ja,Bool.false_eq_true]at h<;>rfl
theorem FI{call:dV}{ops:Array Oper}{draw:Bool}{ap i:Nat}{ρ:Operand→aa}{h ag:J}{o:Op}{v:aa}(aT:bN E call (ap+i) ρ h o=none)(aj:e7 E (ap+i) ρ h o=some (v,ag))
 (aE:draw=true→ja o=true∧(lp ops i=true∨jb ops ap i ρ o=true)):k6 E call ops draw ap i ρ h o=some (v,ag):=by
 unfold k6;cases draw with
 |false=>simp only [Bool.false_eq_true,if_false,jv,aT,aj]
 |true =>
  obtain⟨ac,ai⟩:=aE rfl;simp only [if_true];unfold fB;simp only [U6 ac,aT,ac,ai,and_self,if_true,aj]
theorem jU{call:dV}{ops:Array Oper}{draw:Bool}{ap i:Nat}{ρ:Operand→aa}{h ag:J}{o:Op}{v:aa}(aT:bN E call (ap+i) ρ h o=some (v,ag))(aE:bR (cond draw (iL ops ap i ρ h o ag) [])) :
 k6 E call ops draw ap i ρ h o=some (v,ag):=by
 unfold k6;cases draw with
 |false=>simp only [Bool.false_eq_true,if_false,jv,aT]
 |true =>
  have aE:bR (iL ops ap i ρ h o ag):=aE;simp only [if_true];unfold fB;unfold iL at aE;cases gI:ek o<;>simp only [gI]at aE⊢ <;>try exact aT
  ·rw [aT]
  ·split
   ·rename_i b ax;rw [ax]at aE;simp only at aE;cases aB:(rb ops i || (Nat.blt b ap || (Nat.blt b (ap+ops.size)&&(ordered (eb ops) (b-ap) i&&!pU ops (eb ops) i))))with
    |false=>rw [aB]at aE;exact aE.head.elim
    |true =>
     simp only [Bool.or_eq_true,Bool.and_eq_true,Bool.not_eq_true']at aB;rw [if_pos]
     ·exact aT
     ·rcases aB with aB|aB|⟨aB,eC,U7⟩
      ·exact .inl aB
      ·exact .inr (.inl (Nat.blt_eq.mp aB))
      ·exact .inr (.inr ⟨Nat.blt_eq.mp aB,eC,U7⟩)
   ·rename_i ax;rw [ax]at aE;exact aE.head.elim
  ·split
   ·rename_i b ax;rw [ax]at aE;simp only at aE;cases aB:(mR ops (eb ops) i&&Nat.blt b ap)with
    |true=>rw [aB]at aE;exact aE.head.elim
    |false =>
     rw [if_neg]
     ·exact aT
     ·rintro ⟨ac,ai⟩;rw [ac,Nat.blt_eq.mpr ai]at aB;cases aB
   ·rename_i ax;rw [ax]at aE;exact aE.head.elim
  ·simp only [aT];cases aC:mR ops (eb ops) i with
   |false=>simp
   |true =>
    rw [aC,cond_true]at aE;simp only [if_true];rw [if_pos aE.head]
  ·cases aB:pV ops ap i (h2 ρ o)with
   |true=>simp [aT]
   |false=>rw [aB]at aE;exact aE.head.elim
theorem FJ{ops:Array Oper}{draw:Bool}{ap i:Nat}{F:bJ}{h ag:J}{o:Op}{hs ev:List Hint}{v:aa}{bm:List Prop}{ks:List hP}(ah:o' E draw ops ap i F h o hs=some (v,ag,ev,bm,ks))(aw:bR bm)(call:dV) :
 k6 E call ops draw ap i (bD F) h o=some (v,ag):=by
 unfold o' at ah;cases ax:uW o
 ·rw [ax]at ah;cases ah
 ·rw [ax,cond_true]at ah;split at ah
  ·rename_i v1 ac aT;simp only [Option.some.injEq,Prod.mk.injEq]at ah;obtain⟨rfl,rfl,_,rfl,_⟩:=ah;exact jU E ((A7 E ax call).symm.trans aT) aw
  ·rename_i aT;cases aB:(!draw || (ja o&&(lp ops i || jb ops ap i (bD F) o)))with
   |false=>rw [aB]at ah;cases ah
   |true =>
    rw [aB,cond_true]at ah;split at ah
    ·rename_i v1 ac aj;simp only [Option.some.injEq,Prod.mk.injEq]at ah;obtain⟨rfl,rfl,_,rfl,_⟩:=ah;refine FI E ((A7 E ax call).symm.trans aT) aj fun uE=> ?_
     rw [uE]at aB;simpa using aB
    ·cases ah
theorem U8{fK:uX}{ops:Array Oper}{draw:Bool}{ap i:Nat}{F:bJ}{h ag:J}{o:Op}{x:Hint}{hs ev:List Hint}{v:aa}{bm:List Prop}{ks:List hP}(ah:xx P E fK draw ops ap i F h o x hs=some (v,ag,ev,bm,ks))(aw:bR bm){call:dV}
 (au:∀c∈ks,c.holds call):k6 E call ops draw ap i (bD F) h o=some (v,ag):=by
 unfold xx at ah;split at ah
 ·split at ah
  ·rename_i c;split at ah
   ·rename_i f aZ;split at ah
    ·rename_i g fs th ak;split at ah
     ·rename_i v1 ac ec p7 fW;simp only [Option.some.injEq,Prod.mk.injEq]at ah;obtain⟨rfl,rfl,_,rfl,rfl⟩:=ah;refine jU E ?_ aw.left;simp only [bN,aZ,ak,oO];exact au _ (List.mem_singleton.2 rfl)
     ·cases ah
    ·cases ah
   ·cases ah
  ·cases ah
 ·simp only [Option.some.injEq,Prod.mk.injEq]at ah;obtain⟨rfl,rfl,_,rfl,rfl⟩:=ah;exact jU E (L9 P E aw.head au) aw.tail
 ·simp only [Option.some.injEq,Prod.mk.injEq]at ah;obtain⟨rfl,rfl,_,rfl,rfl⟩:=ah;exact jU E (FE P E aw.head au) aw.tail
 ·simp only [Option.some.injEq,Prod.mk.injEq]at ah;obtain⟨rfl,rfl,_,rfl,rfl⟩:=ah;refine jU E (FE P E aw.head au) ?_;have bW:=aw.tail;cases draw with
  |false=>intro p ah;cases ah
  |true=>exact Mb bW
 ·simp only [Option.some.injEq,Prod.mk.injEq]at ah;obtain⟨rfl,rfl,_,rfl,rfl⟩:=ah;refine jU E (L9 P E aw.head au) ?_;have bW:=aw.tail;cases draw with
  |false=>intro p ah;cases ah
  |true=>exact Mb bW
 ·split at ah
  ·rename_i v1 ac p ak;simp only [Option.some.injEq,Prod.mk.injEq]at ah;obtain⟨rfl,rfl,_,rfl,_⟩:=ah;exact jU E (UX E ak aw.head call) aw.tail
  ·cases ah
 ·split at ah
  ·rename_i v1 p ak;simp only [Option.some.injEq,Prod.mk.injEq]at ah;obtain⟨rfl,rfl,_,rfl,_⟩:=ah;exact jU E (U3 E ak aw.head call) aw.tail
  ·cases ah
 ·split at ah
  ·rename_i ac p ak;simp only [Option.some.injEq,Prod.mk.injEq]at ah;obtain⟨rfl,rfl,_,rfl,_⟩:=ah;exact jU E (U4 E ak aw.head call) aw.tail
  ·cases ah
 ·cases aB:(ja o&&(!draw || (lp ops i || jb ops ap i (bD F) o)))with
  |false=>rw [aB]at ah;cases ah
  |true =>
   rw [aB,cond_true]at ah;simp only [Bool.and_eq_true]at aB;split at ah
   ·rename_i aT;simp only [Option.some.injEq,Prod.mk.injEq]at ah;obtain⟨rfl,rfl,_,rfl,_⟩:=ah
    have p3:uW o=true:=by cases o<;>first|rfl|(simp [ja]at aB)
    refine FI E ((A7 E p3 call).symm.trans aT) aw.head fun uE=>⟨aB.1,?_⟩
    have:=aB.2;rw [uE]at this;simpa using this
   ·cases ah
 ·split at ah
  ·rename_i c;split at ah
   ·rename_i f aZ;split at ah
    ·rename_i g fs th ak;split at ah
     ·rename_i v1 ac fW;simp only [Option.some.injEq,Prod.mk.injEq]at ah;obtain⟨rfl,rfl,_,rfl,rfl⟩:=ah;refine jU E ?_ aw;simp only [bN,aZ,ak,oO];exact au _ (List.mem_singleton.2 rfl)
     ·cases ah
    ·cases ah
   ·cases ah
  ·cases ah
 ·split at ah
  ·rename_i c;split at ah
   ·rename_i f aZ;split at ah
    ·rename_i g fs th ak;split at ah
     ·rename_i v1 ac fW;simp only [Option.some.injEq,Prod.mk.injEq]at ah;obtain⟨rfl,rfl,_,rfl,rfl⟩:=ah;refine jU E ?_ aw;simp only [bN,aZ,ak,oO];exact au _ (List.mem_singleton.2 rfl)
     ·cases ah
    ·cases ah
   ·cases ah
  ·cases ah
 ·cases ah
theorem Mc{fK:uX}{q:Nat}{ops:Array Oper}{draw:Bool}{ap i:Nat}{F:bJ}{h ag:J}{o:Op}{hs ev:List Hint}{v:aa}{bm:List Prop}{ks:List hP}(ah:pop P E fK q ops draw ap i F h o hs=some (v,ag,ev,bm,ks))(aw:bR bm){call:dV}
 (au:∀c∈ks,c.holds call):k6 E call ops draw ap i (bD F) h o=some (v,ag):=by
 unfold pop at ah;split at ah
 ·split at ah
  ·rename_i j a1;cases ax:Nat.beq (1000*q+i) j
   ·rw [ax,cond_false]at ah;exact FJ E ah aw call
   ·rw [ax,cond_true]at ah;exact U8 P E ah aw au
  ·exact FJ E ah aw call
 ·exact FJ E ah aw call
def FK(fK:uX):Prop:= ∀f args h hs v ag ev bm,fK f args h hs=some (v,ag,ev,bm)→bR bm→b1 P E.cond f args h v ag
theorem Md(cw:hn P E)(eR:P.follows .mixedOrders=true){fK:uX}(kB:FK P E fK){q:Nat}{ops:Array Oper}{draw:Bool}{ap i:Nat}{F:bJ}{h ag:J}{o:Op}{hs ev:List Hint}{v:aa}{bm:List Prop}{ks:List hP}(ah:pop P E fK q ops draw ap i F h o hs=some (v,ag,ev,bm,ks))(aw:bR bm) :
 ∀c∈ks,b1 P E.cond c.f c.args c.h c.v c.ag:=by
 have plain:∀{p6:List Hint},o' E draw ops ap i F h o p6=some (v,ag,ev,bm,ks)→ ∀c∈ks,b1 P E.cond c.f c.args c.h c.v c.ag:=by
  intro p6 ah;unfold o' at ah;cases ax:uW o
  ·rw [ax]at ah;cases ah
  ·rw [ax,cond_true]at ah;split at ah
   ·simp only [Option.some.injEq,Prod.mk.injEq]at ah;obtain⟨_,_,_,_,rfl⟩:=ah;intro c aw;simp at aw
   ·cases aB:(!draw || (ja o&&(lp ops i || jb ops ap i (bD F) o)))with
    |false=>rw [aB]at ah;cases ah
    |true =>
     rw [aB,cond_true]at ah;split at ah
     ·simp only [Option.some.injEq,Prod.mk.injEq]at ah;obtain⟨_,_,_,_,rfl⟩:=ah;intro c aw;simp at aw
     ·cases ah
 unfold pop at ah;split at ah
 ·split at ah
  ·rename_i j a1;cases ax:Nat.beq (1000*q+i) j
   ·rw [ax,cond_false]at ah;exact plain ah
   ·rw [ax, cond_true]at ah;unfold xx at ah;split at ah
    ·split at ah
     ·split at ah
      ·split at ah
       ·split at ah
        ·rename_i fW;simp only [Option.some.injEq,Prod.mk.injEq]at ah;obtain⟨_,_,_,rfl,rfl⟩:=ah;intro c hm;simp only [List.mem_singleton]at hm;subst hm;exact kB _ _ _ _ _ _ _ _ fW aw.right
        ·cases ah
       ·cases ah
      ·cases ah
     ·cases ah
    ·simp only [Option.some.injEq,Prod.mk.injEq]at ah;obtain⟨rfl,rfl,_,rfl,rfl⟩:=ah;exact L' P E aw.head
    ·simp only [Option.some.injEq,Prod.mk.injEq]at ah;obtain⟨rfl,rfl,_,rfl,rfl⟩:=ah;exact FF P E aw.head
    ·simp only [Option.some.injEq,Prod.mk.injEq]at ah;obtain⟨rfl,rfl,_,rfl,rfl⟩:=ah;exact FF P E aw.head
    ·simp only [Option.some.injEq,Prod.mk.injEq]at ah;obtain⟨rfl,rfl,_,rfl,rfl⟩:=ah;exact L' P E aw.head
    all_goals first
     |(split at ah
       ·simp only [Option.some.injEq,Prod.mk.injEq]at ah;obtain⟨_,_,_,_,rfl⟩:=ah;intro c aw;simp at aw
       ·cases ah
       done)
     |(cases ah;done)
     |skip
    ·cases aB:(ja o&&(!draw || (lp ops i || jb ops ap i (bD F) o)))with
     |false=>rw [aB]at ah;cases ah
     |true =>
      rw [aB,cond_true]at ah;split at ah
      ·simp only [Option.some.injEq,Prod.mk.injEq]at ah;obtain⟨_,_,_,_,rfl⟩:=ah;intro c aw;simp at aw
      ·cases ah
    ·split at ah
     ·split at ah
      ·split at ah
       ·split at ah
        ·rename_i fW;simp only [Option.some.injEq,Prod.mk.injEq]at ah;obtain⟨_,_,_,_,rfl⟩:=ah;intro c aw;simp only [List.mem_singleton]at aw;subst aw;exact b1.uR cw eR fW
        ·cases ah
       ·cases ah
      ·cases ah
     ·cases ah
    ·split at ah
     ·split at ah
      ·split at ah
       ·split at ah
        ·rename_i fW;simp only [Option.some.injEq,Prod.mk.injEq]at ah;obtain⟨_,_,_,_,rfl⟩:=ah;intro c aw;simp only [List.mem_singleton]at aw;subst aw;rw [xu]at fW;exact b1.uR cw eR fW
        ·cases ah
       ·cases ah
      ·cases ah
     ·cases ah
  ·exact plain ah
 ·exact plain ah
def FL(n:Nat)(o:Oper):Bool :=
 match o.dst with
 |some d=>Nat.blt d n
 |none=>true
def qe(E:bY)(call:dV)(ops:Array Oper)(draw:Bool)(ap:Nat)(l:List Nat)(s:fr):Option fr :=
 if draw then kq E call ops ap l s else oQ E call ops ap l s
theorem U9{call:dV}{ops:Array Oper}{draw:Bool}{ap i:Nat}{l:List Nat}{s:List aa}{h ag:J}{o:Oper}{v:aa}(ao:ops[i]? =some o)(hw:jw ops s o=some true)
 (aT:k6 E call ops draw ap i (de s) h o.op=some (v,ag)):qe E call ops draw ap (i::l) ⟨s,h⟩=qe E call ops draw ap l ⟨hM s o.dst v,ag⟩:=by
 unfold qe k6 at *;cases draw with
 |false=>simp only [Bool.false_eq_true,if_false]at aT⊢; simp only [oQ,ra,ao,hw,aT]
 |true=>simp only [if_true]at aT⊢; simp only [kq,l6,ao,hw,aT]
theorem U'{call:dV}{ops:Array Oper}{draw:Bool}{ap i:Nat}{l:List Nat}{s:List aa}{h:J}{o:Oper}(ao:ops[i]? =some o)(hw:jw ops s o=some false) :
 qe E call ops draw ap (i::l) ⟨s,h⟩=qe E call ops draw ap l ⟨hM s o.dst gg,h⟩:=by
 unfold qe;cases draw with
 |false=>simp only [Bool.false_eq_true,if_false,oQ,ra,ao,hw]
 |true=>simp only [if_true,kq,l6,ao,hw]
theorem Me(s:List aa)(d:Option Tmp)(v:aa):(hM s d v).length=s.length:=by cases d<;>simp [hM]
structure Mf(a b:List aa)(h k:J)(v u:aa)(ag e6:J):Prop where
 agree:a=b→h=k→v=u∧ag=e6
def Mg(a b:hP):List Prop:=cond (Nat.beq a.f b.f) [Mf a.args b.args a.h b.h a.v b.v a.ag b.ag] []
def A9:List hP→List Prop
 |[]=> []
 |a::r=>r.flatMap (Mg a)++A9 r
open Classical in
def rG:List hP→dV
 |[],_,_,_=>none
 |k::r,f,args,h=>if k.f=f∧k.args=args∧k.h=h then some (k.v,k.ag)else rG r f args h
theorem Mh:∀{ks:List hP}{f:FuncId}{args:List aa}{h:J}{v:aa}{ag:J},rG ks f args h=some (v,ag)→ ∃k∈ks,k.f=f∧k.args=args∧k.h=h∧k.v=v∧k.ag=ag
 |[],f,args,h,v,ag,aw=>by cases aw
 |k ::r,f,args,h,v,ag,aw=>by
  simp only [rG]at aw;split at aw
  ·rename_i e;simp only [Option.some.injEq,Prod.mk.injEq]at aw;exact⟨k,aM,e.1,e.2.1,e.2.2,aw.1,aw.2⟩
  ·obtain⟨e6,hm,q⟩:=Mh aw;exact⟨e6,by simp [hm],q⟩
theorem Mi:∀{ks:List hP},bR (A9 ks)→ ∀c∈ks,c.holds (rG ks)
 |[],_,c,aw=>by simp at aw
 |k ::r,hu,c,aw=>by
  simp only [A9]at hu;unfold hP.holds;simp only [rG];split
  ·rename_i e;rcases List.mem_cons.1 aw with rfl|hm
   ·rfl
   ·have:=hu.left
    have aB:k.v=c.v∧k.ag=c.ag:=by have ac:Mf k.args c.args k.h c.h k.v c.v k.ag c.ag:=this _ (List.mem_flatMap.2 ⟨c,hm,by unfold Mg;rw [beq_true e.1];simp⟩);exact ac.agree e.2.1 e.2.2
    rw [aB.1,aB.2]
  ·rename_i e;rcases List.mem_cons.1 aw with rfl|hm
   ·exact absurd ⟨rfl,rfl,rfl⟩ e
   ·exact Mi hu.right c hm
theorem Va{ks:List hP}(au:∀c∈ks,b1 P E.cond c.f c.args c.h c.v c.ag){be:Nat→Prop}{bo:World}(db:fu be bo.heap.size)(fm:E.cond be bo):n0 P be bo (rG ks):=by intro f args h v ag aw φ w dk ed cH ea;obtain⟨k,hm,rfl,rfl,rfl,rfl,rfl⟩:=Mh aw;exact au k hm be bo db fm φ w dk ed cH ea
def ti:Nat→List aa→bJ
 |_,[]=> []
 |i,v::r=>(i,v)::ti (i+1) r
def mn(D:dH)(F:bJ)(h:J):List ResultVar→List Hint→Option (List aa×List Prop)
 |[],[]=>some ([],[])
 |[],_=>none
 |.tmp t::r,hs=>match hc F t,mn D F h r hs with|some v,some (l,bm)=>some (v::l,bm)|_,_=>none
 |.cell a t::r,.cell v::hs=>match hc F a,mn D F h r hs with|some (.ptr (some p)),some (l,bm)=>some (v::l,(bM D t p h=some v)::bm)|_,_=>none
 |.cell a t::r,hs =>
  match hc F a with
  |some (.ptr (some p)) =>
   match bM D t p h with
   |some v=>match mn D F h r hs with|some (l,bm)=>some (v::l,bm)|none=>none
   |none=>none
  |_=>none
end
end
end Go.cf
namespace Go.cf
noncomputable section
open Go.RowKit
section
variable {P:Program}{E:bY}
def A'(φ:Map)(S:Nat→Prop)(bo:World)(n:Nat)(F:bJ)(h:J)(a:Act)(w:World):Prop:= ∃s:List aa,s.length=n∧Has F s∧gJ φ S bo ⟨s,h⟩ a w
def k7(P:Program)(C:(Nat→Prop)→World→Prop)(base n:Nat)(p':(Exit→Act→World→Prop)→Act→World→Prop)(F:bJ)(h:J)(e:cW)(ew:bJ)(ag:J):Prop :=
 ∀(S:Nat→Prop)(bo:World),fu S bo.heap.size→C S bo→ ∀(eS φ:Map)(a:Act)(w:World),(∀i v p,eS i v=some p→i<base)→eW eS φ base→A' φ S bo n F h a w →
  ∀Q:Exit→Act→World→Prop,(∀bE cv bq,eW eS bE base→A' bE S bo n ew ag cv bq→Q (xh e) cv bq)→p' Q a w
def fw(P:Program)(C:(Nat→Prop)→World→Prop)(base n:Nat)(c:Code)(F:bJ)(h:J)(e:cW)(ew:bJ)(ag:J):Prop:=k7 P C base n (fun Q a w=>c.wp P Q a w) F h e ew ag
def dK(P:Program)(C:(Nat→Prop)→World→Prop)(base n:Nat)(c:Code)(F:bJ)(h:J)(e:cW)(ew:bJ)(ag:J):Prop:=k7 P C base n (fun Q a w=>s' P c Q a w) F h e ew ag
def tj(P:Program)(body:Option Code)(c:Code):(Exit→Act→World→Prop)→Act→World→Prop :=
 match body with
 |none=>fun Q a w=>c.wp P Q a w
 |some b=>fun Q a w=>uQ P b c Q a w
theorem fw.hQ{C:(Nat→Prop)→World→Prop}{base n:Nat}{c:Code}{F ew:bJ}{h ag:J}{e:cW}(k:dK P C base n c F h e ew ag):fw P C base n (.loop c) F h e ew ag :=
 fun S bo cu fm eS φ a w bf au r Q eD=>LI (k S bo cu fm eS φ a w bf au r Q eD)
theorem dK.step{C:(Nat→Prop)→World→Prop}{base n:Nat}{c:Code}{F aU n8:bJ}{h ac ai:J}{e:cW}(aK:fw P C base n c F h .normal aU ac)(aP:dK P C base n c aU ac e n8 ai):dK P C base n c F h e n8 ai :=
 fun S bo cu fm eS φ a w bf au r Q eD=>E9 (aK S bo cu fm eS φ a w bf au r _ fun bE cv bq eg fH=>aP S bo cu fm eS bE cv bq bf eg fH Q eD)
theorem dK.last{C:(Nat→Prop)→World→Prop}{base n:Nat}{c:Code}{F aU:bJ}{h ac:J}{e:cW}(he:e≠ .normal)(aK:fw P C base n c F h e aU ac):dK P C base n c F h e aU ac :=
 fun S bo cu fm eS φ a w bf au r Q eD=>E9 (aK S bo cu fm eS φ a w bf au r _ fun bE cv bq eg fH=>by
  have:=eD bE cv bq eg fH;cases e with
  |normal=>exact absurd rfl he
  |_=>exact this)
def eL(base n:Nat)(F:bJ)(h:J)(aU:bJ)(ac:J):Prop :=
 ∀(S:Nat→Prop)(bo:World)(eS φ:Map)(a:Act)(w:World),(∀i v p,eS i v=some p→i<base)→eW eS φ base→A' φ S bo n F h a w→ ∃uY,eW eS uY base∧A' uY S bo n aU ac a w
theorem k7.pre{C:(Nat→Prop)→World→Prop}{base n:Nat}{p':(Exit→Act→World→Prop)→Act→World→Prop}{F G ew:bJ}{h g ag:J}{e:cW}(k:k7 P C base n p' F h e ew ag)(i:eL base n G g F h):k7 P C base n p' G g e ew ag :=
 fun S bo cu fm eS φ a w bf au r Q eD=>by obtain⟨uY,gh,e8⟩:=i S bo eS φ a w bf au r;exact k S bo cu fm eS uY a w bf gh e8 Q eD
theorem k7.post{C:(Nat→Prop)→World→Prop}{base n:Nat}{p':(Exit→Act→World→Prop)→Act→World→Prop}{F ew Mj:bJ}{h ag dp:J}{e:cW}(k:k7 P C base n p' F h e ew ag)(i:eL base n ew ag Mj dp):k7 P C base n p' F h e Mj dp :=
 fun S bo cu fm eS φ a w bf au r Q eD=>k S bo cu fm eS φ a w bf au r Q fun bE cv bq eg fH=>by obtain⟨uY,gh,e8⟩:=i S bo eS bE cv bq bf eg fH;exact eD uY cv bq gh e8
def bJ.le(G F:bJ):Prop:= ∀t v,hc G t=some v→hc F t=some v
theorem bJ.Vb(F:bJ)(l:List Nat):bJ.le (qc F l) F:=fun _ _ h=>xw h
theorem eL.facts{base n:Nat}{F G:bJ}{h:J}(k:bJ.le G F):eL base n F h G h :=
 fun S bo eS φ a w bf au ⟨s,aR,fx,r⟩=>⟨φ,au,s,aR,fun t v bh=>fx t v (k t v bh),r⟩
theorem Mk:∀(l:List aa)(i t:Nat)(v:aa),hc (ti i l) t=some v→i≤t∧l[t-i]? =some v
 |[],i,t,v,h=>by cases h
 |a ::r,i,t,v,h=>by
  simp only [ti,k3]at h;split at h
  ·rename_i e;subst e;exact⟨Nat.le_refl _,by simpa using h⟩
  ·rename_i e;obtain⟨ac,ai⟩:=Mk r (i+1) t v h;refine⟨ab,?_⟩;rw [show t-i=(t- (i+1))+1 by omega,List.getElem?_cons_succ];exact ai
theorem Ba{D:dH}{F:bJ}{h:J}{s:List aa}(fx:Has F s):∀{dR:List ResultVar}{hs:List Hint}{l:List aa}{bm:List Prop},mn D F h dR hs=some (l,bm)→bR bm→jx D dR ⟨s,h⟩=some l
 |[],hs,l,bm,ah,aw=>by
  cases hs with
  |nil=>simp only [mn,Option.some.injEq,Prod.mk.injEq]at ah;obtain⟨rfl,_⟩:=ah;rfl
  |cons a r=>simp [mn]at ah
 |.tmp t::r,hs,l,bm,ah,aw=>by
  simp only [mn]at ah;split at ah
  ·rename_i v cQ th bh aj;simp only [Option.some.injEq,Prod.mk.injEq]at ah;obtain⟨rfl,rfl⟩:=ah;simp only [jx,Ba fx aj aw,List.getD_eq_getElem?_getD,fx t v bh];rfl
  ·cases ah
 |.cell a t::r,hs,l,bm,ah,aw=>by
  have go :∀{hs:List Hint}{l:List aa}{bm:List Prop},(match hc F a with
   |some (.ptr (some p)) =>
    match bM D t p h with
    |some v=>match mn D F h r hs with|some (l,bm)=>some (v::l,bm)|none=>none
    |none=>none
   |_=>none)=some (l,bm)→bR bm→jx D (.cell a t::r) ⟨s,h⟩=some l:=by
   intro hs l bm ah aw;split at ah
   ·rename_i p bh;split at ah
    ·rename_i v aC;split at ah
     ·rename_i cQ th aj;simp only [Option.some.injEq,Prod.mk.injEq]at ah;obtain⟨rfl,rfl⟩:=ah;simp only [jx,Ba fx aj aw,List.getD_eq_getElem?_getD,fx a _ bh,Option.getD_some,aC]
     ·cases ah
    ·cases ah
   ·cases ah
  cases hs with
  |nil=>exact go (hs:=[]) ah aw
  |cons q hs =>
   cases q with
   |cell v =>
    simp only [mn]at ah;split at ah
    ·rename_i p cQ th bh aj;simp only [Option.some.injEq,Prod.mk.injEq]at ah;obtain⟨rfl,rfl⟩:=ah;have uZ:bR th:=fun p ah=>aw p (by simp [ah])
     simp only [jx,Ba fx aj uZ,List.getD_eq_getElem?_getD,fx a _ bh,Option.getD_some,aw.head]
    ·cases ah
   |_=>exact go (hs:=_::hs) ah aw
theorem b1.Vc(cw:hn P E){f:FuncId}{fn:Func}{c:Code}(aZ:P.funcs[f]? =some fn)(ax:fn.body=some c){args:List aa}{h ag:J}{e:cW}(he:e=.normal∨e=.ret){ew:bJ}{dR:List Hint}{l:List aa}{bm:List Prop}
 (bc:fw P E.cond h.U (args.length+(fn.ntmps-args.length)) c (ti 0 args) h e ew ag) (ah:mn E.D ew ag fn.results.toList dR=some (l,bm)) (aw:bR bm) (aR:h.U≤ag.U):b1 P E.cond f args h (mS l) ag:=by
 intro S bo cu gr φ w dk ed tc ea;refine⟨⟨fn,c,aZ,ax⟩,calls_of_wp aZ ax ?_⟩;have hlen:dk.size=args.length:=by have:=ea.length;rwa [Array.length_toList]at this
 have fx:Has (ti 0 args) (args++List.replicate (fn.ntmps-args.length) gg):=by intro t u hu;obtain⟨_,ai⟩:=Mk args 0 t u hu;simp only [Nat.sub_zero]at ai;obtain⟨cG,_⟩:=List.getElem?_eq_some_iff.1 ai;rw [List.getElem?_append_left cG];exact ai
 have r:gJ φ S bo ⟨args++List.replicate (fn.ntmps-args.length) gg,h⟩ {tmps:=dk++Array.replicate (fn.ntmps-dk.size) undef,defers:=[]} w:=by refine⟨?_,ed,tc,rfl⟩;simp only [Array.toList_append,Array.toList_replicate,hlen];exact ea.append (bz.replicate (aL.gg φ) _)
 refine bc S bo cu gr φ φ _ w (fun i v p ah=>(ed.dD i v p ah).1) (eW.refl _ _) ⟨_,aM,fx,r⟩ _ fun bE cv bq au ⟨bG,a6,f1,e8⟩=> ?_
 have aC:=Ba f1 ah aw;obtain⟨br,aK,aP⟩:=LN cw.hO e8 aC;rcases he with rfl|rfl
 ·exact⟨e8.defers,br,aK,br,bE,rfl,au,aP,e8.heap,e8.below,aR⟩
 ·exact⟨e8.defers,br,aK,br,bE,rfl,au,aP,e8.heap,e8.below,aR⟩
theorem eL.refl(base n:Nat)(F:bJ)(h:J):eL base n F h F h:=fun S bo eS φ a w bf au r=>⟨φ,au,r⟩
theorem eL.bg{base n:Nat}{F aU:bJ}{h ac:J}{r:Nat→Nat}(hw:AS r ac h)(aZ:∀t v,hc aU t=some v→t<n∧hc F t=some (v.bg r)∧ch (In ac) v)
 (a':∀i,i<base→In h i→In ac i) (bP:∀i,i<base→In ac i→r i=i) (ei:∀i,In ac i→r i<base→i<base):eL base n F h aU ac:=by
 intro S bo eS φ a w bf au ⟨s,aR,fx,tk⟩;have Vd:a.tmps.toList.length=n:=by rw [tk.e3.length];exact aR
 refine⟨iI φ r ac,⟨?_,?_,?_⟩,(List.range n).map (fun t=>(hc aU t).getD .undef),aM,?_,⟨?_,tk.heap.iI hw ?_,tk.below,tk.defers⟩⟩
 ·intro i v p ah;have aq:=bf i v p ah;have en:=au.le i v p ah;obtain⟨_,b,ax,_⟩:=tk.heap.dD i v p en;have h9:=a' i aq (by unfold In;rw [ax];rfl);rw [qa h9,bP i aq h9];exact en
 ·intro i aq im u;have:=au.new i aq im;unfold iI;split
  ·rename_i h9;rw [bP i aq h9];exact this u
  ·rfl
 ·intro i v p ah eu;obtain⟨h9,en⟩:=lD ah;have ac:=au.ro _ _ _ en eu;have ai:=ei i h9 (bf _ _ _ ac);rw [bP i ai h9]at ac;exact ac
 ·intro t v bh;obtain⟨bW,_,_⟩:=aZ t v bh;simp [bW,bh]
 ·refine bz.eV (by simp [Vd]) fun t x V aj Dy=> ?_
  have bW:t<n:=by have:=(List.getElem?_eq_some_iff.1 aj).1;simpa using this
  simp only [List.getElem?_map,List.getElem?_range bW,Option.map_some,Option.some.injEq]at aj;cases aC:hc aU t with
  |none=>rw [aC]at aj;simp at aj;subst aj;simp [aL]
  |some v =>
   rw [aC]at aj;simp at aj;subst aj;obtain⟨_,g1,g2⟩:=aZ t v aC;obtain⟨ahp,bi,bu⟩:=tk.e3.get (fx t _ g1);rw [Dy]at bi;simp at bi;subst bi;exact aL.lB (fun i aq v p ah=>by rw [qa aq];exact ah) g2 bu
 ·intro i v p ah eu;obtain⟨_,en⟩:=lD ah;obtain⟨_,B,_,_,_,_,_,_,td⟩:=tk.heap.dD _ _ _ en;exact td.base eu
def loops:Code→List Code
 |.seq a b=>loops a++loops b
 |.cond _ a b=>loops a++loops b
 |.block _ c=>loops c
 |.scope c=>loops c
 |.loop c=>c::loops c
 |_=> []
def Ve(P:Program)(f:FuncId):Code :=
 match P.funcs[f]? with
 |some fn=>match fn.body with|some c=>c|none=> .skip
 |none=> .skip
def Vf(P:Program)(f:FuncId)(k:Nat):Code:=(loops (Ve P f))[k]?.getD .skip
theorem b1.bg{C:(Nat→Prop)→World→Prop}{f:FuncId}{args:List aa}{h ag ai:J}{v v2:aa}{r:Nat→Nat}(k:b1 P C f args h v ag)(hw:AS r ai ag)(bh:v=v2.bg r)(gI:ch (In ai) v2)
 (a':∀i,i<h.U→In ag i→In ai i) (bP:∀i,i<h.U→In ai i→r i=i) (ei:∀i,In ai i→r i<h.U→i<h.U) (aR:h.U≤ai.U):b1 P C f args h v2 ai:=by
 subst bh;intro S bo cu gr φ w dk ed tc ea;obtain⟨g1,g2⟩:=k S bo cu gr φ w dk ed tc ea;refine⟨g1,g2.mono fun e bq ⟨br,bE,he,n5,bh,bc,hs,tl⟩=> ?_⟩;refine⟨br,iI bE r ai,he,⟨?_,?_,?_⟩,aL.lB (fun i aq v p ah=>by rw [qa aq];exact ah) gI bh,bc.iI hw ?_,hs,aR⟩
 ·intro i u p ah;have aq:=(ed.dD i u p ah).1;have en:=n5.le i u p ah;obtain⟨_,b,ax,_⟩:=bc.dD i u p en;have h9:=a' i aq (by unfold In;rw [ax];rfl);rw [qa h9,bP i aq h9];exact en
 ·intro i aq im u;have:=n5.new i aq im;unfold iI;split
  ·rename_i h9;rw [bP i aq h9];exact this u
  ·rfl
 ·intro i u p ah eu;obtain⟨h9,en⟩:=lD ah;have ac:=n5.ro _ _ _ en eu;have ai:=ei i h9 (ed.dD _ _ _ ac).1;rw [bP i ai h9]at ac;exact ac
 ·intro i u p ah eu;obtain⟨_,en⟩:=lD ah;obtain⟨_,B,_,_,_,_,_,_,td⟩:=bc.dD _ _ _ en;exact td.base eu
theorem bR.nil:bR []:=fun p ah=>by simp at ah
theorem bR.cons{p:Prop}{l:List Prop}(h:p)(k:bR l):bR (p::l):=fun q aB=>by
 rcases List.mem_cons.1 aB with rfl|aB
 ·exact h
 ·exact k q aB
theorem okF{p:Prop}[Decidable p](c:¬p):some (aa.bool (decide p))=some (aa.bool false):=by rw [decide_eq_false c]
def cU(v:aa):Prop:=(∀r,v.bg r=v)∧ch (fun _=>False) v
theorem cU.bool(b:Bool):cU (.bool b):=⟨fun _=>rfl,trivial⟩
theorem cU.int(k:IntKind)(n:Int):cU (.int k n):=⟨fun _=>rfl,trivial⟩
theorem cU.str(s:List UInt8):cU (.str s):=⟨fun _=>rfl,trivial⟩
mutual
theorem ch.mono{D xy:Nat→Prop}(h:∀i,D i→xy i):∀{v:aa},ch D v→ch xy v
 |.ptr (some a),k=>by simp only [ch]at k⊢; exact h _ k
 |.slice (some a) _ _,k=>by simp only [ch]at k⊢; exact h _ k
 |.func _ f c,k=>by simp only [ch]at k⊢; exact⟨fp.mono h k.1,fp.mono h k.2⟩
 |.iface _ v,k=>by simp only [ch]at k⊢; exact ch.mono h k
 |.agg bm,k=>by simp only [ch]at k⊢; exact fp.mono h k
 |.tuple vs,k=>by simp only [ch]at k⊢; exact fp.mono h k
 |.undef,_=>by simp [ch]
 |.bool _,_=>by simp [ch]
 |.int _ _,_=>by simp [ch]
 |.str _,_=>by simp [ch]
 |.ptr none,_=>by simp [ch]
 |.slice none _ _,_=>by simp [ch]
 |.nilFunc,_=>by simp [ch]
 |.nilIface,_=>by simp [ch]
theorem fp.mono{D xy:Nat→Prop}(h:∀i,D i→xy i):∀{l:List aa},fp D l→fp xy l
 |[],_=>by simp [fp]
 |a::l,k=>by simp only [fp]at k⊢; exact⟨ch.mono h k.1,fp.mono h k.2⟩
end
theorem b1.bare{C:(Nat→Prop)→World→Prop}[ke C]{f:FuncId}{args:List aa}{v:aa}{ag:J}(k:b1 P C f args ⟨0,.nil⟩ v ag)(aT:∀a∈args,cU a)(bh:cU v)(H:J):b1 P C f args H v H:=by
 have aK:b1 P C f args ⟨0,.nil⟩ v ⟨0,.nil⟩:=by
  refine k.bg (r:=fun i=>i) (v2:=v) ⟨?_,?_,?_⟩ (bh.1 _).symm (ch.mono (fun i aq=>aq.elim) bh.2) ?_ ?_ ?_ (Nat.le_refl _)
  ·intro i b ax;cases ax
  ·intro i j aq;cases aq
  ·intro i b ax;cases ax
  ·intro i aq;simp at aq
  ·intro i aq;simp at aq
  ·intro i aq;cases aq
 have aP:=aK.frame (r:=fun i=>H.U+i) (H:=H) (aQ:=H) ⟨?_,?_,?_⟩ (tb.2 fun a hm=>ch.mono (fun i aq=>aq.elim) (aT a hm).2) (fun i _=> aM) ?_ aM (fun _ _ _=>rfl)
 ·rw [bh.1]at aP
  have:args.map (aa.bg fun i=>H.U+i)=args:=by
   conv=>rhs;rw [←List.map_id args]
   exact List.map_congr_left fun a hm=>(aT a hm).1 _
  rw [this]at aP;exact aP
 ·intro i b ax;cases ax
 ·intro i j aq;cases aq
 ·intro i b ax;cases ax
 ·intro i b ax;cases ax
mutual
def aa.mo:aa→Bool
 |.ptr (some _)=>false
 |.slice (some _) _ _=>false
 |.func _ f c=>aa.pa f&&aa.pa c
 |.iface _ v=>aa.mo v
 |.agg bm=>aa.pa bm
 |.tuple vs=>aa.pa vs
 |_=>true
def aa.pa:List aa→Bool
 |[]=>true
 |a::l=>aa.mo a&&aa.pa l
end
mutual
theorem FM:∀{v:aa},v.mo=true→(∀r,v.bg r=v)∧ch (fun _=>False) v
 |.ptr (some a),k=>by simp [aa.mo]at k
 |.slice (some a) _ _,k=>by simp [aa.mo]at k
 |.func fn f c,k=>by simp only [aa.mo,Bool.and_eq_true]at k;have ac:=xz k.1;have ai:=xz k.2;exact⟨fun r=>by simp only [aa.bg,ac.1 r,ai.1 r],by simp only [ch];exact⟨ac.2,ai.2⟩⟩
 |.iface t v,k=>by simp only [aa.mo]at k;have ac:=FM k;exact⟨fun r=>by simp only [aa.bg,ac.1 r],by simp only [ch];exact ac.2⟩
 |.agg bm,k=>by simp only [aa.mo]at k;have ac:=xz k;exact⟨fun r=>by simp only [aa.bg,ac.1 r],by simp only [ch];exact ac.2⟩
 |.tuple vs,k=>by simp only [aa.mo]at k;have ac:=xz k;exact⟨fun r=>by simp only [aa.bg,ac.1 r],by simp only [ch];exact ac.2⟩
 |.undef,_=>⟨fun _=>rfl,by simp [ch]⟩
 |.bool _,_=>⟨fun _=>rfl,by simp [ch]⟩
 |.int _ _,_=>⟨fun _=>rfl,by simp [ch]⟩
 |.str _,_=>⟨fun _=>rfl,by simp [ch]⟩
 |.ptr none,_=>⟨fun _=>rfl,by simp [ch]⟩
 |.slice none _ _,_=>⟨fun _=>rfl,by simp [ch]⟩
 |.nilFunc,_=>⟨fun _=>rfl,by simp [ch]⟩
 |.nilIface,_=>⟨fun _=>rfl,by simp [ch]⟩
theorem xz:∀{l:List aa},aa.pa l=true→(∀r,aa.gK r l=l)∧fp (fun _=>False) l
 |[],_=>⟨fun _=>rfl,by simp [fp]⟩
 |a::l,k=>by simp only [aa.pa,Bool.and_eq_true]at k;have ac:=FM k.1;have ai:=xz k.2;exact⟨fun r=>by simp only [aa.gK,ac.1 r,ai.1 r],by simp only [fp];exact⟨ac.2,ai.2⟩⟩
end
theorem cU.of{v:aa}(h:v.mo=true):cU v:=FM h
end
end
end Go.cf
