/-
  Parts of the proof of KeysEach.
-/
import Derived.Laws.IdiomCopy
import Derived.Scope
import Derived.Test.YtddnafghiejcoaaGreatDoorKKeysEachA
set_option linter.unusedVariables false
set_option linter.unusedSimpArgs false
namespace Go.cM
noncomputable section
open Go.RowKit
def nN(P:Program)(be:Nat→Prop)(br:World)(call:dX):Prop :=
 ∀f args h v aa,call f args h=some (v,aa)→ ∀(al:Map)(w:World)(dF:Array Value),c4 al be h w→Safe be br w→bH al args dF.toList →
  (∃fn c,P.funcs[f]? =some fn∧fn.body=some c) ∧
  Calls P f dF w fun e bC=> ∃bt bN,e=.returned bt∧fk al bN h.next∧aN bN v bt∧c4 bN be aa bC∧Safe be br bC∧h.next≤aa.next
def DN(P:Program)(cf:(Nat→Prop)→World→Prop)(f:FuncId)(g:za):Prop :=
 ∀(be:Nat→Prop)(br:World),fC be br.heap.size→cf be br→ ∀args h v aa,g args h=some (v,aa)→ ∀(al:Map)(w:World)(dF:Array Value),c4 al be h w→Safe be br w→bH al args dF.toList →
  (∃fn c,P.funcs[f]? =some fn∧fn.body=some c) ∧
  Calls P f dF w fun e bC=> ∃bt bN,e=.returned bt∧fk al bN h.next∧aN bN v bt∧c4 bN be aa bC∧Safe be br bC∧h.next≤aa.next
def wi:Nat→Option (Array Value→Sem Value)
 |0=>some Extern.BytealgCount.count
 |1=>some Extern.BytealgIndexByte.indexByte
 |2=>some Extern.BytealgCompare.compare
 |_=>none
structure hv(P:Program)(E:b5):Prop where
 hV:E.D.dw P
 eqs:∀t,E.ho t=true→qQ P t
 names:∀(f:Nat) fn,P.funcs[f]? =some fn→(fn.name == "runtime.NumGoroutine")=false
 J5:∀(f:Nat) g,E.tL f=some g→DN P E.cond f g
 J6:∀(f:Nat) k,E.ext f=some k→ ∃fn e,P.funcs[f]? =some fn∧fn.body.isNone=true∧Extern.findNext fn=none∧Extern.find fn=some e∧wi k=some e
section
variable {P:Program}{al:Map}{E:b5}
def fH(P:Program)(al:Map)(be:Nat→Prop)(br:World)(h:j)(bh:Nat)(v:o)(aa:j)(r:Result Next):Prop :=
 (∃bt bC bN,(r=.ok (.value bt) bC∨(r=.ok .skip bC∧bt=undef))∧hq al bN h.next bh∧aN bN v bt∧c4 bN be aa bC∧Safe be br bC∧h.next≤aa.next)
 ∨(∃f args bC,r=.ok (.enter f args) bC∧Calls P f args bC fun e mK=> ∃bt bN,e=.returned bt∧hq al bN h.next bh∧aN bN v bt∧c4 bN be aa mK∧Safe be br mK∧h.next≤aa.next)
theorem fH.sx{be:Nat→Prop}{br:World}{h:j}{bh:Nat}{v:o}{aa:j}{s:Sem Value}{w:World}(k:pQ P al be br h bh v aa s w){r:Result Next}
 (bb:r=(s.run P w).andThen fun v w=> .ok (.value v) w):fH P al be br h bh v aa r:=by
 obtain⟨bt,bC,bN,p,ad,bd,bS,bI,dx⟩:=k;refine .inl ⟨bt,bC,bN,.inl ?_,ad,bd,bS,bI,by omega⟩;rw [bb,p];rfl
theorem fH.ii{be:Nat→Prop}{br:World}{h:j}{bh:Nat}{v:o}{s:Sem Value}{w:World}(j3:c4 al be h w)(au:Safe be br w)(k:∃bt,s.run P w=.ok bt w∧aN al v bt){r:Result Next}
 (bb:r=(s.run P w).andThen fun v w=> .ok (.value v) w):fH P al be br h bh v h r :=
 fH.sx (pQ.pure j3 au k) bb
theorem l3.of_map{bf:Operand→o}{dV:Operand→Value}(c0:∀x,aN al (bf x) (dV x))(ab:Option Operand):l3 al (ab.map bf) (ab.map dV):=by
 cases ab with
 |none=>trivial
 |some x=>exact c0 x
theorem wj{bf:Operand→o}{dV:Operand→Value}(c0:∀x,aN al (bf x) (dV x))(xs:Array Operand):bH al (xs.toList.map bf) (xs.map dV).toList:=by rw [Array.toList_map];exact bH.map _ _ _ fun x _=>c0 x
theorem SP{l:List o}(h:l.all (·.j4)=true):flat l=l:=by
 induction l with
 |nil=>rfl
 |cons a r ih =>
  simp only [List.all_cons,Bool.and_eq_true]at h;have e:a.cells=[a]:=by cases a<;>first|rfl|(simp [o.j4]at h)
  show a.cells++flat r=a::r;rw [e,ih h.2];rfl
theorem SQ{D:dL}(b':D.dw P){be:Nat→Prop}{h aa:j}{br w:World}(r:c4 al be h w)(dE:Safe be br w){t u aq:TypeId}{s x v:o}{bL bV:Value}(an:aN al s bL)(ae:aN al x bV)(ai:CU D t s x h=some (v,aa)) :
 ∃bt bC,(Builtin.copy_ #[t,u] aq #[bL,bV]).run P w=.ok bt bC∧aN al v bt∧c4 al be aa bC∧Safe be br bC∧aa.next=h.next:=by
 unfold CU at ai;split at ai
 ·rename_i d a len cap h8 n afL aC;obtain⟨DH,DI,DJ,qX,qY, -⟩:=b'.get aC;split at ai
  ·rename_i e ap;rw [qY]at ap;have:=ln ap;subst this;split at ai
   ·rename_i cT oF b fU SR l';obtain⟨d',oQ,gb, -, -,fg, -⟩:=b'.get fU;split at ai
    ·rename_i av;obtain⟨dG,ee,f',jM,pT,lr,pU,oV,DK,J1⟩:=av;split at ai
     ·rename_i bp fu;split at ai
      ·rename_i jp;obtain⟨J2,SS⟩:=jp;simp only [Option.some.injEq,Prod.mk.injEq]at ai;obtain⟨rfl,rfl⟩:=ai;simp only [aN]at an ae;obtain⟨xs,SU,rfl,DO,qZ,iF⟩:=an;obtain⟨J7,J8,rfl,dU,fG,wk⟩:=ae;rcases iF with ⟨a8,_⟩|⟨f,a8,q,aD,afM,J9,rfl⟩
       ·omega
       ·obtain⟨I,ac,l8,qU,_⟩:=wk.plain f';rw [jM]at l8;have SV:¬J8=0:=by omega
        rcases qU with eT|⟨eZ,rfl,oN⟩
        ·exact absurd eT SV
        ·obtain⟨news,a6,aO,ft,ht,ig⟩:=r.Dv ac SR eZ pU oV;rw [SP SS]at a6;have Dz:news.length=n:=by rw [ig,←l8,Nat.mul_one]
         rw [J1]at aD;have lk:b.cO b.J=b.bi.length:=by simp [R.cO]
         have sg:a.idx<b.bi.length:=(List.getElem?_eq_some_iff.1 fu).1
         have hs:bp.length=q.es:=by obtain⟨_,c,ad,_,_,_,_,_,cy⟩:=r.dD a.id b.J q aD;rw [l']at ad;simp at ad;subst ad;exact(cy.cont a.idx (.agg bp) J9 (by rw [lk];exact sg) fu).1
         have qS:a.bR-1=f:=by omega
         have SW:((oF.bi.drop h8.idx).take n).length=n:=by have:=a6.length;omega
         obtain⟨aM,aR⟩:=r.store aD l' DK (idx:=a.idx) (bR:=f) (e:= .agg bp) (dT:= .agg (jC bp f ((oF.bi.drop h8.idx).take n))) J9 fu a6 ft (by rw [SW];omega) rfl;rw [qS];refine⟨_,_,run_copy_cells w t u aq e q.cq (q.off+(a.idx-q.a1)*q.es+f) len SU (I.at h8.idx 0) n J8 news qX (by rw [gb];simp [fg▸dG]) (by rw [Dz];exact(Nat.min_eq_left lr).symm) ?_ (fun C aV=>(aR C aV).1) (fun C aV=>(aR C aV).2) ft,?_,aM,?_,rfl⟩
         ·intro C v bg;have:=aO C v bg;cases C with
          |zero=>simpa [Place.at,Addr.add]using this
          |succ C=>simpa [Place.at,Addr.add]using this
         ·rw [Dz];rfl
         ·obtain⟨_,c,ad,g3,g4,g5,g6,g7,cy⟩:=r.dD a.id b.J q aD;rw [l']at ad;simp at ad;subst ad;exact vU q.cq (cy.base (g6 DK)) news _ dE
      ·cases ai
     ·cases ai
    ·cases ai
   ·cases ai
  ·cases ai
 ·cases ai
theorem SX(cH:hv P E){be:Nat→Prop}{h aa:j}{br w:World}(r:c4 al be h w)(dE:Safe be br w)(dn:fC be br.heap.size){bh:Nat}(hid:∀v,al bh v=none)(aS:bh<h.next)
 {b:Builtin} {eN:Array TypeId} (aq:TypeId) (wl:Array Bool) {args:List o} {dF:Array Value} (aT:bH al args dF.toList) {v:o} (ai:fZ E b eN args bh h=some (v,aa)) :
 fH P al be br h bh v aa ((builtin b eN aq wl dF).run P w):=by
 unfold fZ at ai;split at ai
 ·split at ai
  ·rename_i x t bX;simp only [Option.map_eq_some_iff,Prod.mk.injEq]at ai;obtain⟨v1,p,rfl,rfl⟩:=ai;exact fH.ii r dE (Sx cH.hV aq aT bX p w) (by simp [builtin])
  ·cases ai
 ·split at ai
  ·rename_i s x t u bX hu
   have ap:(∃lg,E.D u=some lg∧(lg.kind matches .slice _|.string)=true∧hp E.D t s x bh h=some (v,aa)):=by
    split at ai
    ·rename_i lg mL;split at ai
     ·rename_i he;exact⟨lg,mL,by simp [he],ai⟩
     ·rename_i he;exact⟨lg,mL,by simp [he],ai⟩
     ·cases ai
    ·cases ai
   obtain⟨lg,mL,J',ai⟩:=ap;obtain⟨Ka,SY,afN,Kb,DP, -⟩:=cH.hV.get mL
   have SZ:(∃dT,P.underlying u=some (.slice dT))∨P.underlying u=some .string:=by
    rw [DP]at J';cases SY<;>simp [hb]at J'
    ·right;exact Kb
    ·left;exact⟨_,Kb⟩
   simp only [bH]at aT;obtain⟨bL,ek,bn,an,bV,ck,bs,ae,b7⟩:=aT;subst bs b7;have gH:dF= #[bL,bV]:=by apply Array.ext';simpa using bn
   have hK:=SB cH.hV r dE dn hid aS aq an ae SZ ai;refine fH.sx (s:=Builtin.append_ eN aq dF) (w:=w) ?_ (by simp [builtin]);obtain⟨bt,bC,bN,aM,aR⟩:=hK;refine⟨bt,bC,bN,?_,aR⟩;rw [←aM,gH];have kV:eN[0]? =(#[t,u]:Array TypeId)[0]? :=by rw [bX];rfl
   have qR:eN[1]? =(#[t,u]:Array TypeId)[1]? :=by rw [hu];rfl
   simp only [Builtin.append_,kV,qR]
  ·cases ai
 ·split at ai
  ·rename_i x fL;simp only [Option.map_eq_some_iff,Prod.mk.injEq]at ai;obtain⟨v1,p,rfl,rfl⟩:=ai;exact fH.ii r dE (RZ eN aq aT p w) (by simp [builtin])
  ·cases ai
 ·split at ai
  ·rename_i x fL;simp only [Option.map_eq_some_iff,Prod.mk.injEq]at ai;obtain⟨v1,p,rfl,rfl⟩:=ai;exact fH.ii r dE (R0 eN aq aT p w) (by simp [builtin])
  ·cases ai
 ·
   split at ai
   ·rename_i s x t u bX hu;simp only [bH]at aT;obtain⟨bL,ek,bn,an,bV,ck,bs,ae,b7⟩:=aT;subst bs b7;have gH:dF= #[bL,bV]:=by apply Array.ext';simpa using bn
    obtain⟨bt,bC,aM,aR,bu,hg,ie⟩:=SQ (P:=P) (u:=u) (aq:=aq) cH.hV r dE an ae ai;refine fH.sx (s:=Builtin.copy_ eN aq dF) (w:=w) ⟨bt,bC,al,?_,hq.refl _ _ _,aR,bu,hg,ie⟩ (by simp [builtin]);rw [←aM,gH];have kV:eN[0]? =(#[t,u]:Array TypeId)[0]? :=by rw [bX];rfl
    have qR:eN[1]? =(#[t,u]:Array TypeId)[1]? :=by rw [hu];rfl
    simp only [Builtin.copy_,kV,qR]
   ·cases ai
 ·
   split at ai
   ·rename_i x;simp only [Option.map_eq_some_iff,Prod.mk.injEq]at ai;obtain⟨v1,p,rfl,rfl⟩:=ai;simp only [bH]at aT;obtain⟨bL,ek,bn,an,bs⟩:=aT;subst bs;have gH:dF= #[bL]:=by apply Array.ext';simpa using bn
    subst gH;exact fH.ii r dE (SL (eN:=eN) (aq:=aq) an p w) (by simp [builtin])
   ·cases ai
 ·
   split at ai
   ·rename_i I n t bX;simp only [bH]at aT;obtain⟨bL,ek,bn,an,bV,ck,bs,ae,b7⟩:=aT;subst bs b7;have gH:dF= #[bL,bV]:=by apply Array.ext';simpa using bn
    subst gH;have DQ:bV=.int .i64 n:=by simpa only [aN]using ae
    subst DQ;obtain⟨bt,bC,aM,aR,bu,hg,ie⟩:=SM cH.hV r dE (aq:=aq) bX an ai;exact fH.sx (s:=Builtin.unsafeString_ eN aq #[bL,.int .i64 n]) ⟨bt,bC,al,aM,hq.refl _ _ _,aR,bu,hg,ie⟩ (by simp [builtin])
   ·cases ai
 ·cases ai
theorem S0(cH:hv P E){be:Nat→Prop}{h aa:j}{br w:World}{call:dX}(gd:nN P be br call)(r:c4 al be h w)(dE:Safe be br w)(dn:fC be br.heap.size){bh:Nat}(hid:∀v,al bh v=none)
 (aS:bh<h.next) {bf:Operand→o} {dV:Operand→Value} (c0:∀x,aN al (bf x) (dV x)) {ab:Oper} {v:o} (ai:b0 E call bh bf h ab.op=some (v,aa)) :
 fH P al be br h bh v aa ((execOp dV ab).run P w):=by
 unfold b0 at ai;split at ai
 ·
   rename_i x e;simp only [Option.some.injEq,Prod.mk.injEq]at ai;obtain⟨rfl,rfl⟩:=ai;exact fH.ii (s:=pure (dV x)) r dE ⟨_,rfl,c0 x⟩ (by simp [execOp,e])
 ·rename_i x e;simp only [Option.some.injEq,Prod.mk.injEq]at ai;obtain⟨rfl,rfl⟩:=ai;exact fH.ii (s:=pure (dV x)) r dE ⟨_,rfl,c0 x⟩ (by simp [execOp,e])
 ·
   rename_i c a b e;split at ai
   ·rename_i t av;simp only [Option.some.injEq,Prod.mk.injEq]at ai;obtain⟨rfl,rfl⟩:=ai;have p:=c0 c;rw [av]at p;simp only [aN]at p;refine fH.ii (s:=pure (if t then dV a else dV b)) r dE ⟨_,rfl,?_⟩ (by simp [execOp,e,p,asBool]);cases t
    ·exact c0 b
    ·exact c0 a
   ·cases ai
 ·
   rename_i t e;split at ai
   ·rename_i d aC;obtain⟨iT,u,ia,hu,ap,an, -,eT⟩:=cH.hV.get aC;split at ai
    ·rename_i z wc;split at ai
     ·rename_i av;simp only [Option.some.injEq,Prod.mk.injEq]at ai;obtain⟨rfl,rfl⟩:=ai;simp only [Bool.and_eq_true,decide_eq_true_eq]at av;obtain⟨gl,l7,nK⟩:=tX (P:=P) (al:=al) (t:=t) cH.hV eT wc;obtain⟨bC,bN,aM,aR,bu,hg,ie⟩:=JK (P:=P) (D:=E.D) r dE dn hid aS t nK av.1 av.2;refine .inl ⟨_,bC,bN,.inl ?_,aR,bu,hg,ie,Nat.le_refl _⟩;simp [execOp,e,Instr.alloc,vW ia l7,aM]
     ·cases ai
    ·cases ai
   ·cases ai
 ·
   rename_i t x e;split at ai
   ·rename_i d aC;split at ai
    ·rename_i av;simp only [Option.some.injEq,Prod.mk.injEq]at ai;obtain⟨rfl,rfl⟩:=ai;simp only [Bool.and_eq_true,decide_eq_true_eq]at av;obtain⟨bC,bN,aM,aR,bu,hg,ie⟩:=JK (P:=P) (D:=E.D) r dE dn hid aS t (c0 x) av.1 av.2;refine .inl ⟨_,bC,bN,.inl ?_,aR,bu,hg,ie,Nat.le_refl _⟩;simp [execOp,e,Instr.box,aM]
    ·cases ai
   ·cases ai
 ·
   rename_i t parts e;simp only [Option.map_eq_some_iff,Prod.mk.injEq]at ai;obtain⟨v1,p,rfl,rfl⟩:=ai;exact fH.ii r dE (Sj cH.hV c0 p w) (by simp [execOp,e])
 ·
   rename_i t n parts e;exact fH.sx (Sr cH.hV r dE dn hid aS c0 ai) (by simp [execOp,e])
 ·
   rename_i t x e;split at ai
   ·rename_i a aT;simp only [Option.map_eq_some_iff,Prod.mk.injEq]at ai;obtain⟨v1,p,rfl,rfl⟩:=ai;exact fH.ii r dE (JI cH.hV r (by have:=c0 x;rw [aT]at this;exact this) p) (by simp [execOp,e])
   ·cases ai
 ·
   rename_i t x y e;split at ai
   ·rename_i a aT;simp only [Option.map_eq_some_iff,Prod.mk.injEq]at ai;obtain⟨p,bE,rfl,rfl⟩:=ai;obtain⟨bC,aM,aR,bu,hg⟩:=Sf cH.hV r dE (by have:=c0 x;rw [aT]at this;exact this) (c0 y) bE;refine .inl ⟨undef,bC,al,.inr ⟨?_,rfl⟩,hq.refl _ _ _,aN.gp al,aR,bu,by omega⟩;simp [execOp,e,aM]
   ·cases ai
 ·
   rename_i x e;split at ai
   ·rename_i a aT;simp only [Option.some.injEq,Prod.mk.injEq]at ai;obtain⟨rfl,rfl⟩:=ai;have p:=c0 x;rw [aT]at p;have ad:=p;simp only [aN]at ad;obtain⟨fN,ad,bd⟩:=ad;exact fH.ii (s:=pure (dV x)) r dE ⟨_,rfl,p⟩ (by simp [execOp,e,ad])
   ·rename_i g b4 bp aT;simp only [Option.some.injEq,Prod.mk.injEq]at ai;obtain⟨rfl,rfl⟩:=ai;have p:=c0 x;rw [aT]at p;have ad:=p;simp only [aN]at ad;obtain⟨gk,fS,ad,bd,bS⟩:=ad;exact fH.ii (s:=pure (dV x)) r dE ⟨_,rfl,p⟩ (by simp [execOp,e,ad])
   ·cases ai
 ·
   rename_i op t x y aq e;simp only [Option.map_eq_some_iff,Prod.mk.injEq]at ai;obtain⟨v1,p,rfl,rfl⟩:=ai;obtain⟨bt,aM,aR,bu⟩:=RT cH.hV cH.eqs (c0 x) (c0 y) p w;exact fH.ii (s:=binOp op t (dV x) (dV y)) r dE ⟨bt,aR,bu⟩ (by simp [execOp,e,aM])
 ·
   rename_i op t x e;simp only [Option.map_eq_some_iff,Prod.mk.injEq]at ai;obtain⟨v1,p,rfl,rfl⟩:=ai;exact fH.ii r dE (RU (c0 x) p w) (by simp [execOp,e])
 ·
   rename_i s d x e;simp only [Option.map_eq_some_iff,Prod.mk.injEq]at ai;obtain⟨v1,p,rfl,rfl⟩:=ai;exact fH.ii r dE (RV cH.hV (c0 x) p w) (by simp [execOp,e])
 ·
   rename_i g b4 bp e;simp only [Option.some.injEq,Prod.mk.injEq]at ai;obtain⟨rfl,rfl⟩:=ai;refine fH.ii (s:=pure (.func (.func g) (b4.map dV) (bp.map dV))) r dE ⟨_,rfl,?_⟩ (by simp [execOp,e,Instr.makeFunc]);simp only [aN];exact⟨_,_,rfl,wj c0 b4,wj c0 bp⟩
 ·
   rename_i t x e;split at ai
   ·rename_i d aC;obtain⟨iT,u,ia,hu,ap, -⟩:=cH.hV.get aC;split at ai
    ·cases ai
    ·rename_i wm;simp only [Option.some.injEq,Prod.mk.injEq]at ai;obtain⟨rfl,rfl⟩:=ai;refine fH.ii (s:=Instr.makeInterface t (dV x)) r dE ⟨.iface t (dV x),?_,by simp only [aN];exact⟨_,rfl,c0 x⟩⟩ (by simp [execOp,e]);rw [ap]at wm;simp only [Instr.makeInterface,Sem.run_bind,run_underlying hu,Result.andThen_ok];cases u<;>first|rfl|exact absurd rfl (wm _)
   ·cases ai
 ·
   rename_i t l c e;exact fH.sx (Su cH.hV r dE dn hid aS (c0 l) (c0 c) ai) (by simp [execOp,e])
 ·
   rename_i t x a1 ak fR e;simp only [Option.map_eq_some_iff,Prod.mk.injEq]at ai;obtain⟨v1,p,rfl,rfl⟩:=ai;exact fH.ii r dE (Sa cH.hV (c0 x) (l3.of_map c0 a1) (l3.of_map c0 ak) (l3.of_map c0 fR) p w) (by simp [execOp,e])
 ·
   rename_i t x f e;simp only [Option.map_eq_some_iff,Prod.mk.injEq]at ai;obtain⟨v1,p,rfl,rfl⟩:=ai;exact fH.ii r dE (R5 cH.hV (c0 x) p w) (by simp [execOp,e])
 ·
   rename_i t x f e;simp only [Option.map_eq_some_iff,Prod.mk.injEq]at ai;obtain⟨v1,p,rfl,rfl⟩:=ai;exact fH.ii r dE (R1 cH.hV (c0 x) p w) (by simp [execOp,e])
 ·
   rename_i t x i e;simp only [Option.map_eq_some_iff,Prod.mk.injEq]at ai;obtain⟨v1,p,rfl,rfl⟩:=ai;exact fH.ii r dE (R9 cH.hV (c0 x) (c0 i) p w) (by simp [execOp,e])
 ·
   rename_i t x i e;simp only [Option.map_eq_some_iff,Prod.mk.injEq]at ai;obtain⟨v1,p,rfl,rfl⟩:=ai;exact fH.ii r dE (R2 cH.hV (c0 x) (c0 i) p w) (by simp [execOp,e])
 ·
   rename_i x i e;split at ai
   ·rename_i ci bg;simp only [Option.map_eq_some_iff,Prod.mk.injEq]at ai;obtain⟨v1,p,rfl,rfl⟩:=ai;exact fH.ii r dE (R4 (by have:=c0 x;rw [bg]at this;exact this) p w) (by simp [execOp,e])
   ·cases ai
 ·
   rename_i c e;split at ai
   ·rename_i f a8;unfold oE at ai;split at ai
    ·rename_i g first captured DR
     have p:=c0 f;rw [DR]at p;simp only [aN]at p;obtain⟨gk,fS,p,zC,S1⟩:=p
     have gH:bH al (first++c.args.toList.map bf++captured) (gk++c.args.map dV++fS).toList:=by simp only [Array.toList_append];exact(zC.append (wj c0 c.args)).append S1
     obtain⟨⟨fn,body,pG,zD⟩,hs⟩:=gd _ _ _ _ _ ai al w _ r dE gH;refine .inr ⟨g,gk++c.args.map dV++fS,w,?_,hs.mono ?_⟩
     ·have S2:¬fn.name= "runtime.NumGoroutine" :=by simpa using cH.names g fn pG
      simp [execOp,e,resolve,a8,p,Deferred.ofValue,invoke,callFunc,pG,S2,zD]
     ·rintro dT mK ⟨bt,bN,aM,aR,hg,ie,mJ,DS⟩;exact⟨bt,bN,aM,⟨aR.le,fun i ak _ l9=>aR.new i ak l9,aR.ro⟩,hg,ie,mJ,DS⟩
    ·cases ai
   ·rename_i b a8;have he:∃wl,(execOp dV ab).run P w=(builtin b c.argTypes ab.type wl (c.args.map dV)).run P w:=⟨_,by simp [execOp,e,resolve,a8,invoke];rfl⟩
    obtain⟨wl,he⟩:=he;rw [he];exact SX cH r dE dn hid aS ab.type wl (wj c0 c.args) ai
   ·cases ai
 ·cases ai
theorem Kc:∀(bM:List Int)(r:ByteArray),(bM.foldl (fun r n=>r.push (UInt8.ofNat n.toNat)) r).data.toList=r.data.toList++bM.map (fun n=>UInt8.ofNat n.toNat)
 |[],r=>by simp
 |n::l,r=>by simp only [List.foldl_cons,List.map_cons];rw [Kc l];simp [ByteArray.push]
theorem wo(w:World)(a:Addr)(k:Nat):(w.freeze a 1).heap[k]? =if a.block=k then(w.heap[k]?).map fun ab=>match ab with
 |.cells c elem (a1,ak)=> .cells c elem (if a1 == ak then(a.off,a.off+1)else(min a1 a.off,max ak (a.off+1)))
 |ab=>ab else w.heap[k]? :=by
 unfold World.freeze;rw [if_neg (by decide)];simp only [Array.getElem?_modify];rfl
theorem Kd(w:World)(a x:Addr):(w.freeze a 1).cell? x=w.cell? x:=by
 unfold World.cell?;rw [wo];by_cases h:a.block=x.block
 ·rw [if_pos h];cases bW:w.heap[x.block]? with
  |none=>rfl
  |some ab =>
   cases ab;case cells c t f=>obtain⟨a1,ak⟩:=f;rfl
   all_goals rfl
 ·rw [if_neg h]
theorem kQ.freeze{w:World}{a:Addr}{n:Nat}(aS:∃t a1 ak,fF w a.block=some (t,n,a1,ak)∧(a1=ak∨n≤a1))(aT:a.off=n){k:Nat}(h:kQ w k):kQ (w.freeze a 1) k:=by
 by_cases e:a.block=k
 ·subst e;obtain⟨wq,a1,ak,p,ad⟩:=aS;unfold kQ fF;rw [wo,if_pos rfl];unfold fF at p;cases bW:w.heap[a.block]? with
  |none=>rw [bW]at p;cases p
  |some ab =>
   rw [bW]at p;cases ab
   case cells c t f =>
    obtain⟨ic,ga⟩:=f;simp only [Option.some.injEq,Prod.mk.injEq]at p;obtain⟨rfl,rfl,rfl,rfl⟩:=p;simp only [Option.map_some];by_cases az:ic=ga
    ·refine⟨t,c.size,a.off,a.off+1,by simp [az],.inr (by omega)⟩
    ·refine⟨t,c.size,min ic a.off,max ga (a.off+1),by simp [az],.inr ?_⟩;rcases ad with ad|ad
     ·exact absurd ad az
     ·omega
   all_goals cases p
 ·exact h.of_eq (se (by rw [wo,if_neg e]))
theorem kQ.free{w:World}{b ab:Nat}(h:kQ w b)(av:(w.cell? ⟨b,ab,none⟩).isSome=true):w.frozen? ⟨b,ab,none⟩=false:=by
 obtain⟨wq,n,a1,ak,p,ad⟩:=h;unfold fF at p;unfold World.cell? at av;unfold World.frozen?;simp only at av⊢;cases bW:w.heap[b]? with
 |none=>simp [bW]at p
 |some DG =>
  rw [bW]at p av;cases DG
  case cells c t f =>
   obtain⟨ic,ga⟩:=f;simp only [Option.some.injEq,Prod.mk.injEq]at p;obtain⟨rfl,rfl,rfl,rfl⟩:=p;simp only [Option.isSome_none,Bool.false_eq_true,if_false]at av
   have ai:ab<c.size:=by
    rcases Nat.lt_or_ge ab c.size with h|h
    ·exact h
    ·rw [Array.getElem?_eq_none h]at av;cases av
   simp;omega
  all_goals cases p
theorem S3{w:World}{a:Addr}{k:Nat}{t:TypeId}{n a1 ak:Nat}(h:fF w k=some (t,n,a1,ak)):∃a1 ak,fF (w.freeze a 1) k=some (t,n,a1,ak):=by
 unfold fF at h⊢;rw [wo];by_cases e:a.block=k
 ·rw [if_pos e];cases bW:w.heap[k]? with
  |none=>rw [bW]at h;cases h
  |some ab =>
   rw [bW]at h;cases ab
   case cells c fj f =>
    obtain⟨ic,ga⟩:=f;simp only [Option.some.injEq,Prod.mk.injEq]at h;obtain⟨rfl,rfl,rfl,rfl⟩:=h;simp only [Option.map_some];by_cases az:ic=ga
    ·exact⟨a.off,a.off+1,by simp [az]⟩
    ·exact⟨min ic a.off,max ga (a.off+1),by simp [az]⟩
   all_goals cases h
 ·rw [if_neg e];exact⟨a1,ak,h⟩
theorem c4.freeze{be:Nat→Prop}{h:j}{w:World}(r:c4 al be h w){a:Addr}{n:Nat}(aS:∃t a1 ak,fF w a.block=some (t,n,a1,ak)∧(a1=ak∨n≤a1))(aT:a.off=n):c4 al be h (w.freeze a 1) where
 dD i v I ac:=by
  obtain⟨p,b,ad,bd,bS,bI,dx,cP,cy⟩:=r.dD i v I ac;have hm:b.ro=false→kQ (w.freeze a 1) I.cq:=fun bb=>(cy.mark bb).freeze aS aT
  have hs:∀ab,ab<I.fE*I.es→((w.freeze a 1).cell? ⟨I.cq,I.off+ab,none⟩).isSome=true:=fun ab ai=>by rw [Kd];exact cy.cells ab ai
  refine⟨p,b,ad,bd,bS,bI,dx,cP,⟨?_,cy.base,hs,fun bb ab ai=>(hm bb).free (hs ab ai),hm,fun t9 fA=>(by obtain⟨DC,SH,i9,DD,DE,DF⟩:=cy.jn t9 fA;obtain⟨oU,i8,wg⟩:=S3 (a:=a) DD;exact⟨DC,oU,i8,wg,DE,DF⟩),fun i e g1 g2 g3=> ?_⟩⟩
  ·have:=cy.cq;unfold World.freeze;rw [if_neg (by decide)];simpa using this
  ·obtain⟨dH,dy,gy⟩:=cy.cont i e g1 g2 g3
   exact⟨dH,dy,fun C bV ae=>by
    obtain⟨x,pR,ss⟩:=gy C bV ae
    exact⟨x,by rw [Kd];exact pR,ss⟩⟩
 apart:=r.apart
 same:=r.same
theorem Safe.freeze{S:Nat→Prop}{a w:World}(h:Safe S a w){I:Addr}(ac:¬S I.block):Safe S a (w.freeze I 1) :=
 h.trans ⟨by unfold World.freeze;rw [if_neg (by decide)],by unfold World.freeze;rw [if_neg (by decide)],by unfold World.freeze;rw [if_neg (by decide)],by unfold World.freeze;rw [if_neg (by decide)];simp,fun k ap=>by
  have b1:¬I.block=k:=fun e=>ac (by rw [e];exact ap)
  rw [wo,if_neg b1]⟩
theorem S4(w:World)(s e:TypeId)(x:Addr)(n c:Nat)(an:P.underlying s=some (.slice e))(he:P.underlying e=some (.int .u8)){wq:TypeId}{m a1 ak:Nat}(hm:fF w x.block=some (wq,m,a1,ak)) :
 (convert s s (.slice (some x) n c)).run P w=.ok (.slice (some x) n c) (w.freeze ⟨x.block,m,none⟩ 1):=by
 unfold fF at hm;cases bW:w.heap[x.block]? with
 |none=>rw [bW]at hm;cases hm
 |some ab =>
  rw [bW]at hm;cases ab
  case cells wu t f =>
   obtain⟨ic,ga⟩:=f;simp only [Option.some.injEq,Prod.mk.injEq]at hm;obtain⟨rfl,rfl,rfl,rfl⟩:=hm;have hW:w.shape? x.block=some (t,wu.size):=by unfold World.shape?;rw [bW]
   simp [convert,run_underlying an,run_underlying he,markStringish,hW]
  all_goals cases hm
theorem S5{D:dL}(b':D.dw P){be:Nat→Prop}{h aa:j}{br w:World}(r:c4 al be h w)(dE:Safe be br w)(dn:fC be br.heap.size){bh:Nat}(hid:∀v,al bh v=none)(aS:bh<h.next)
 {s d:TypeId} {x v:o} {bV:Value} (ae:aN al x bV) (ai:oG D s d x bh h=some (v,aa)):pQ P al be br h bh v aa (convert s d bV) w:=by
 unfold oG at ai;split at ai
 ·rename_i nE fM bw DT wv;obtain⟨gR,S6,S7,uc,zE, -, -⟩:=b'.get DT;obtain⟨DH,DI,DJ,qX,qY, -, -⟩:=b'.get wv;split at ai
  ·rename_i e cw he;rw [zE]at cw;rw [qY]at he;have:=qP cw;subst this;have:=ln he;subst this;split at ai
   ·rename_i hc pM;obtain⟨zl,qR,oO,pN,lp, -, -⟩:=b'.get pM;split at ai
    ·rename_i ap;rw [lp]at ap;have:=vV ap;subst this;simp only [Option.some.injEq,Prod.mk.injEq]at ai;obtain⟨rfl,rfl⟩:=ai;simp only [aN]at ae;obtain⟨t,rfl,rfl⟩:=ae;have kr:=Go.run_bytes_of_string (P:=P) w s d e t uc qX pN;have gr:t.size≤grownCap w t.size 0 e:=grownCap_ge w t.size 0 e;have eX:(bytesRow t (grownCap w t.size 0 e)).size=grownCap w t.size 0 e:=by simp [bytesRow];omega
     have hlen:(t.data.toList.map fun b=>o.int .u8 b.toNat).length=t.size:=by rw [List.length_map,Array.length_toList];rfl
     have Ke:t.data.toList.length=t.size:=by rw [Array.length_toList];rfl
     have jL:fC be w.heap.size:=dn.le dE.size;refine⟨_,_,al.add bh 0 ⟨w.heap.size,0,0,1,grownCap w t.size 0 e,false,false⟩,kr,hq.add al _ (hid 0) _,?_,?_,dE.drew.alloc (by simpa using jL) _,rfl⟩
     ·rw [Ke];exact aN.j5 (ex:=false) (Nat.le_refl _) gr (Nat.le_refl _) (by simp)
     ·have S8:flat (t.data.toList.map fun b=>o.int .u8 b.toNat)=t.data.toList.map fun b=>o.int .u8 b.toNat:=by
       generalize t.data.toList=l;induction l with
       |nil=>rfl
       |cons a r ih=>simp only [List.map_cons,flat,List.flatMap_cons,o.cells]at ih⊢; rw [ih];rfl
      have Kf:(bytesRow t (grownCap w t.size 0 e)).toList.take ((t.data.toList.map fun b=>o.int .u8 b.toNat).length*1)=t.data.toList.map fun b=>Value.int .u8 b.toNat:=by rw [hlen,Nat.mul_one];simp [bytesRow,List.take_append,Ke]
      refine(r.alike (Alike.wb w)).RE hid aS (by simpa using jL) (Nat.one_pos) ?_ ?_ (by rw [eX];simp) (by rw [hlen];exact gr) ?_ ?_ nofun
      ·intro e he;obtain⟨b,_,rfl⟩:=List.mem_map.1 he;rfl
      ·rw [Kf,S8];exact bH.map _ _ _ fun b _=>by simp only [aN]
      ·rw [Kf];intro u hu;obtain⟨_,_,rfl⟩:=List.mem_map.1 hu;rfl
      ·exact .inr (Nat.le_refl _)
    ·cases ai
   ·cases ai
  ·cases ai
 ·rename_i nE fM a n c DT wv;obtain⟨gR,S6,S7,uc,zE, -, -⟩:=b'.get DT;obtain⟨DH,DI,DJ,qX,qY, -, -⟩:=b'.get wv;split at ai
  ·rename_i e dT q0 oW;rw [zE]at q0;rw [qY]at oW;have:=ln q0;subst this;have:=ln oW;subst this;split at ai
   ·rename_i hc sb pM;obtain⟨zl,qR,oO,pN,lp, -, -⟩:=b'.get pM;split at ai
    ·rename_i b ap au;rw [lp]at ap;have:=vV ap;subst this;split at ai
     ·rename_i av;obtain⟨rfl,eY,a8,ir⟩:=av;simp only [Option.some.injEq,Prod.mk.injEq]at ai;obtain⟨rfl,rfl⟩:=ai;have r5:=ae;simp only [aN]at ae;obtain⟨fN,dm,rfl,ek,ck,iF⟩:=ae;obtain⟨I,ac,jK,j6,hex⟩:=iF.plain a8;obtain⟨g1,iS,g2,g3,g4,g5,g6,g7,g8⟩:=r.dD _ _ _ ac;rw [au]at g2;simp at g2;subst g2;have ud:b.ro=false:=eY;rcases j6 with bm|⟨eZ,rfl,oM⟩
      ·omega
      ·obtain⟨wq,m,a1,ak,m1,m2⟩:=g8.mark ud;exact⟨_,_,al,S4 w s e (I.at sb.idx 0) n dm uc pN m1,hq.refl _ _ _,r5,r.freeze (a:=⟨I.cq,m,none⟩) ⟨wq,a1,ak,m1,m2⟩ rfl,dE.freeze (g8.base (g6 ud)),rfl⟩
     ·cases ai
    ·cases ai
   ·cases ai
  ·rename_i e q0 oW;rw [zE]at q0;rw [qY]at oW;have:=ln q0;subst this;have:=qP oW;subst this;split at ai
   ·rename_i hc pM;obtain⟨zl,qR,oO,pN,lp, -, -⟩:=b'.get pM;split at ai
    ·rename_i ap;rw [lp]at ap;have:=vV ap;subst this;split at ai
     ·rename_i l az;cases au:bytesOf l with
      |none=>rw [au]at ai;cases ai
      |some q =>
       rw [au]at ai;simp only [Option.map_some,Option.some.injEq,Prod.mk.injEq]at ai;obtain⟨rfl,rfl⟩:=ai;obtain⟨news,src,pS,fu⟩:=zv (P:=P) (ib:=s) r ae az (Nat.one_pos) (.inl ⟨e,uc⟩);obtain⟨bM,bn,bs⟩:=JY au pS;refine pQ.pure r dE ?_;cases a with
       |none =>
        simp only [aN]at ae;obtain⟨rfl,_,_⟩:=ae;have bm:=src.cells;refine⟨.string .empty,?_,?_⟩
        ·rw [run_convert_bytes_string w s d e none 0 0 uc pN qX];rfl
        ·simp only [aN];refine⟨_,rfl,?_⟩
         have jE:l=[]:=by have:=src.len w;simp [Builtin.lenOf]at this;exact List.length_eq_zero_iff.1 this.symm
         subst jE;simp [bytesOf]at au;subst au;rfl
       |some a =>
        simp only [aN]at ae;obtain⟨fN,dm,rfl,ek,ck,iF⟩:=ae
        have l6:l.length=n:=by have:=src.len w;simp [Builtin.lenOf]at this;exact this.symm
        have bm:=src.cells;rw [l6]at bm
        have mM:(loadCells fN n).run P w=.ok (bM.map (Value.int .u8)).toArray w:=by rw [bn]at bm;simpa [Builtin.firstCells]using bm
        refine⟨_,by rw [run_convert_bytes_string w s d e (some fN) n dm uc pN qX];exact run_bytesToString w fN n dm bM mM,?_⟩;simp only [aN];refine⟨_,rfl,?_⟩;rw [Kc,bs];rfl
     ·cases ai
    ·cases ai
   ·cases ai
  ·cases ai
 ·cases ai
theorem S9{k:Nat}{args:List o}{dF:Array Value}(aT:bH al args dF.toList){v:o}(h:CV k args=some v){zF:Array Value→Sem Value}(he:wi k=some zF)(w:World) :
 ∃bt,(zF dF).run P w=.ok bt w∧aN al v bt:=by
 unfold CV at h;split at h
 ·rename_i s c;obtain⟨l⟩:=dF;simp only [bH]at aT;obtain⟨a,t,rfl,q1,b,u,rfl,hL,rfl⟩:=aT;simp only [aN]at q1 hL;obtain⟨fj,rfl,rfl⟩:=q1;subst hL;split at h
  ·simp only [Option.some.injEq]at h;subst h;simp only [wi,Option.some.injEq]at he;subst he;exact⟨_,Go.Lib.run_countString fj c w,by simp only [aN]⟩
  ·simp only [Option.some.injEq]at h;subst h;simp only [wi,Option.some.injEq]at he;subst he;exact⟨_,Go.Lib.run_indexByteString fj c w,by simp only [aN]⟩
  ·cases h
 ·rename_i s s2;obtain⟨l⟩:=dF;simp only [bH]at aT;obtain⟨a,t,rfl,q1,b,u,rfl,hL,rfl⟩:=aT;simp only [aN]at q1 hL;obtain⟨fj,rfl,rfl⟩:=q1;obtain⟨tW,rfl,rfl⟩:=hL;split at h
  ·rename_i ap;subst ap;simp only [Option.some.injEq]at h;subst h;simp only [wi,Option.some.injEq]at he;subst he;exact⟨_,Go.Lib.run_compareString fj tW w,by simp only [aN]⟩
  ·cases h
 ·cases h
theorem S'(cH:hv P E){be:Nat→Prop}{h aa:j}{br w:World}{call:dX}(gd:nN P be br call)(r:c4 al be h w)(dE:Safe be br w)(dn:fC be br.heap.size){bh:Nat}(hid:∀v,al bh v=none)
 (aS:bh<h.next) {bf:Operand→o} {dV:Operand→Value} (c0:∀x,aN al (bf x) (dV x)) {ab:Oper} {v:o} (ai:jk E call bh bf h ab.op=some (v,aa)) :
 fH P al be br h bh v aa ((execOp dV ab).run P w):=by
 unfold jk at ai;split at ai
 ·rename_i j3 bm;simp only [Option.some.injEq]at ai;subst ai;exact S0 cH gd r dE dn hid aS c0 bm
 ·unfold eO at ai;split at ai
  ·rename_i s d x e;exact fH.sx (S5 cH.hV r dE dn hid aS (c0 x) ai) (by simp [execOp,e])
  ·rename_i c e;split at ai
   ·rename_i f a8;split at ai
    ·rename_i g DR;split at ai
     ·rename_i k ap;simp only [Option.map_eq_some_iff,Prod.mk.injEq]at ai;obtain⟨v1,p,rfl,rfl⟩:=ai;obtain⟨fn,zF,kt,t',sy,Ta,Tb⟩:=cH.J6 g k ap;have bg:=c0 f;rw [DR]at bg;simp only [aN,bH]at bg;obtain⟨gk,fS,zt,tV,Kg⟩:=bg;have Tc:gk= #[]:=by cases gk;simp at tV;subst tV;rfl
      have zG:fS= #[]:=by cases fS;simp at Kg;subst Kg;rfl
      subst Tc;subst zG;have gH:=wj c0 c.args;have jr:=S9 (P:=P) gH p Tb w;refine fH.ii (s:=zF (c.args.map dV)) r dE jr ?_;have kr:=run_callFunc_extern kt (cH.names g fn kt) t' sy Ta (c.args.map dV) w;rw [←kr];simp [execOp,e,resolve,a8,zt,Deferred.ofValue,invoke]
     ·cases ai
    ·cases ai
   ·cases ai
  ·cases ai
theorem Td(cH:hv P E){be:Nat→Prop}{h aa:j}{br w:World}{call:dX}(gd:nN P be br call)(r:c4 al be h w)(dE:Safe be br w)(dn:fC be br.heap.size){bh:Nat}(hid:∀v,al bh v=none)
 (aS:bh<h.next) {bf:Operand→o} {a:Act} (c0:∀x,aN al (bf x) (a.eval x)) {ab:Oper} {v:o} (ai:jk E call bh bf h ab.op=some (v,aa)) {next:Act→World→Prop} {Q:Exit→Act→World→Prop}
 (ap:∀bt bC bN,hq al bN h.next bh→aN bN v bt→c4 bN be aa bC→Safe be br bC→h.next≤aa.next→next (a.put ab.dst bt) bC):ab.wp P a w next Q:=by
 unfold Oper.wp;rcases S' cH gd r dE dn hid aS c0 ai with ⟨bt,bC,bN,bb,aR,bu,hg,ie,mJ⟩|⟨f,args,bC,bb,av⟩
 ·rcases bb with bb|⟨bb,rfl⟩
  ·rw [bb];exact ap _ _ _ aR bu hg ie mJ
  ·rw [bb];exact ap _ _ _ aR bu hg ie mJ
 ·rw [bb]
  exact av.mono fun e mK ⟨bt,bN,aM,aR,bu,hg,ie,mJ⟩=>by subst aM;exact ap _ _ _ aR bu hg ie mJ
end
end
end Go.cM
namespace Go.cM
noncomputable section
open Go.RowKit
structure gS(al:Map)(be:Nat→Prop)(br:World)(s:fz)(a:Act)(w:World):Prop where
 fa:bH al s.fa a.tmps.toList
 heap:c4 al be s.heap w
 below:Safe be br w
 defers:a.defers=[]
section
variable {P:Program}{al:Map}{E:b5}
theorem bH.DU{l:List o}{t:Array Value}(h:bH al l t.toList)(i:Nat):aN al (l.getD i .undef) (t.getD i undef):=by
 have ad:t.getD i undef=t.toList.getD i undef:=by simp [Array.getD_eq_getD_getElem?,List.getD_eq_getElem?_getD]
 rw [ad];exact h.getD i
theorem gS.eval{be:Nat→Prop}{br w:World}{s:fz}{a:Act}(r:gS al be br s a w)(x:Operand):aN al (di s.fa x) (a.eval x):=by
 cases x with
 |tmp t=>exact r.fa.DU t
 |const v=>exact Jk al v
 |global g=>simp [di,aN]
 |func f=>simp only [di,aN];exact⟨#[],#[],rfl,by simp [bH],by simp [bH]⟩
theorem Kh{s:List o}{a:Act}(h:bH al s a.tmps.toList)(dst:Option Tmp){v:o}{bt:Value}(bg:aN al v bt):bH al (hS s dst v) (a.put dst bt).tmps.toList:=by
 cases dst with
 |none=>exact h
 |some d =>
  simp only [hS,Act.put,Array.toList_setIfInBounds];exact h.set d bg
theorem put_defers(a:Act)(dst:Option Tmp)(v:Value):(a.put dst v).defers=a.defers:=by cases dst<;>rfl
theorem Ki{s:List o}{a:Act}(h:bH al s a.tmps.toList){ops:Array Oper}{ab:Oper}{b:Bool}(hw:jl ops s ab=some b):Region.wanted ab (yielded ops a.tmps)=b:=by
 unfold jl at hw;unfold Region.wanted;split at hw
 ·rename_i e;simp at hw;subst hw;simp [e]
 ·rename_i C want e;rw [e];simp only;split at hw
  ·rename_i d aC;unfold yielded;rw [aC];simp only [Option.bind_some];split at hw
   ·rename_i c av;simp at hw;subst hw;obtain⟨v,bg,pK⟩:=h.get av;simp only [aN]at pK;subst pK;have DV:a.tmps[d]? =some (.bool c):=by simpa using bg
    rw [DV];cases c<;>cases want<;>rfl
   ·rename_i av;simp at hw;subst hw;obtain⟨v,bg,pK⟩:=h.get av;simp only [aN]at pK;obtain⟨xs,rfl,_⟩:=pK;have DV:a.tmps[d]? =some (.tuple xs):=by simpa using bg
    rw [DV];cases want<;>rfl
   ·cases hw
  ·cases hw
theorem Kj(cH:hv P E){be:Nat→Prop}{br w:World}(dn:fC be br.heap.size){call:dX}(gd:nN P be br call){ops:Array Oper}{aj i:Nat}{s bL:fz}{a:Act}(r:gS al be br s a w)
 (hid:aj+i<s.heap.next∧∀v,al (aj+i) v=none) (h:qL E call ops aj i s=some bL) {K:Act→World→Prop} {Q:Exit→Act→World→Prop}
 (ap:∀cG bC bN,hq al bN s.heap.next (aj+i)→gS bN be br bL cG bC→s.heap.next≤bL.heap.next→K cG bC):wpOp P ops Q i K a w:=by
 unfold qL at h;unfold wpOp;split at h
 ·rename_i ai;simp at h;subst h;rw [ai];exact ap a w al (hq.refl _ _ _) r (Nat.le_refl _)
 ·rename_i ab ai;rw [ai];split at h
  ·rename_i hw;have oX:=Ki r.fa hw;split at h
   ·rename_i v ac hf;simp at h;subst h;simp only [oX,if_true];left;refine Td cH gd r.heap r.below dn hid.2 hid.1 r.eval hf fun bt bC bN p ad bd bS bI=> ?_
    refine ap _ bC bN p ⟨?_,bd,bS,by rw [put_defers];exact r.defers⟩ bI;exact Kh (r.fa.mono p.le) _ ad
   ·cases h
  ·rename_i hw;have oX:=Ki r.fa hw;simp at h;subst h;simp only [oX,Bool.false_eq_true,if_false];exact ap _ w al (hq.refl _ _ _) ⟨Kh r.fa _ (aN.gp al),r.heap,r.below,by rw [put_defers];exact r.defers⟩ (Nat.le_refl _)
  ·cases h
theorem Kk(cH:hv P E){be:Nat→Prop}{br:World}(dn:fC be br.heap.size){call:dX}(gd:nN P be br call){ops:Array Oper}{aj:Nat}{Q:Exit→Act→World→Prop} :
 ∀{l:List Nat}{s bL:fz}{a:Act}{w:World}{al:Map},oH E call ops aj l s=some bL→gS al be br s a w→l.Nodup→(∀C∈l,aj+C<s.heap.next∧∀v,al (aj+C) v=none) →
  (∀cG bC bN,fk al bN aj→gS bN be br bL cG bC→s.heap.next≤bL.heap.next→Q .normal cG bC)→wpOps P ops Q l a w
 |[],s,bL,a,w,al,h,r,_,_,ap=>by simp [oH]at h;subst h;simp only [wpOps];exact ap a w al (fk.refl _ _) r (Nat.le_refl _)
 |i ::rest,s,bL,a,w,al,h,r,h5,hid,ap=>by
  simp only [oH]at h;split at h
  ·rename_i s1 p;rw [wpOps_cons];have Kl:=List.nodup_cons.1 h5;refine Kj cH dn gd r (hid i (by simp)) p fun cG bC bN ae fL hle=> ?_
   refine Kk cH dn gd h fL Kl.2 (fun C aV=> ?_) fun sz mK sA DW DX Te=> ?_
   ·have pV : aj + C ≠ aj + i := by intro e;have:C=i:=by omega
                                    subst this;exact Kl.1 aV
    obtain⟨g1,g2⟩:=hid C (by simp [aV]);exact⟨by omega,ae.new _ g1 pV g2⟩
   ·refine ap _ _ _ (fk.trans ⟨ae.le,fun k kU l9=>ae.new k ?_ (by omega) l9,ae.ro⟩ DW) DX (by omega);have:=(hid i (by simp)).1;omega
  ·cases h
end
end
end Go.cM
namespace Go.cM
noncomputable section
open Go.RowKit
mutual
theorem o.zH:∀{a b:o},o.same a b=true→a=b:=by
 intro a b h
 cases a<;>cases b<;>simp only [o.same,Bool.false_eq_true,Bool.and_eq_true,beq_iff_eq,decide_eq_true_eq]at h <;>
  first
   |rfl
   |(subst h;rfl)
   |(obtain⟨rfl,rfl⟩:=h;rfl)
   |(obtain⟨⟨rfl,rfl⟩,rfl⟩:=h;rfl)
   |(obtain⟨⟨rfl,p⟩,ad⟩:=h;rw [o.ww p,o.ww ad])
   |(obtain⟨rfl,p⟩:=h;rw [o.zH p])
   |(rw [o.ww h])
theorem o.ww:∀{a b:List o},o.oJ a b=true→a=b:=by
 intro a b h;cases a<;>cases b<;>simp only [o.oJ,Bool.false_eq_true,Bool.and_eq_true]at h
 ·rfl
 ·obtain⟨p,ad⟩:=h;rw [o.zH p,o.ww ad]
end
theorem R.zH{a b:R}(h:R.same a b=true):a=b:=by cases a;cases b;simp only [R.same,Bool.and_eq_true,beq_iff_eq]at h;obtain⟨⟨⟨⟨⟨⟨⟨p,ad⟩,bd⟩,bS⟩,bI⟩,dx⟩,cP⟩,cy⟩:=h;rw [o.ww p,ad,bd,bS,bI,dx,cP,cy]
mutual
theorem o.zI:∀(a:o),o.same a a=true
 |.undef=>rfl
 |.bool _=>by simp [o.same]
 |.int _ _=>by simp [o.same]
 |.str _=>by simp [o.same]
 |.ptr _=>by simp [o.same]
 |.slice _ _ _=>by simp [o.same]
 |.func _ f c=>by simp [o.same,o.ue f,o.ue c]
 |.nilFunc=>rfl
 |.iface _ v=>by simp [o.same,o.zI v]
 |.nilIface=>rfl
 |.agg l=>by simp [o.same,o.ue l]
 |.tuple l=>by simp [o.same,o.ue l]
theorem o.ue:∀(l:List o),o.oJ l l=true
 |[]=>rfl
 |a::r=>by simp [o.oJ,o.zI a,o.ue r]
end
theorem R.zI(a:R):R.same a a=true:=by simp [R.same,o.ue]
theorem Km{cO:Nat}{h aa:j}(k:qM cO h aa=true){i:Nat}(ak:i<cO):aa.get i=h.get i :=
 aU.CK (fun _ _=>R.zH) cO aa.aJ h.aJ 0 1 k i (by omega)
theorem Kn{cO:Nat}{h aa:j}(k:∀i,i<cO→aa.get i=h.get i):qM cO h aa=true :=
 aU.CL R.zI cO aa.aJ h.aJ 0 1 fun i ak=>k i (by omega)
section
variable {E:b5}{call:dX}
theorem nO{bh:Nat}{bf:Operand→o}{h p:j}{ab:Op}{v:o}(av:eP ab=.pure)(ai:b0 E call bh bf h ab=some (v,p)) :
 p=h∧∀(oY:Nat)(aa:j),b0 E call oY bf aa ab=some (v,aa):=by
 cases ab<;>simp only [eP,reduceCtorEq]at av<;>simp only [b0]at ai⊢ <;>
  first
   |(simp only [Option.map_eq_some_iff,Prod.mk.injEq,Option.some.injEq]at ai
     obtain⟨v1,bg,rfl,rfl⟩:=ai
     exact⟨rfl,fun _ _=>by rw [bg];rfl⟩)
   |(simp only [Prod.mk.injEq,Option.some.injEq]at ai
     obtain⟨rfl,rfl⟩:=ai
     exact⟨rfl,fun _ _=>rfl⟩)
   |skip
 ·split at ai
  ·rename_i t bX;simp only [Prod.mk.injEq,Option.some.injEq]at ai;obtain⟨rfl,rfl⟩:=ai;exact⟨rfl,fun _ _=>by simp only [bX]⟩
  ·cases ai
 ·split at ai
  ·rename_i a aT;simp only [Prod.mk.injEq,Option.some.injEq]at ai;obtain⟨rfl,rfl⟩:=ai;exact⟨rfl,fun _ _=>by simp only [aT]⟩
  ·rename_i g b4 bp aT;simp only [Prod.mk.injEq,Option.some.injEq]at ai;obtain⟨rfl,rfl⟩:=ai;exact⟨rfl,fun _ _=>by simp only [aT]⟩
  ·cases ai
 ·split at ai
  ·rename_i d aC;split at ai
   ·cases ai
   ·rename_i wm;simp only [Prod.mk.injEq,Option.some.injEq]at ai;obtain⟨rfl,rfl⟩:=ai;refine⟨rfl,fun _ _=> ?_⟩;simp only [aC]
  ·cases ai
 ·rename_i fn b4 bp;cases fn<;>simp only [b0]at ai⊢ <;>first|(cases ai;done)|skip
  simp only [Prod.mk.injEq,Option.some.injEq]at ai;obtain⟨rfl,rfl⟩:=ai;exact⟨rfl,fun _ _=>rfl⟩
 ·split at ai
  ·rename_i ci bg;simp only [Option.map_eq_some_iff,Prod.mk.injEq]at ai;obtain⟨v1,p,rfl,rfl⟩:=ai;exact⟨rfl,fun _ _=>by simp only [bg,p,Option.map_some]⟩
  ·cases ai
 ·rename_i c;cases iW:c.callee with
  |value f=>rw [iW]at av;simp at av
  |invoke r m=>rw [iW]at av;simp at av
  |builtin b =>
   rw [iW]at av ai;simp only [iW];cases b<;>first|(simp at av;done)|skip
   all_goals
    simp only [fZ]at ai⊢;split at ai
    ·simp only [Option.map_eq_some_iff,Prod.mk.injEq]at ai;obtain⟨v1,p,rfl,rfl⟩:=ai;exact⟨rfl,fun _ _=>by simp only [p,Option.map_some]⟩
    ·cases ai
theorem sB{bh:Nat}{bf:Operand→o}{h p:j}{ab:Op}{v:o}(av:eP ab=.load)(ai:b0 E call bh bf h ab=some (v,p)) :
 p=h∧∃b,kl bf ab=some b∧∀(oY:Nat)(aa:j),aa.get b=h.get b→b0 E call oY bf aa ab=some (v,aa):=by
 cases ab<;>simp only [eP,reduceCtorEq]at av
 ·rename_i t x;simp only [b0]at ai⊢;split at ai
  ·rename_i a aT;simp only [Option.map_eq_some_iff,Prod.mk.injEq]at ai;obtain⟨v1,bg,rfl,rfl⟩:=ai;refine⟨rfl,a.id,by simp [kl,aT],fun oY aa ag=> ?_⟩;simp only [aT,cj,ag]at bg⊢;rw [bg];rfl
  ·cases ai
 ·rename_i c;cases iW:c.callee with
  |value f=>rw [iW]at av;simp at av
  |invoke r m=>rw [iW]at av;simp at av
  |builtin b=>rw [iW]at av;cases b<;>simp at av
theorem Ko{bh:Nat}{bf:Operand→o}{h p:j}{ab:Op}{v:o}(av:eP ab=.store)(ai:b0 E call bh bf h ab=some (v,p)) :
 ∃s b,nF bf ab=some s∧p=h.set s b∧True:=by
 cases ab<;>simp only [eP,reduceCtorEq]at av
 ·rename_i t x y;simp only [b0]at ai;split at ai
  ·rename_i a aT;simp only [Option.map_eq_some_iff,Prod.mk.injEq]at ai;obtain⟨ad,bg,rfl,rfl⟩:=ai;unfold ki at bg;split at bg
   ·split at bg
    ·split at bg
     ·split at bg
      ·simp only [Option.some.injEq]at bg;exact⟨a.id,_,by simp [nF,aT],bg.symm,trivial⟩
      ·cases bg
     ·cases bg
    ·cases bg
   ·cases bg
  ·cases ai
 ·rename_i c;cases iW:c.callee with
  |value f=>rw [iW]at av;simp at av
  |invoke r m=>rw [iW]at av;simp at av
  |builtin b=>rw [iW]at av;cases b<;>simp at av
theorem uf{bh:Nat}{bf:Operand→o}{h p:j}{ab:Op}{v:o}(av:eP ab=.alloc)(ai:b0 E call bh bf h ab=some (v,p)) :
 ∃b,p=h.set bh b∧∀(aa:j),b0 E call bh bf aa ab=some (v,aa.set bh b):=by
 cases ab<;>simp only [eP,reduceCtorEq]at av
 ·rename_i t;simp only [b0]at ai⊢;split at ai
  ·rename_i d aC;split at ai
   ·rename_i z eT;split at ai
    ·rename_i eb;simp only [Prod.mk.injEq,Option.some.injEq]at ai;obtain⟨rfl,rfl⟩:=ai;exact⟨_,rfl,fun aa=>by simp only [eb,if_true]⟩
    ·cases ai
   ·cases ai
  ·cases ai
 ·rename_i t x;simp only [b0]at ai⊢;split at ai
  ·rename_i d aC;split at ai
   ·rename_i eb;simp only [Prod.mk.injEq,Option.some.injEq]at ai;obtain⟨rfl,rfl⟩:=ai;exact⟨_,rfl,fun aa=>by simp only [eb,if_true]⟩
   ·cases ai
  ·cases ai
 ·rename_i t n parts;simp only [b0,oC]at ai⊢;split at ai
  ·rename_i d aC;split at ai
   ·rename_i e he;split at ai
    ·rename_i x ae;split at ai
     ·rename_i z eT;split at ai
      ·rename_i eb;split at ai
       ·rename_i l az;simp only [Prod.mk.injEq,Option.some.injEq]at ai;obtain⟨rfl,rfl⟩:=ai;refine⟨_,rfl,fun aa=> ?_⟩;simp only [he,ae,eT,eb,az,and_self,if_true]
       ·cases ai
      ·cases ai
     ·cases ai
    ·cases ai
   ·cases ai
  ·cases ai
 ·rename_i t l c;simp only [b0,vN]at ai⊢;split at ai
  ·rename_i d aM n aR m aC az hm;split at ai
   ·rename_i e he;split at ai
    ·rename_i x ae;split at ai
     ·rename_i z eT;split at ai
      ·rename_i eb;simp only [Prod.mk.injEq,Option.some.injEq]at ai;obtain⟨rfl,rfl⟩:=ai;refine⟨_,rfl,fun aa=> ?_⟩;simp only [he,ae,eT,eb,and_self,if_true]
      ·cases ai
     ·cases ai
    ·cases ai
   ·cases ai
  ·cases ai
 ·rename_i c;cases iW:c.callee with
  |value f=>rw [iW]at av;simp at av
  |invoke r m=>rw [iW]at av;simp at av
  |builtin b=>rw [iW]at av;cases b<;>simp at av
theorem ug{bf dV:Operand→o}{xs:Array Operand}(h:∀x∈xs.toList,bf x=dV x):xs.toList.map bf=xs.toList.map dV:=List.map_congr_left h
theorem DY{bf dV:Operand→o}{ab:Option Operand}(h:∀x∈ab.toList,bf x=dV x):ab.map bf=ab.map dV:=by
 cases ab with
 |none=>rfl
 |some x=>simp [h x (by simp)]
theorem Kp{bh:Nat}{bf dV:Operand→o}{h:j}{ab:Op}(c0:∀x∈ab.operands.toList,bf x=dV x):b0 E call bh bf h ab=b0 E call bh dV h ab:=by
 cases ab
 case call c =>
  simp only [Op.operands,Call.operands,Array.toList_append,List.mem_append]at c0;simp only [b0];have aT:=ug (xs:=c.args) (fun x ae=>c0 x (.inr ae));cases iW:c.callee with
  |value f =>
   rw [iW]at c0;simp only [aT,c0 f (.inl (by simp))]
  |invoke r m=>rfl
  |builtin b=>simp only [aT]
 case makeFunc fn b4 bp =>
  simp only [Op.operands,Array.toList_append,List.mem_append]at c0;cases fn<;>simp only [b0];rw [ug (xs:=b4) (fun x ae=>c0 x (.inl ae)),ug (xs:=bp) (fun x ae=>c0 x (.inr ae))]
 case slice t x a1 ak fR =>
  simp only [Op.operands,Array.toList_append,List.mem_append]at c0;simp only [b0];rw [c0 x (by simp),DY (ab:=a1) (fun y bY=>c0 y (by simp_all)),DY (ab:=ak) (fun y bY=>c0 y (by simp_all)),DY (ab:=fR) (fun y bY=>c0 y (by simp_all))]
 case build t parts =>
  have ac:(parts.toList.map fun I=>(I.1,bf I.2))=parts.toList.map fun I=>(I.1,dV I.2):=by
   refine List.map_congr_left fun I ac=> ?_
   rw [c0 I.2 (by simp only [Op.operands];exact List.mem_map.2 ⟨I,ac,rfl⟩)]
  simp only [b0,ac]
 case buildSlice t n parts =>
  have ac:(parts.toList.map fun I=>(I.1,bf I.2))=parts.toList.map fun I=>(I.1,dV I.2):=by
   refine List.map_congr_left fun I ac=> ?_
   rw [c0 I.2 (by simp only [Op.operands];exact List.mem_map.2 ⟨I,ac,rfl⟩)]
  simp only [b0,ac]
 all_goals first
  |rfl
  |(simp only [b0,Op.operands]at c0⊢; simp_all)
def ma(acc:Array Nat)(ab:Oper):Nat:=ab.after.toList.foldl (fun s e=>if iP e then s ||| 2^e.on ||| acc.getD e.on 0 else s) 0
theorem DZ:∀(l:List Oper)(acc:Array Nat)(k:Nat),k<acc.size→(l.foldl (fun acc ab=>acc.push (ma acc ab)) acc).getD k 0=acc.getD k 0
 |[],acc,k,h=>rfl
 |ab::r,acc,k,h=>by simp only [List.foldl_cons];rw [DZ r _ k (by simp;omega)];simp [Array.getD_eq_getD_getElem?,Array.getElem?_push,Nat.ne_of_lt h]
theorem Tf{a b:Array Nat}{ab:Oper}(h:∀e∈ab.after.toList,iP e=true→a.getD e.on 0=b.getD e.on 0):ma a ab=ma b ab:=by
 unfold ma
 have key:∀(l:List Edge)(s:Nat),(∀e∈l,iP e=true→a.getD e.on 0=b.getD e.on 0) →
  l.foldl (fun s e=>if iP e then s ||| 2^e.on ||| a.getD e.on 0 else s) s=l.foldl (fun s e=>if iP e then s ||| 2^e.on ||| b.getD e.on 0 else s) s:=by
  intro l;induction l with
  |nil=>intro s _;rfl
  |cons e r ih =>
   intro s az;simp only [List.foldl_cons]
   have:(if iP e then s ||| 2^e.on ||| a.getD e.on 0 else s)=(if iP e then s ||| 2^e.on ||| b.getD e.on 0 else s):=by
    cases au:iP e
    ·rfl
    ·simp only [if_true];rw [az e (by simp) au]
   rw [this,ih _ (fun e he=>az e (by simp [he]))]
 exact key _ 0 h
theorem fold_at:∀(l:List Oper)(acc:Array Nat)(m:Nat)(ab:Oper),l[m]? =some ab→(∀e∈ab.after.toList,iP e=true→e.on<acc.size+m) →
 (l.foldl (fun acc ab=>acc.push (ma acc ab)) acc).getD (acc.size+m) 0=ma (l.foldl (fun acc ab=>acc.push (ma acc ab)) acc) ab
 |[],acc,m,ab,h,_=>by simp at h
 |a::r,acc,0,ab,h,he=>by
  simp at h;subst h;simp only [List.foldl_cons,Nat.add_zero];rw [DZ r _ acc.size (by simp)];have:(acc.push (ma acc a)).getD acc.size 0=ma acc a:=by simp [Array.getD_eq_getD_getElem?]
  rw [this];refine Tf fun e hm au=> ?_
  have cQ:=he e hm au;rw [DZ r _ e.on (by simp;omega)];simp [Array.getD_eq_getD_getElem?,Array.getElem?_push];rw [if_neg (by omega)]
 |a::r,acc,m+1,ab,h,he=>by simp at h;simp only [List.foldl_cons];have:=fold_at r (acc.push (ma acc a)) m ab h (fun e hm au=>by have:=he e hm au;simp;omega);simp only [Array.size_push]at this;rw [show acc.size+(m+1)=acc.size+1+m by omega];exact this
theorem Kq{acc:Array Nat}{i:Nat} :∀(l:List Edge)(s:Nat),(l.foldl (fun s e=>if iP e then s ||| 2^e.on ||| acc.getD e.on 0 else s) s).testBit i=true →
 s.testBit i=true∨ ∃e∈l,iP e=true∧(e.on=i∨(acc.getD e.on 0).testBit i=true)
 |[],s,h=> .inl h
 |e ::r,s,h=>by
  simp only [List.foldl_cons]at h;rcases Kq r _ h with p|⟨dT,p,ad⟩
  ·cases au:iP e
   ·rw [au]at p;exact .inl (by simpa using p)
   ·rw [au]at p;simp only [if_true,Nat.testBit_or,Bool.or_eq_true]at p;rcases p with (p|p)|p
    ·exact .inl p
    ·right;rw [Nat.testBit_two_pow]at p;exact⟨e,by simp,au,.inl (by simpa using p)⟩
    ·exact .inr ⟨e,by simp,au,.inr p⟩
  ·exact .inr ⟨dT,by simp [p],ad⟩
def pW(ops:Array Oper):Prop:= ∀(C:Nat)(ab:Oper),ops[C]? =some ab→ ∀e∈ab.after.toList,iP e=true→e.on<C
theorem Kr{ops:Array Oper}(az:pW ops){i C:Nat}{ab:Oper}(ai:ops[C]? =some ab)(h:ordered (ey ops) i C=true) :
 ∃e∈ab.after.toList,iP e=true∧(e.on=i∨ordered (ey ops) i e.on=true):=by
 unfold ordered at h;have:=fold_at ops.toList #[] C ab (by simpa using ai) (fun e he au=>by have:=az C ab ai e he au;simp;omega);simp only [List.size_toArray,List.length_nil,Nat.zero_add]at this;have bn:ey ops=ops.toList.foldl (fun acc ab=>acc.push (ma acc ab)) #[]:=rfl;rw [bn,this]at h;rcases Kq _ _ h with p|p
 ·simp at p
 ·exact p
theorem Ks{ops:Array Oper}{i C:Nat}(ai:ops[C]? =none):ordered (ey ops) i C=false:=by
 have eX:∀(l:List Oper)(acc:Array Nat),(l.foldl (fun acc ab=>acc.push (ma acc ab)) acc).size=acc.size+l.length:=by
  intro l;induction l with
  |nil=>intro acc;rfl
  |cons a r ih=>intro acc;simp only [List.foldl_cons,ih,Array.size_push,List.length_cons];omega
 have bn:ey ops=ops.toList.foldl (fun acc ab=>acc.push (ma acc ab)) #[]:=rfl;have aV:ops.size≤C:=by simpa using ai
 unfold ordered;rw [bn,Array.getD_eq_getD_getElem?,Array.getElem?_eq_none (by rw [eX];simpa using aV)];simp
theorem Tg{ops:Array Oper}(az:pW ops):∀(C:Nat){i:Nat},ordered (ey ops) i C=true→i<C:=by
 intro C;induction C using Nat.strongRecOn with
 |_ C ih =>
  intro i h;cases ai:ops[C]? with
  |none=>rw [Ks ai]at h;cases h
  |some ab =>
   obtain⟨e,he,au,av⟩:=Kr az ai h;have:=az C ab ai e he au;rcases av with rfl|av
   ·exact this
   ·have:=ih e.on this av;omega
def Kt(ops:Array Oper)(listed:Array Bool):Prop:= ∀(C:Nat)(ab:Oper),listed.getD C false=true→ops[C]? =some ab→ ∀e∈ab.after.toList,iP e=true→listed.getD e.on false=true
theorem Th{ops:Array Oper}(az:pW ops){listed:Array Bool}(av:Kt ops listed):∀(C:Nat)(ab:Oper),ops[C]? =some ab→(∀e∈ab.after.toList,iP e=true→listed.getD e.on false=true) →
 ∀{i:Nat},ordered (ey ops) i C=true→listed.getD i false=true:=by
 intro C;induction C using Nat.strongRecOn with
 |_ C ih =>
  intro ab ai ac i h;obtain⟨e,he,au,wx⟩:=Kr az ai h;have cQ:=az C ab ai e he au;have hle:=ac e he au;rcases wx with rfl|wx
  ·exact hle
  ·cases D0:ops[e.on]? with
   |none=>rw [Ks D0]at wx;cases wx
   |some Ku=>exact ih e.on cQ Ku D0 (av e.on Ku hle D0) wx
def mN(E:b5)(call:dX)(ops:Array Oper)(aj C:Nat)(ab:Oper)(dz:List o)(h:j):Option (o×j) :=
 match jl ops dz ab with
 |some true=>fD E call ops aj C (di dz) h ab.op
 |some false=>some (gp,h)
 |none=>none
theorem zJ{ops:Array Oper}{aj C:Nat}{ab:Oper}(ai:ops[C]? =some ab)(s:fz) :
 l0 E call ops aj C s=(mN E call ops aj C ab s.fa s.heap).map fun I=>⟨hS s.fa ab.dst I.1,I.2⟩:=by
 unfold l0 mN;rw [ai];simp only;cases jl ops s.fa ab with
 |none=>rfl
 |some b =>
  cases b with
  |false=>rfl
  |true =>
   simp only;cases fD E call ops aj C (di s.fa) s.heap ab.op with
   |none=>rfl
   |some I=>rfl
theorem wy{ops:Array Oper}{aj C:Nat}{bf:Operand→o}{h:j}{ab:Op}{v:o}{aa:j}(aC:fD E call ops aj C bf h ab=some (v,aa)) :
 b0 E call (aj+C) bf h ab=some (v,aa)∨(eP ab=.pure∧iQ ab=true∧(lh ops C=true∨iR ops aj C bf ab=true)∧b0 E call (aj+C) bf h ab=none):=by
 unfold fD at aC;split at aC
 ·split at aC
  ·split at aC
   ·exact .inl aC
   ·cases aC
  ·cases aC
 ·split at aC
  ·split at aC
   ·cases aC
   ·exact .inl aC
  ·cases aC
 ·split at aC
  ·rename_i v1 p he;split at aC
   ·split at aC
    ·rw [he];exact .inl aC
    ·cases aC
   ·rw [he];exact .inl aC
  ·cases aC
 ·split at aC
  ·exact .inl aC
  ·cases aC
 ·rename_i av;split at aC
  ·rename_i r he;rw [he];exact .inl aC
  ·rename_i he;split at aC
   ·rename_i eb;exact .inr ⟨av,eb.1,eb.2,he⟩
   ·cases aC
 ·exact .inl aC
theorem zK{ops:Array Oper}{aj C:Nat}{bf:Operand→o}{h:j}{ab:Op}{v:o}{aa:j}(aC:fD E call ops aj C bf h ab=some (v,aa)):jk E call (aj+C) bf h ab=some (v,aa):=by
 rcases wy aC with p|⟨p,ad,bd,bS⟩
 ·unfold jk;rw [p]
 ·unfold fD at aC;rw [p]at aC;simp only [bS]at aC;rw [if_pos ⟨ad,bd⟩]at aC;unfold jk;rw [bS];exact aC
theorem D1{ops:Array Oper}{i C:Nat}(an:lh ops C=true)(ak:i<ops.size)(b1:i≠C)(p:ordered (ey ops) i C=false)(ad:ordered (ey ops) C i=false){ab:Oper}(ai:ops[i]? =some ab):eP ab.op=.pure∧iQ ab.op=false:=by
 unfold lh at an;have:=List.all_eq_true.1 an i (List.mem_range.2 ak);simp only [p,ad,ai,Bool.or_false]at this;simp only [Bool.or_eq_true,beq_iff_eq,Bool.and_eq_true,decide_eq_true_eq,Bool.not_eq_true']at this;rcases this with h|h
 ·exact absurd h b1
 ·exact h
theorem D2{es:Nat}{x:o}{h aa:j}(ae:∀k∈h9 x,aa.get k=h.get k):e2 es x aa=e2 es x h:=by
 unfold e2;split
 ·rfl
 ·rename_i a len c;have e:aa.get a.id=h.get a.id:=ae a.id (by simp [h9]);rw [e]
 ·rfl
 ·rfl
theorem uh{D :dL}{t:TypeId}{s x:o}{bh:Nat}{h p:j}{v:o}(aT:hp D t s x bh h=some (v,p)) :
 (p=h∧∀aa,(∀k∈h9 s++h9 x,aa.get k=h.get k)→hp D t s x bh aa=some (v,aa)) ∨
 ∃id b,(id=bh∨id∈h9 s++h9 x)∧p=h.set id b∧∀aa,(∀k∈h9 s++h9 x,aa.get k=h.get k)→hp D t s x bh aa=some (v,aa.set id b):=by
 have en:∀{aa},(∀k∈h9 s++h9 x,aa.get k=h.get k)→(∀es,e2 es s aa=e2 es s h)∧(∀es,e2 es x aa=e2 es x h):=fun {aa} bW =>
  ⟨fun es=>D2 fun k ap=>bW k (List.mem_append_left _ ap),fun es=>D2 fun k ap=>bW k (List.mem_append_right _ ap)⟩
 unfold hp at aT;split at aT
 ·rename_i d base len cap aC;split at aT
  ·rename_i e ap;split at aT
   ·rename_i cT fU;split at aT
    ·rename_i new ff;simp only at aT;split at aT
     ·rename_i av;split at aT
      ·split at aT
       ·rename_i bm;simp only [Option.some.injEq,Prod.mk.injEq]at aT;obtain⟨rfl,rfl⟩:=aT;refine .inl ⟨rfl,fun aa bW=> ?_⟩;have:=(en bW).2 cT.size;unfold hp;simp only [aC,ap,fU,this,ff];rw [if_pos av,if_pos bm]
       ·rename_i bm;split at aT
        ·rename_i ad;simp only [Option.some.injEq,Prod.mk.injEq]at aT;obtain⟨rfl,rfl⟩:=aT;refine .inr ⟨bh,_,.inl rfl,rfl,fun aa bW=> ?_⟩;have:=(en bW).2 cT.size;unfold hp;simp only [aC,ap,fU,this,ff];rw [if_pos av,if_neg bm,if_pos ad]
        ·cases aT
      ·rename_i a;split at aT
       ·rename_i pP;split at aT
        ·rename_i b au;have ag:∀{aa:j},(∀k∈h9 (.slice (some a) len cap)++h9 x,aa.get k=h.get k)→aa.get a.id=some b:=fun {aa} bW=>by rw [bW a.id (by simp [h9]),au]
         split at aT
         ·rename_i oN;split at aT
          ·rename_i bm;simp only [Option.some.injEq,Prod.mk.injEq]at aT;obtain⟨rfl,rfl⟩:=aT;refine .inl ⟨rfl,fun aa bW=> ?_⟩;have:=(en bW).2 cT.size;unfold hp;simp only [aC,ap,fU,this,ff,ag bW];rw [if_pos av,if_pos pP,if_pos oN,if_pos bm]
          ·rename_i bm;split at aT
           ·rename_i eb;simp only [Option.some.injEq,Prod.mk.injEq]at aT;obtain⟨rfl,rfl⟩:=aT;refine .inr ⟨a.id,_,.inr (by simp [h9]),rfl,fun aa bW=> ?_⟩;have:=(en bW).2 cT.size;unfold hp;simp only [aC,ap,fU,this,ff,ag bW];rw [if_pos av,if_pos pP,if_pos oN,if_neg bm,if_pos eb]
           ·cases aT
         ·rename_i oN;split at aT
          ·rename_i hex;split at aT
           ·rename_i old hold;simp only [Option.some.injEq,Prod.mk.injEq]at aT;obtain⟨rfl,rfl⟩:=aT;refine .inr ⟨bh,_,.inl rfl,rfl,fun aa bW=> ?_⟩;have bn:=(en bW).2 cT.size;have bs:=(en bW).1 cT.size;unfold hp;simp only [aC,ap,fU,bn,ff,ag bW];rw [if_pos av,if_pos pP,if_neg oN,if_pos hex];simp only [bs,hold]
           ·cases aT
          ·rename_i hex;split at aT
           ·rename_i eb;simp only [Option.some.injEq,Prod.mk.injEq]at aT;obtain⟨rfl,rfl⟩:=aT;refine .inr ⟨a.id,_,.inr (by simp [h9]),rfl,fun aa bW=> ?_⟩;have:=(en bW).2 cT.size;unfold hp;simp only [aC,ap,fU,this,ff,ag bW];rw [if_pos av,if_pos pP,if_neg oN,if_neg hex,if_pos eb]
           ·cases aT
        ·cases aT
       ·cases aT
     ·cases aT
    ·cases aT
   ·cases aT
  ·cases aT
 ·cases aT
theorem Kv{bh:Nat}{bf:Operand→o}{h p:j}{ab:Op}{v:o}(av:eP ab=.gJ)(ai:b0 E call bh bf h ab=some (v,p)) :
 (p=h∧∀aa,(∀k∈h' bf ab,aa.get k=h.get k)→b0 E call bh bf aa ab=some (v,aa)) ∨
 ∃id b,(id=bh∨id∈h' bf ab)∧p=h.set id b∧∀aa,(∀k∈h' bf ab,aa.get k=h.get k)→b0 E call bh bf aa ab=some (v,aa.set id b):=by
 cases ab<;>simp only [eP,reduceCtorEq]at av;rename_i c;obtain⟨callee,args,eN⟩:=c;cases callee<;>simp only [reduceCtorEq]at av;rename_i b;cases b<;>simp only [reduceCtorEq]at av;simp only [b0,fZ]at ai⊢;split at ai
 ·rename_i s x t u gH bX hu;have q2:h' bf (.call ⟨.builtin .append,args,eN⟩)=h9 s++h9 x:=by simp [h',gH]
  rw [q2];split at ai
  ·rename_i lg mL;split at ai
   ·rename_i e he;first|exact uh ai|(rw [he];exact uh ai)|(have:=uh ai;simpa [he]using this)
   ·rename_i he;first|exact uh ai|(rw [he];exact uh ai)|(have:=uh ai;simpa [he]using this)
   ·cases ai
  ·cases ai
 ·cases ai
theorem Ti{dz:List o}{d:Tmp}{v:o}{x:Operand}(h:∀t,x=.tmp t→t≠d):di (dz.set d v) x=di dz x:=by
 cases x with
 |tmp t =>
  have:d≠t:=fun e=>h t rfl e.symm
  simp [di,List.getD_eq_getElem?_getD,List.getElem?_set_ne this]
 |const v=>rfl
 |global g=>rfl
 |func f=>rfl
theorem Tj{xs:List Operand}{t:Tmp}(h:Operand.tmp t∈xs):t∈tmpsOf xs:=by unfold tmpsOf;exact List.mem_filterMap.2 ⟨_,h,rfl⟩
theorem Tk{ops:Array Oper}{aj C:Nat}{ab:Oper}{dz:List o}{d:Tmp}{v:o}{h:j}(aC:d ∉ sc ops ab) :
 mN E call ops aj C ab (dz.set d v) h=mN E call ops aj C ab dz h:=by
 unfold sc at aC;simp only [List.mem_append,not_or]at aC;obtain⟨nP,mb⟩:=aC
 have c0:∀x∈ab.op.operands.toList,di (dz.set d v) x=di dz x:=fun x ae=>Ti fun t bX e=>by subst bX e;exact nP (Tj ae)
 have hw:jl ops (dz.set d v) ab=jl ops dz ab:=by
  unfold jl;split
  ·rfl
  ·rename_i g want ag;rw [ag]at mb;split
   ·rename_i fM wv;simp only [wv,Option.toList_some,List.mem_singleton]at mb;rw [List.getElem?_set_ne (fun e=>mb e)]
   ·rfl
 unfold mN;rw [hw];have hf:∀bh,b0 E call bh (di (dz.set d v)) h ab.op=b0 E call bh (di dz) h ab.op:=fun bh=>Kp c0
 have eZ:kl (di (dz.set d v)) ab.op=kl (di dz) ab.op:=by cases jN:ab.op<;>simp only [kl];rename_i t x;rw [jN]at c0;rw [c0 x (by simp [Op.operands])]
 have iF:nF (di (dz.set d v)) ab.op=nF (di dz) ab.op:=by cases jN:ab.op<;>simp only [nF];rename_i t x y;rw [jN]at c0;rw [c0 x (by simp [Op.operands])]
 have Tl:fD E call ops aj C (di (dz.set d v)) h ab.op=fD E call ops aj C (di dz) h ab.op:=by
  have Tm:h' (di (dz.set d v)) ab.op=h' (di dz) ab.op:=by cases jN:ab.op<;>simp only [h'];rename_i c;rw [jN]at c0;rw [ug (bf:=di (dz.set d v)) (dV:=di dz) fun x ae=>c0 x (by simp only [Op.operands,Call.operands];cases c.callee<;>simp [ae])]
  have wk:iQ ab.op=true→eO E (aj+C) (di (dz.set d v)) h ab.op=eO E (aj+C) (di dz) h ab.op:=by intro wz;cases jN:ab.op<;>rw [jN]at wz<;>simp only [iQ,reduceCtorEq]at wz;simp only [eO];rename_i a b x;rw [jN]at c0;rw [c0 x (by simp [Op.operands])]
  have D3:iR ops aj C (di (dz.set d v)) ab.op=iR ops aj C (di dz) ab.op:=by
   have:oK (di (dz.set d v)) ab.op=oK (di dz) ab.op:=by cases jN:ab.op<;>simp only [oK];rename_i a b x;rw [jN]at c0;rw [c0 x (by simp [Op.operands])]
   unfold iR;rw [this]
  unfold fD;rw [hf,eZ,iF,Tm,D3];by_cases wz:iQ ab.op=true
  ·rw [wk wz]
  ·simp only [wz,Bool.false_eq_true,false_and,if_false]
 rw [Tl]
theorem Kw{ops:Array Oper}{aj C:Nat}{ab x:Oper}{dz:List o}{v:o}{h:j}(aC:∀d,x.dst=some d→d ∉ sc ops ab) :
 mN E call ops aj C ab (hS dz x.dst v) h=mN E call ops aj C ab dz h:=by
 cases ae:x.dst with
 |none=>rfl
 |some d=>exact Tk (aC d ae)
theorem Tn{dz:List o}{x y:Oper}{v u:o}(h:∀d,x.dst=some d→y.dst≠some d):hS (hS dz x.dst v) y.dst u=hS (hS dz y.dst u) x.dst v:=by
 cases ae:x.dst with
 |none=>rfl
 |some d =>
  cases bY:y.dst with
  |none=>rfl
  |some e =>
   have b1:d≠e:=fun he=>h d ae (by rw [bY,he])
   simp only [hS];exact List.set_comm _ _ b1
theorem set_comm{a b:Nat}(r7:a≠b)(h:j)(x y:R):(h.set a x).set b y=(h.set b y).set a x:=by unfold j.set;simp only [aU.set_comm x y h.aJ a b r7]
structure wA(ops:Array Oper)(x i:Nat):Prop where
 lt:x<i
 ak:i<ops.size
 no:ordered (ey ops) x i=false
 pair:∀hM gz,ops[x]? =some hM→ops[i]? =some gz→Jj (eP hM.op) (eP gz.op)=true∧zb ops hM gz=true
theorem apart_spec{ops:Array Oper}{x y:Oper}(h:zb ops x y=true):(∀d,x.dst=some d→d ∉ sc ops y)∧(∀d,y.dst=some d→d ∉ sc ops x)∧(∀d,x.dst=some d→y.dst≠some d):=by
 unfold zb at h;simp only [Bool.and_eq_true]at h;obtain⟨p,ad⟩:=h;refine⟨fun d aC=> ?_,fun d aC=> ?_,fun d aC=> ?_⟩
 ·rw [aC]at p;simp at p;exact p.1
 ·rw [aC]at ad;simp at ad;exact ad
 ·rw [aC]at p;simp at p;exact p.2
theorem Kx{ops:Array Oper}{aj x i:Nat}{hM gz:Oper}(ku:ops[x]? =some hM)(kW:ops[i]? =some gz)(ev:eP hM.op=.load)(dp:eP gz.op=.store)(Ky:ordered (ey ops) x i=false)(Kz:ordered (ey ops) i x=false)(ae:x<ops.size)(ak:i<ops.size)
 {bf:Operand→o} {h ad:j} {q3:o} {b h6:Nat} (az:∃b,kl bf hM.op=some b∧(b<aj∨(b<aj+ops.size∧ordered (ey ops) (b-aj) x=true∧pI ops (ey ops) x=false))) (au:kl bf hM.op=some b)
 (aC:fD E call ops aj i bf h gz.op=some (q3,ad)) (an:nF bf gz.op=some h6):b<aj∧aj≤h6:=by
 have ek:pI ops (ey ops) x=true:=by unfold pI;rw [List.any_eq_true];refine⟨i,List.mem_range.2 ak,?_⟩;rw [kW];simp [dp,Ky,Kz]
 have ck:mE ops (ey ops) i=true:=by unfold mE;rw [List.any_eq_true];refine⟨x,List.mem_range.2 ae,?_⟩;rw [ku];simp [ev,Ky,Kz]
 refine⟨?_,?_⟩
 ·obtain⟨iS,fs,av⟩:=az;rw [au]at fs;simp only [Option.some.injEq]at fs;subst fs;rcases av with av|⟨_,_,av⟩
  ·exact av
  ·rw [ek]at av;cases av
 ·unfold fD at aC;rw [dp]at aC;simp only [an]at aC;split at aC
  ·cases aC
  ·rename_i av;rcases Nat.lt_or_ge h6 aj with cQ|gr
   ·exact absurd ⟨ck,cQ⟩ av
   ·exact gr
theorem D4{ops:Array Oper}{aj C:Nat}{bf:Operand→o}{ab:Op}(h:iR ops aj C bf ab=true):∃x,oK bf ab=some x∧(∀b∈h9 x,∀k,ordered (ey ops) k C=false→b≠aj+k) ∧
 ∀i y,i<ops.size→i≠C→ordered (ey ops) i C=false→ordered (ey ops) C i=false→ops[i]? =some y→eP y.op=.pure∨eP y.op=.load∨eP y.op=.alloc:=by
 unfold iR at h;split at h
 ·rename_i x ae;simp only [Bool.and_eq_true]at h;refine⟨x,ae,fun b au k ap e=> ?_,fun i y ak b1 p ad bY=> ?_⟩
  ·have:=List.all_eq_true.1 h.1 b au;simp only [Bool.or_eq_true,Bool.and_eq_true,decide_eq_true_eq]at this;subst e;rcases this with h|⟨_,h⟩
   ·omega
   ·rw [show aj+k-aj=k by omega,ap]at h;cases h
  ·have:=List.all_eq_true.1 h.2 i (List.mem_range.2 ak);simp only [p,ad,bY,Bool.or_false,Bool.or_eq_true,beq_iff_eq,decide_eq_true_eq]at this;rcases this with h|(h|h)|h
   ·exact absurd h b1
   ·exact .inl h
   ·exact .inr (.inl h)
   ·exact .inr (.inr h)
 ·cases h
theorem D5{bh:Nat}{bf:Operand→o}{h p:j}{ab:Op}{v x:o}(ae:oK bf ab=some x)(ai:eO E bh bf h ab=some (v,p)) :
 p=h∧∀(oY:Nat)(aa:j),(∀k∈h9 x,aa.get k=h.get k)→eO E oY bf aa ab=some (v,aa):=by
 cases ab<;>simp only [oK,reduceCtorEq]at ae;rename_i s d y;split at ae
 ·rename_i a n c bY;simp only [Option.some.injEq]at ae;subst ae;simp only [eO,bY,oG]at ai⊢;cases an:E.D s with
  |none=>rw [an]at ai;simp at ai
  |some nE =>
   cases aC:E.D d with
   |none=>rw [an,aC]at ai;simp at ai
   |some fM =>
    simp only [an,aC]at ai⊢;cases gq:nE.kind<;>cases cB:fM.kind<;>simp only [gq,cB,reduceCtorEq]at ai⊢
    ·
      rename_i e;cases he:E.D e with
      |none=>rw [he]at ai;simp at ai
      |some hc =>
       simp only [he]at ai⊢;cases lp:hc.kind<;>simp only [lp,reduceCtorEq]at ai⊢;rename_i l2;cases l2<;>simp only [reduceCtorEq]at ai⊢;split at ai
       ·rename_i l az;simp only [Option.map_eq_some_iff,Prod.mk.injEq]at ai;obtain⟨u,hu,rfl,rfl⟩:=ai;refine⟨rfl,fun oY aa bW=> ?_⟩;rw [D2 bW,az];simp only [hu,Option.map_some]
       ·cases ai
    ·
      rename_i e bs;cases he:E.D e with
      |none=>rw [he]at ai;simp at ai
      |some hc =>
       cases a with
       |none=>rw [he]at ai;simp at ai
       |some sb =>
        simp only [he]at ai⊢;split at ai
        ·rename_i b lp ag;split at ai
         ·rename_i av;simp only [Option.some.injEq,Prod.mk.injEq]at ai;obtain⟨rfl,rfl⟩:=ai;refine⟨rfl,fun oY aa bW=> ?_⟩;rw [bW sb.id (by simp [h9]),lp,ag];simp only;rw [if_pos av]
         ·cases ai
        ·cases ai
 ·cases ae
theorem To{bh:Nat}{bf:Operand→o}{h:j}{ab:Op}(av:iQ ab=true)(aT:b0 E call bh bf h ab=none)(oY:Nat)(aa:j):b0 E call oY bf aa ab=none:=by cases ab<;>simp only [iQ,reduceCtorEq]at av;simp only [b0,Option.map_eq_none_iff]at aT⊢;exact aT
theorem Tp{ops:Array Oper}(az:pW ops){aj x i:Nat}(m:wA ops x i){hM gz:Oper}(ku:ops[x]? =some hM)(kW:ops[i]? =some gz){dz:List o}{h ae ad:j}{nI q3:o}
 (p:mN E call ops aj x hM dz h=some (nI,ae)) (ak:mN E call ops aj i gz dz ae=some (q3,ad)) :
 ∃jH,mN E call ops aj i gz dz h=some (q3,jH)∧mN E call ops aj x hM dz jH=some (nI,ad):=by
 obtain⟨ei,zL⟩:=m.pair hM gz ku kW
 have mO:ordered (ey ops) i x=false:=by
  cases au:ordered (ey ops) i x with
  |false=>rfl
  |true=>have:=Tg az x au;have:=m.lt;omega
 unfold mN at p ak⊢;cases KA:jl ops dz hM with
 |none=>rw [KA]at p;cases p
 |some oF =>
  cases KB:jl ops dz gz with
  |none=>rw [KB]at ak;cases ak
  |some D6 =>
   rw [KA]at p;rw [KB]at ak;cases oF with
   |false =>
    simp only [Option.some.injEq,Prod.mk.injEq]at p;obtain⟨rfl,rfl⟩:=p;exact⟨ad,ak,rfl⟩
   |true =>
    cases D6 with
    |false =>
     simp only [Option.some.injEq,Prod.mk.injEq]at ak;obtain⟨rfl,rfl⟩:=ak;exact⟨h,rfl,p⟩
    |true =>
     simp only at p ak⊢;have fg:x<ops.size:=by have:=m.lt;have:=m.ak;omega
     have q4:∀{C:Nat}{ab:Oper}{h:j}{r:o×j},eP ab.op=.pure→b0 E call (aj+C) (di dz) h ab.op=some r→fD E call ops aj C (di dz) h ab.op=some r:=by intro C ab h r av aT;unfold fD;rw [av];simp only [aT]
     have KC:∀{C:Nat}{ab:Oper}{h bm:j}{r:o×j},eP ab.op=.pure→iQ ab.op=true→(lh ops C=true∨iR ops aj C (di dz) ab.op=true)→b0 E call (aj+C) (di dz) bm ab.op=none→eO E (aj+C) (di dz) h ab.op=some r→fD E call ops aj C (di dz) h ab.op=some r:=by intro C ab h bm r av ak an aT ae;unfold fD;rw [av];simp only [To ak aT (aj+C) h];rw [if_pos ⟨ak,an⟩];exact ae
     rcases wy p with h8|⟨Tq,D7,ui,KD⟩
     rotate_left
     ·
       have J7:eO E (aj+x) (di dz) h hM.op=some (nI,ae):=by have:=zK p;unfold jk at this;rw [KD]at this;exact this
       rcases ui with ui|ui
       ·obtain⟨fv,kv⟩:=D1 ui m.ak (by have:=m.lt;omega) mO m.no kW;rcases wy ak with iu|⟨_,dy,_,_⟩
        ·obtain⟨rfl,aD⟩:=nO fv iu;refine⟨h,q4 fv (aD _ _),p⟩
        ·rw [kv]at dy;cases dy
       ·obtain⟨y,bY,q2,D8⟩:=D4 ui;obtain⟨rfl,aD⟩:=D5 bY J7;have Tr:=D8 i gz m.ak (by have:=m.lt;omega) mO m.no kW;have back:∀ad:j,(∀k∈h9 y,ad.get k=ae.get k)→fD E call ops aj x (di dz) ad hM.op=some (nI,ad):=fun ad ag=>KC Tq D7 (.inr ui) KD (aD _ ad ag)
        rcases wy ak with iu|⟨KE,KF,mP,zM⟩
        ·rcases Tr with c|c|c
         ·obtain⟨rfl,_⟩:=nO c iu;exact⟨_,ak,back _ fun _ _=>rfl⟩
         ·obtain⟨rfl,_⟩:=sB c iu;exact⟨_,ak,back _ fun _ _=>rfl⟩
         ·obtain⟨b,rfl,_⟩:=uf c iu;exact⟨_,ak,back _ fun k ap=>j.fl _ _ fun e=>q2 k ap i mO e.symm⟩
        ·have D9:eO E (aj+i) (di dz) ae gz.op=some (q3,ad):=by have:=zK ak;unfold jk at this;rw [zM]at this;exact this
         rcases mP with mP|mP
         ·obtain⟨_,kv⟩:=D1 mP fg (by have:=m.lt;omega) m.no mO ku;rw [kv]at D7;cases D7
         ·obtain⟨z,eT,_,_⟩:=D4 mP;obtain⟨rfl,_⟩:=D5 eT D9;exact⟨_,ak,back _ fun _ _=>rfl⟩
     rcases wy ak with iu|⟨KE,KF,mP,zM⟩
     rotate_left
     ·rcases mP with mP|mP
      ·obtain⟨fv,kv⟩:=D1 mP fg (by have:=m.lt;omega) m.no mO ku;obtain⟨rfl,ac⟩:=nO fv h8;exact⟨ad,ak,q4 fv (ac _ _)⟩
      ·have D9:eO E (aj+i) (di dz) ae gz.op=some (q3,ad):=by have:=zK ak;unfold jk at this;rw [zM]at this;exact this
       obtain⟨y,bY,q2,D8⟩:=D4 mP;obtain⟨rfl,aD⟩:=D5 bY D9;rcases D8 x hM fg (by have:=m.lt;omega) m.no mO ku with c|c|c
       ·obtain⟨rfl,_⟩:=nO c h8;exact⟨_,ak,p⟩
       ·obtain⟨rfl,_⟩:=sB c h8;exact⟨_,ak,p⟩
       ·obtain⟨b,rfl,_⟩:=uf c h8;exact⟨h,KC KE KF (.inr mP) zM (aD _ h fun k ap=>(j.fl _ _ fun e=>q2 k ap x m.no e.symm).symm),p⟩
     have uj:eP hM.op=.load→ ∃b,kl (di dz) hM.op=some b∧(b<aj∨(b<aj+ops.size∧ordered (ey ops) (b-aj) x=true∧pI ops (ey ops) x=false)):=by
      intro av;unfold fD at p;rw [av]at p;simp only at p;split at p
      ·rename_i b au;split at p
       ·rename_i eb;exact⟨b,au,eb⟩
       ·cases p
      ·cases p
     have uk:eP gz.op=.load→ ∃b,kl (di dz) gz.op=some b∧(b<aj∨(b<aj+ops.size∧ordered (ey ops) (b-aj) i=true∧pI ops (ey ops) i=false)):=by
      intro av;unfold fD at ak;rw [av]at ak;simp only at ak;split at ak
      ·rename_i b au;split at ak
       ·rename_i eb;exact⟨b,au,eb⟩
       ·cases ak
      ·cases ak
     have ul:∀{C:Nat}{ab:Oper}{h aa:j}{v:o},eP ab.op=.load→(∃b,kl (di dz) ab.op=some b∧(b<aj∨(b<aj+ops.size∧ordered (ey ops) (b-aj) C=true∧pI ops (ey ops) C=false))) →
      b0 E call (aj+C) (di dz) h ab.op=some (v,aa)→fD E call ops aj C (di dz) h ab.op=some (v,aa):=by
      intro C ab h aa v av ⟨b,au,eb⟩ aT;unfold fD;rw [av];simp only [au];rw [if_pos eb];exact aT
     have zN:∀{C:Nat}{ab:Oper}{h:j},eP ab.op=.alloc→fD E call ops aj C (di dz) h ab.op=b0 E call (aj+C) (di dz) h ab.op:=by intro C ab h av;unfold fD;rw [av]
     have Ts:eP hM.op=.gJ→pJ ops aj x (h' (di dz) hM.op)=true:=by
      intro av;unfold fD at p;rw [av]at p;simp only at p;split at p
      ·assumption
      ·cases p
     have Tt:eP gz.op=.gJ→pJ ops aj i (h' (di dz) gz.op)=true:=by
      intro av;unfold fD at ak;rw [av]at ak;simp only at ak;split at ak
      ·assumption
      ·cases ak
     have D':∀{C:Nat}{ab:Oper}{h:j},eP ab.op=.gJ→pJ ops aj C (h' (di dz) ab.op)=true→fD E call ops aj C (di dz) h ab.op=b0 E call (aj+C) (di dz) h ab.op:=by intro C ab h av ap;unfold fD;rw [av];simp only;rw [if_pos ap]
     have KG:∀{C k b:Nat}{ids:List Nat},k<ops.size→pJ ops aj C ids=true→b∈ids→ordered (ey ops) k C=false→b≠aj+k:=by
      intro C k b ids mQ ap au jJ e;subst e;have:=List.all_eq_true.1 ap _ au;simp only [Bool.or_eq_true,Bool.and_eq_true,decide_eq_true_eq]at this;rcases this with (h|⟨_,h⟩)|h
      ·omega
      ·rw [show aj+k-aj=k by omega,jJ]at h;cases h
      ·omega
     cases ev:eP hM.op with
     |pure =>
      obtain⟨rfl,ac⟩:=nO ev h8;exact⟨ad,ak,q4 ev (ac _ _)⟩
     |load =>
      obtain⟨rfl,b,au,ac⟩:=sB ev h8;cases dp:eP gz.op with
      |pure =>
       obtain⟨rfl,aD⟩:=nO dp iu;exact⟨_,ak,p⟩
      |load =>
       obtain⟨rfl,iS,fs,aD⟩:=sB dp iu;exact⟨_,ak,p⟩
      |alloc =>
       obtain⟨cq,rfl,aD⟩:=uf dp iu;refine⟨_,ak,ul ev (uj ev) (ac _ _ ?_)⟩;refine j.fl _ _ ?_;rintro rfl;obtain⟨Ea,kX,eb⟩:=uj ev;rw [au]at kX;simp at kX;subst kX;rcases eb with eb|⟨_,eb,_⟩
       ·omega
       ·rw [show aj+i-aj=i by omega,mO]at eb;cases eb
      |call =>
       refine⟨_,ak,ul ev (uj ev) (ac _ _ ?_)⟩;unfold fD at ak;rw [dp]at ak;simp only [iu]at ak
       have Eb:mE ops (ey ops) i=true:=by unfold mE;rw [List.any_eq_true];refine⟨x,List.mem_range.2 (by have:=m.lt;have:=m.ak;omega),?_⟩;rw [ku];simp [ev,m.no,mO]
       rw [if_pos Eb]at ak;split at ak
       ·rename_i an;obtain⟨Ea,kX,eb⟩:=uj ev;rw [au]at kX;simp at kX;subst kX;exact Km an (by rcases eb with eb|⟨eb,_,_⟩<;>omega)
       ·cases ak
      |store =>
       obtain⟨h6,cq,nB,rfl,aD⟩:=Ko dp iu;refine⟨_,ak,ul ev (uj ev) (ac _ _ ?_)⟩;refine j.fl _ _ ?_;rintro rfl;have oZ:=Kx ku kW ev dp m.no mO (by have:=m.lt;have:=m.ak;omega) m.ak (uj ev) au ak nB;omega
      |gJ=>rw [ev,dp]at ei;cases ei
      |other=>rw [ev,dp]at ei;cases ei
     |store =>
      obtain⟨h6,cq,nB,rfl,aD⟩:=Ko ev h8;cases dp:eP gz.op with
      |pure =>
       obtain⟨rfl,aD⟩:=nO dp iu;exact⟨h,q4 dp (aD _ _),p⟩
      |load =>
       obtain⟨rfl,iS,fs,aD⟩:=sB dp iu;refine⟨h,ul dp (uk dp) (aD _ _ ?_),p⟩;refine(j.fl _ _ ?_).symm;rintro rfl;have oZ:=Kx kW ku dp ev mO m.no m.ak (by have:=m.lt;have:=m.ak;omega) (uk dp) fs p nB;omega
      |alloc=>rw [ev,dp]at ei;cases ei
      |store=>rw [ev,dp]at ei;cases ei
      |call=>rw [ev,dp]at ei;cases ei
      |gJ=>rw [ev,dp]at ei;cases ei
      |other=>rw [ev,dp]at ei;cases ei
     |alloc =>
      obtain⟨cq,rfl,ac⟩:=uf ev h8;cases dp:eP gz.op with
      |pure =>
       obtain⟨rfl,aD⟩:=nO dp iu;exact⟨h,q4 dp (aD _ _),p⟩
      |load =>
       obtain⟨rfl,iS,fs,aD⟩:=sB dp iu;refine⟨h,ul dp (uk dp) (aD _ _ ?_),p⟩;refine(j.fl _ _ ?_).symm;rintro rfl;obtain⟨Ea,kX,eb⟩:=uk dp;rw [fs]at kX;simp at kX;subst kX;rcases eb with eb|⟨_,eb,_⟩
       ·omega
       ·rw [show aj+x-aj=x by omega,m.no]at eb;cases eb
      |alloc =>
       obtain⟨Tu,rfl,aD⟩:=uf dp iu;refine⟨h.set (aj+i) Tu,by rw [zN dp];exact aD _,?_⟩;rw [zN ev,ac,set_comm (by have:=m.lt;omega)]
      |store=>rw [ev,dp]at ei;cases ei
      |call=>rw [ev,dp]at ei;cases ei
      |gJ =>
       have ap:=Tt dp;have q5:∀k∈h' (di dz) gz.op,k≠aj+x:=fun k sC=>KG (by have:=m.lt;have:=m.ak;omega) ap sC m.no
       have agree:∀k∈h' (di dz) gz.op,h.get k=(h.set (aj+x) cq).get k:=fun k sC=>(j.fl _ _ (fun e=>q5 k sC e.symm)).symm
       rcases Kv dp iu with ⟨aM,aR⟩|⟨id,iS,aM,aR,bu⟩
       ·subst aM;exact⟨h,by rw [D' dp ap];exact aR h agree,p⟩
       ·subst aR;refine⟨h.set id iS,by rw [D' dp ap];exact bu h agree,?_⟩
        have b1:aj+x≠id:=by
         rcases aM with rfl|aM
         ·have:=m.lt;omega
         ·exact fun e=>q5 id aM e.symm
        rw [zN ev,ac,set_comm b1]
      |other=>rw [ev,dp]at ei;cases ei
     |call =>
      cases dp:eP gz.op with
      |pure =>
       obtain⟨rfl,aD⟩:=nO dp iu;exact⟨h,q4 dp (aD _ _),p⟩
      |load =>
       obtain⟨rfl,iS,fs,aD⟩:=sB dp iu;refine⟨h,ul dp (uk dp) (aD _ _ ?_),p⟩;unfold fD at p;rw [ev]at p;simp only [h8]at p
       have Eb:mE ops (ey ops) x=true:=by unfold mE;rw [List.any_eq_true];refine⟨i,List.mem_range.2 m.ak,?_⟩;rw [kW];simp [dp,m.no,mO]
       rw [if_pos Eb]at p;split at p
       ·rename_i an;obtain⟨Ea,kX,eb⟩:=uk dp;rw [fs]at kX;simp at kX;subst kX;exact(Km an (by rcases eb with eb|⟨eb,_,_⟩<;>omega)).symm
       ·cases p
      |alloc=>rw [ev,dp]at ei;cases ei
      |store=>rw [ev,dp]at ei;cases ei
      |call=>rw [ev,dp]at ei;cases ei
      |gJ=>rw [ev,dp]at ei;cases ei
      |other=>rw [ev,dp]at ei;cases ei
     |gJ =>
      cases dp:eP gz.op with
      |pure =>
       obtain⟨rfl,aD⟩:=nO dp iu;exact⟨h,q4 dp (aD _ _),p⟩
      |alloc =>
       obtain⟨cq,rfl,aD⟩:=uf dp iu;have ap:=Ts ev;have q5:∀k∈h' (di dz) hM.op,k≠aj+i:=fun k sC=>KG m.ak ap sC mO
       have agree:∀k∈h' (di dz) hM.op,(h.set (aj+i) cq).get k=h.get k:=fun k sC=>j.fl _ _ (fun e=>q5 k sC e.symm)
       refine⟨h.set (aj+i) cq,by rw [zN dp];exact aD _,?_⟩;rw [D' ev ap];rcases Kv ev h8 with ⟨aM,aR⟩|⟨id,iS,aM,aR,bu⟩
       ·subst aM;exact aR _ agree
       ·subst aR
        have b1:aj+i≠id:=by
         rcases aM with rfl|aM
         ·have:=m.lt;omega
         ·exact fun e=>q5 id aM e.symm
        rw [bu _ agree,set_comm b1]
      |load=>rw [ev,dp]at ei;cases ei
      |store=>rw [ev,dp]at ei;cases ei
      |call=>rw [ev,dp]at ei;cases ei
      |gJ=>rw [ev,dp]at ei;cases ei
      |other=>rw [ev,dp]at ei;cases ei
     |other =>
      cases dp:eP gz.op with
      |pure =>
       obtain⟨rfl,aD⟩:=nO dp iu;exact⟨h,q4 dp (aD _ _),p⟩
      |load=>rw [ev,dp]at ei;cases ei
      |alloc=>rw [ev,dp]at ei;cases ei
      |store=>rw [ev,dp]at ei;cases ei
      |call=>rw [ev,dp]at ei;cases ei
      |gJ=>rw [ev,dp]at ei;cases ei
      |other=>rw [ev,dp]at ei;cases ei
theorem Tv{ops:Array Oper}(az:pW ops){aj x i:Nat}(m:wA ops x i){s s1 s2:fz}(p:l0 E call ops aj x s=some s1)(ad:l0 E call ops aj i s1=some s2) :
 ∃t,l0 E call ops aj i s=some t∧l0 E call ops aj x t=some s2:=by
 have nQ:x<ops.size:=by have:=m.lt;have:=m.ak;omega
 have ku:ops[x]? =some ops[x]:=Array.getElem?_eq_getElem nQ;have kW:ops[i]? =some (ops[i]'m.ak):=Array.getElem?_eq_getElem m.ak;obtain⟨ei,zL⟩:=m.pair _ _ ku kW;obtain⟨ao,a2,a3⟩:=apart_spec zL;rw [zJ ku,Option.map_eq_some_iff]at p;obtain⟨⟨nI,ae⟩,aM,rfl⟩:=p;rw [zJ kW,Option.map_eq_some_iff]at ad;obtain⟨⟨q3,afO⟩,aR,rfl⟩:=ad;simp only at aR;rw [Kw ao]at aR;obtain⟨jH,g1,g2⟩:=Tp az m ku kW aM aR;refine⟨⟨hS s.fa (ops[i]'m.ak).dst q3,jH⟩,?_,?_⟩
 ·rw [zJ kW,g1];rfl
 ·rw [zJ ku];simp only;rw [Kw a2,g2];simp only [Option.map_some];rw [Tn a3]
theorem front{ops:Array Oper}(az:pW ops){aj i:Nat}{q:List Nat} :∀{I:List Nat}{s bL:fz},(∀x∈I,wA ops x i)→km E call ops aj (I++i::q) s=some bL →
 ∃t,l0 E call ops aj i s=some t∧km E call ops aj (I++q) t=some bL
 |[],s,bL,_,h=>by
  simp only [List.nil_append,km]at h⊢;split at h
  ·rename_i t bX;exact⟨t,bX,h⟩
  ·cases h
 |x ::I,s,bL,hm,h=>by
  simp only [List.cons_append,km]at h;split at h
  ·rename_i s1 eA;obtain⟨t,p,ad⟩:=front az (fun y bY=>hm y (by simp [bY])) h;obtain⟨u,g1,g2⟩:=Tv az (hm x (by simp)) eA p;refine⟨u,g1,?_⟩;simp only [List.cons_append,km,g2];exact ad
  ·cases h
theorem Tw{ops:Array Oper}{aj C:Nat}{s bL:fz}(h:l0 E call ops aj C s=some bL):qL E call ops aj C s=some bL:=by
 unfold l0 at h;unfold qL;split at h
 ·rename_i e;simp [e];simpa using h
 ·rename_i ab e;split at h
  ·rename_i hw;split at h
   ·rename_i v ac aC;rw [show jk E call (aj+C) (di s.fa) s.heap ab.op=some (v,ac)from zK aC];exact h
   ·cases h
  ·exact h
  ·cases h
end
section
variable {P:Program}{al:Map}{E:b5}
theorem Tx{ops:Array Oper}(h:oI ops=true):pW ops∧∀x i,x<i→i<ops.size→ordered (ey ops) x i=false→wA ops x i:=by
 unfold oI at h;simp only [List.all_eq_true,List.mem_range]at h
 have sD:pW ops:=by
  intro C ab ai e he au
  have aV:C<ops.size:=by
   rcases Nat.lt_or_ge C ops.size with aa|aa
   ·exact aa
   ·rw [Array.getElem?_eq_none aa]at ai;cases ai
  have:=h C aV;rw [ai]at this;simp only [Bool.and_eq_true,List.all_eq_true]at this;have:=this.1 e he;simpa [au]using this
 refine⟨sD,fun x i gb ak jJ=>⟨gb,ak,jJ,fun hM gz ku kW=> ?_⟩⟩;have:=h i ak;rw [kW]at this;simp only [Bool.and_eq_true,List.all_eq_true,List.mem_range]at this;have:=this.2 x gb;rw [jJ,ku]at this;simpa using this
def gu(ops:Array Oper)(listed:Array Bool):List Nat:=(List.range ops.size).filter fun i=> !listed.getD i true
theorem KH{ops:Array Oper}{listed:Array Bool}{i:Nat}(h:i∈Region.ready .any ops listed) :
 i<ops.size∧listed.getD i true=false∧∃ab,ops[i]? =some ab∧∀e∈ab.after.toList,iP e=true→listed.getD e.on false=true:=by
 unfold Region.ready at h;simp only [List.mem_filter,List.mem_range,Bool.and_eq_true,Bool.not_eq_true']at h;obtain⟨p,ad,bd⟩:=h;refine⟨p,ad,ops[i],Array.getElem?_eq_getElem p,fun e he au=> ?_⟩;rw [Array.getElem?_eq_getElem p]at bd;simp only [Option.map_some,Option.getD_some,Array.all_eq_true_iff_forall_mem]at bd;have:=bd e (by simpa using he);unfold iP at au;simpa [au]using this
theorem Ty{ops:Array Oper}(az:pW ops){listed:Array Bool}(eX:listed.size=ops.size){i:Nat}{r:List Nat}(h:gu ops listed=i::r):i∈Region.ready .any ops listed:=by
 have ak:i∈gu ops listed:=by rw [h];simp
 have ga:=ak;unfold gu at ak;simp only [List.mem_filter,List.mem_range,Bool.not_eq_true']at ak;unfold Region.ready;simp only [List.mem_filter,List.mem_range,Bool.and_eq_true,Bool.not_eq_true'];refine⟨ak.1,ak.2,?_⟩;rw [Array.getElem?_eq_getElem ak.1];simp only [Option.map_some,Option.getD_some,Array.all_eq_true_iff_forall_mem];intro e he;cases au:Region.binds .any e with
 |false=>rfl
 |true =>
  simp only [Bool.not_true,Bool.false_or];have cQ:=az i _ (Array.getElem?_eq_getElem ak.1) e (by simpa using he) au;cases hle:listed.getD e.on false with
  |true=>rfl
  |false =>
   exfalso
   have ij:e.on∈gu ops listed:=by
    unfold gu;simp only [List.mem_filter,List.mem_range,Bool.not_eq_true'];refine⟨by omega,?_⟩;have pL:e.on<listed.size:=by omega
    rw [Array.getD_eq_getD_getElem?,Array.getElem?_eq_getElem pL]at hle⊢;simpa using hle
   have wB:(gu ops listed).Pairwise (· < ·):=List.Pairwise.filter _ List.pairwise_lt_range;rw [h]at wB ij;rcases List.mem_cons.1 ij with jD|jD
   ·omega
   ·have:=(List.pairwise_cons.1 wB).1 _ jD;omega
theorem Tz{ops:Array Oper}{listed:Array Bool}(eX:listed.size=ops.size){i:Nat}{I q:List Nat}(h:gu ops listed=I++i::q):gu ops (listed.setIfInBounds i true)=I++q:=by
 have h5:(gu ops listed).Nodup:=List.Pairwise.filter _ List.nodup_range;have ak:i∈gu ops listed:=by rw [h];simp
 have Ec:i<ops.size:=by unfold gu at ak;simp only [List.mem_filter,List.mem_range]at ak;exact ak.1
 have bn:gu ops (listed.setIfInBounds i true)=(gu ops listed).filter fun C=>decide (C≠i):=by
  unfold gu;rw [List.filter_filter];refine List.filter_congr fun C aV=> ?_
  have sE:=List.mem_range.1 aV;by_cases pV:C=i
  ·subst pV;simp [Array.getD_eq_getD_getElem?,eX,Ec]
  ·have iE:¬i=C:=fun e=>pV e.symm
   simp [Array.getD_eq_getD_getElem?,Array.getElem?_setIfInBounds,pV,iE]
 rw [bn,h];rw [h]at h5
 have ac:∀C∈I,C≠i:=fun C aV e=>by subst e;exact(List.nodup_append.1 h5).2.2 C aV C (by simp) rfl
 have aD:∀C∈q,C≠i:=fun C aV e=>by subst e;have:=(List.nodup_append.1 h5).2.1;exact(List.nodup_cons.1 this).1 aV
 rw [List.filter_append,List.filter_cons];simp only [ne_eq,not_true_eq_false,decide_false,Bool.false_eq_true,if_false];rw [List.filter_eq_self.2 (fun C aV=>by simpa using ac C aV),List.filter_eq_self.2 (fun C aV=>by simpa using aD C aV)]
theorem TA(cH:hv P E){be:Nat→Prop}{br:World}(dn:fC be br.heap.size){call:dX}(gd:nN P be br call){ops:Array Oper}(o0:oI ops=true){aj:Nat}{Q:Exit→Act→World→Prop} :
 ∀{de:Nat}{listed:Array Bool}{s bL:fz}{a:Act}{w:World}{al:Map},listed.size=ops.size→Kt ops listed→(gu ops listed).length≤de→km E call ops aj (gu ops listed) s=some bL →
  gS al be br s a w→(∀C∈gu ops listed,aj+C<s.heap.next∧∀v,al (aj+C) v=none) →
  (∀cG bC bN,fk al bN aj→gS bN be br bL cG bC→s.heap.next≤bL.heap.next→Q .normal cG bC)→wpAny P .any ops Q de listed a w:=by
 intro de;obtain⟨sD,TB⟩:=Tx o0
 have ua:∀{listed:Array Bool}{s bL:fz}{a:Act}{w:World}{al:Map},listed.size=ops.size→km E call ops aj (gu ops listed) s=some bL→gS al be br s a w →
  (∀cG bC bN,fk al bN aj→gS bN be br bL cG bC→s.heap.next≤bL.heap.next→Q .normal cG bC)→Region.ready .any ops listed=[]→Q .normal a w:=by
  intro listed s bL a w al eX h r ap bb;cases hu:gu ops listed with
  |nil =>
   rw [hu]at h;simp [km]at h;subst h;exact ap a w al (fk.refl _ _) r (Nat.le_refl _)
  |cons i q =>
   exfalso;have:=Ty sD eX hu;rw [bb]at this;cases this
 induction de with
 |zero =>
  intro listed s bL a w al eX hs hlen h r hid ap;have hu:gu ops listed=[]:=List.length_eq_zero_iff.1 (by omega);simp only [wpAny]
  have KI:Region.ready .any ops listed=[]:=by
   cases bb:Region.ready .any ops listed with
   |nil=>rfl
   |cons i q =>
    exfalso;obtain⟨p,ad,_⟩:=KH (by rw [bb];exact List.mem_cons_self);have:i∈gu ops listed:=by unfold gu;simp only [List.mem_filter,List.mem_range,Bool.not_eq_true'];exact⟨p,ad⟩
    rw [hu]at this;cases this
  exact⟨KI,ua eX h r ap KI⟩
 |succ de ih =>
  intro listed s bL a w al eX hs hlen h r hid ap;simp only [wpAny];refine⟨ua eX h r ap,fun i ak=> ?_⟩;obtain⟨p,ad,ab,ai,wC⟩:=KH ak;have Ed:i∈gu ops listed:=by unfold gu;simp only [List.mem_filter,List.mem_range,Bool.not_eq_true'];exact⟨p,ad⟩
  obtain⟨I,q,sF⟩:=List.append_of_mem Ed;have wB:(gu ops listed).Pairwise (· < ·):=List.Pairwise.filter _ List.pairwise_lt_range
  have hm:∀x∈I,wA ops x i:=by
   intro x ae;rw [sF]at wB;have cQ:x<i:=(List.pairwise_append.1 wB).2.2 x ae i (by simp);refine TB x i cQ p ?_;cases au:ordered (ey ops) x i with
   |false=>rfl
   |true =>
    exfalso;have nQ:=Th sD hs i ab ai wC au;have Ee:x∈gu ops listed:=by rw [sF];simp [ae]
    unfold gu at Ee;simp only [List.mem_filter,List.mem_range,Bool.not_eq_true']at Ee;have pL:x<listed.size:=by omega
    rw [Array.getD_eq_getD_getElem?,Array.getElem?_eq_getElem pL]at nQ;have bd:=Ee.2;rw [Array.getD_eq_getD_getElem?,Array.getElem?_eq_getElem pL]at bd;simp at nQ bd;rw [nQ]at bd;cases bd
  rw [sF]at h;obtain⟨t,g1,g2⟩:=front sD hm h;refine Kj cH dn gd r (hid i Ed) (Tw g1) fun cG bC bN ae fL hle=> ?_
  have Ef:=Tz eX sF;refine ih (listed:=listed.setIfInBounds i true) (by simpa using eX) ?_ ?_ (by rw [Ef];exact g2) fL (fun C aV=> ?_) fun sz mK sA DW DX Te=> ?_
  ·intro C TC aV zO e he au;by_cases oO:e.on=i
   ·rw [oO];simp [Array.getD_eq_getD_getElem?,eX,p]
   ·have hold:listed.getD e.on false=true:=by
     by_cases pV:C=i
     ·subst pV;rw [ai]at zO;simp at zO;subst zO;exact wC e he au
     ·refine hs C TC ?_ zO e he au;have iE:¬i=C:=fun e=>pV e.symm
      simpa [Array.getD_eq_getD_getElem?,Array.getElem?_setIfInBounds,iE]using aV
    have zP:¬i=e.on:=fun dT=>oO dT.symm
    simpa [Array.getD_eq_getD_getElem?,Array.getElem?_setIfInBounds,zP]using hold
  ·rw [Ef];rw [sF]at hlen;simp at hlen⊢; omega
  ·rw [Ef]at aV;have TD:C∈gu ops listed:=by rw [sF];rcases List.mem_append.1 aV with aV|aV<;>simp [aV]
   have h5:(gu ops listed).Nodup:=List.Pairwise.filter _ List.nodup_range
   have pV:C≠i:=by
    rintro rfl;rw [sF]at h5;rcases List.mem_append.1 aV with aV|aV
    ·exact(List.nodup_append.1 h5).2.2 C aV C (by simp) rfl
    ·exact(List.nodup_cons.1 (List.nodup_append.1 h5).2.1).1 aV
   obtain⟨aM,aR⟩:=hid C TD;exact⟨by omega,ae.new _ aM (by omega) aR⟩
  ·refine ap _ _ _ (fk.trans ⟨ae.le,fun k kU l9=>ae.new k ?_ (by omega) l9,ae.ro⟩ DW) DX (by omega);have:=(hid i Ed).1;omega
theorem TE(cH:hv P E){be:Nat→Prop}{br:World}(dn:fC be br.heap.size){call:dX}(gd:nN P be br call){ops:Array Oper}(o0:oI ops=true){aj:Nat}{s bL:fz}{a:Act}{w:World}{al:Map}
 {Q:Exit→Act→World→Prop} (h:km E call ops aj (List.range ops.size) s=some bL) (r:gS al be br s a w) (hid:∀C,C<ops.size→aj+C<s.heap.next∧∀v,al (aj+C) v=none)
 (ap:∀cG bC bN,fk al bN aj→gS bN be br bL cG bC→s.heap.next≤bL.heap.next→Q .normal cG bC):wpAny P .any ops Q ops.size (Array.replicate ops.size false) a w:=by
 have hu:gu ops (Array.replicate ops.size false)=List.range ops.size:=by
  unfold gu;refine List.filter_eq_self.2 fun i ak=> ?_
  have:=List.mem_range.1 ak;simp [Array.getD_eq_getD_getElem?,Array.getElem?_replicate,this]
 refine TA cH dn gd o0 (by simp) ?_ (by rw [hu];simp) (by rw [hu];exact h) r (fun C aV=>by rw [hu]at aV;exact hid C (List.mem_range.1 aV)) ap;intro C ab aV;simp [Array.getD_eq_getD_getElem?,Array.getElem?_replicate]at aV;split at aV<;>simp at aV
end
end
end Go.cM
namespace Go.cM
noncomputable section
open Go.RowKit
section
variable {P:Program}{al:Map}{E:b5}
def wD:dc→Exit
 |.normal=> .normal
 |.exit id=> .exit id
 |.goto l=> .goto l
 |.ret=> .ret
theorem gS.bump{be:Nat→Prop}{br w:World}{s:fz}{a:Act}(r:gS al be br s a w)(n:Nat):gS al be br ⟨s.fa,{s.heap with next:=s.heap.next+n}⟩ a w :=
 ⟨r.fa,r.heap.next (by omega),r.below,r.defers⟩
theorem gS.drew{be:Nat→Prop}{br w:World}{s:fz}{a:Act}(r:gS al be br s a w):gS al be br s a w.drew :=
 ⟨r.fa,r.heap.alike (Alike.wb w),r.below.drew,r.defers⟩
theorem TF{be:Nat→Prop}{w:World}{h:j}(r:c4 al be h w){i:Nat}(ak:h.next≤i):∀v,al i v=none:=by
 intro v;cases aD:al i v with
 |none=>rfl
 |some I=>have:=(r.dD i v I aD).1;omega
theorem KJ(cH:hv P E){be:Nat→Prop}{br w:World}(dn:fC be br.heap.size){call:dX}(gd:nN P be br call)(e4:P.follows .mixedOrders=true){id:Nat}{ops:Array Oper}{draw:Bool}{s bL:fz}{a:Act}(r:gS al be br s a w)(h:sd E call ops draw s=some bL)
 {Q:Exit→Act→World→Prop} (ap:∀cG bC bN,fk al bN s.heap.next→gS bN be br bL cG bC→s.heap.next≤bL.heap.next→Q .normal cG bC):(Code.region id ops draw).wp P Q a w:=by
 have q2:∀C,C<ops.size→s.heap.next+C<s.heap.next+ops.size∧∀v,al (s.heap.next+C) v=none:=fun C aV=>⟨by omega,TF r.heap (by omega)⟩
 unfold sd at h;cases draw with
 |false =>
  simp only [Bool.false_eq_true,if_false]at h;refine wp_region ?_;refine Kk cH dn gd h (r.bump _) List.nodup_range (fun C aV=>q2 C (List.mem_range.1 aV)) fun cG bC bN p ad bd=>ap cG bC bN p ad ?_
  simp only at bd;omega
 |true =>
  simp only [if_true]at h;split at h
  ·rename_i o0;refine wp_region_any e4 ?_;refine TE cH dn gd o0 h (r.bump _).drew q2 fun cG bC bN p ad bd=>ap cG bC bN p ad ?_
   simp only at bd;omega
  ·cases h
def sG(P:Program)(c:Code)(Q:Exit→Act→World→Prop)(a:Act)(w:World):Prop :=
 ∀(b:Frame)(k:List Item)(bp:List Frame),∃e cG bC,Q e cG bC∧Arrives P (lone (b.at a (.code c:: .inLoop c::k)) bp w) b k bp e cG bC
theorem KK{c:Code}{Q:Exit→Act→World→Prop}{a:Act}{w:World}(h:sG P c Q a w):(Code.loop c).wp P Q a w:=fun b k bp =>
 let ⟨e,cG,bC,q,r⟩:=h b k bp;⟨e,cG,bC,q,.of_steps (.one step_loop) r⟩
theorem Eg{c:Code}{Q:Exit→Act→World→Prop}{a:Act}{w:World}(h:c.wp P (Exit.then (sG P c Q) Q) a w):sG P c Q a w:=by
 intro b k bp;obtain⟨e,mR,mS,aD,ls⟩:=h b (.inLoop c::k) bp;cases e with
 |normal =>
  obtain⟨Eh,Ei,Ej,Ek,El⟩:=aD b k bp;exact⟨Eh,Ei,Ej,Ek,.of_steps (Steps.trans ls (.one step_inLoop)) El⟩
 |exit id=>exact⟨_,mR,mS,aD,.pass (x:= .inLoop c) rfl (fun _ _=> .inl (by simp)) ls⟩
 |goto l=>exact⟨_,mR,mS,aD,.pass (x:= .inLoop c) rfl (fun _ _=> .inl (by simp)) ls⟩
 |ret=>exact⟨_,mR,mS,aD,.pass (x:= .inLoop c) rfl (fun _ _=> .inl (by simp)) ls⟩
 |panic KL=>exact⟨_,mR,mS,aD,.pass (x:= .inLoop c) rfl (fun _ _=> .inl (by simp)) ls⟩
 |outgrown=>exact⟨_,mR,mS,aD,.pass (x:= .inLoop c) rfl (fun _ _=> .inl (by simp)) ls⟩
def um(P:Program)(body c:Code)(Q:Exit→Act→World→Prop)(a:Act)(w:World):Prop :=
 ∀(b:Frame)(k:List Item)(bp:List Frame),∃e cG bC,Q e cG bC∧Arrives P (lone (b.at a (.code c:: .inScope body::k)) bp w) b k bp e cG bC
theorem KM{c:Code}{Q:Exit→Act→World→Prop}{a:Act}{w:World}(h:um P c c Q a w):(Code.scope c).wp P Q a w:=fun b k bp =>
 let ⟨e,cG,bC,q,r⟩:=h b k bp;⟨e,cG,bC,q,.of_steps (.one step_scope) r⟩
def q6(P:Program)(body:Code)(Q:Exit→Act→World→Prop):Exit→Act→World→Prop
 |.goto l,a,w =>
  match findLabel body l with
  |some rest=>um P body rest Q a w
  |none=>Q (.goto l) a w
 |e,a,w=>Q e a w
theorem zQ{body c:Code}{Q:Exit→Act→World→Prop}{a:Act}{w:World}(h:c.wp P (q6 P body Q) a w):um P body c Q a w:=by
 intro b k bp;obtain⟨e,mR,mS,aD,ls⟩:=h b (.inScope body::k) bp;cases e with
 |normal=>exact⟨.normal,mR,mS,aD,Steps.trans ls (.one step_inScope)⟩
 |exit id=>exact⟨.exit id,mR,mS,aD,fun fy ap=>ls fy (by simp [exitTo,ap])⟩
 |goto l =>
  simp only [q6]at aD;cases a8:findLabel body l with
  |some rest =>
   rw [a8]at aD;obtain⟨Eh,Ei,Ej,Ek,El⟩:=aD b k bp;exact⟨Eh,Ei,Ej,Ek,.of_steps (ls _ (by simp [gotoIn,a8])) El⟩
  |none =>
   rw [a8]at aD;exact⟨.goto l,mR,mS,aD,fun fy ap=>ls fy (by simp [gotoIn,a8,ap])⟩
 |ret=>exact⟨.ret,mR,mS,aD,ls⟩
 |panic KL=>exact⟨.panic KL,mR,mS,aD,ls⟩
 |outgrown=>exact⟨.outgrown,mR,mS,aD,ls⟩
def wE(P:Program)(E:b5)(be:Nat→Prop)(br:World)(s bL:fz)(e:dc)(a:Act)(w:World)(pX:(Exit→Act→World→Prop)→Prop):Prop :=
 ∀{al:Map}{Q:Exit→Act→World→Prop},gS al be br s a w→(∀cG bC bN,fk al bN s.heap.next→gS bN be br bL cG bC→s.heap.next≤bL.heap.next→Q (wD e) cG bC)→pX Q
theorem TG(cH:hv P E){be:Nat→Prop}{br:World}(dn:fC be br.heap.size){call:dX}(gd:nN P be br call)(e4:P.follows .mixedOrders=true):∀(n:Nat),
 (∀{c:Code}{s bL:fz}{e:dc}{a:Act}{w:World},fb E call n none c s=some (e,bL)→wE P E be br s bL e a w fun Q=>c.wp P Q a w) ∧
 (∀{c:Code}{s bL:fz}{e:dc}{a:Act}{w:World},fb E call n none (.loop c) s=some (e,bL)→wE P E be br s bL e a w fun Q=>sG P c Q a w) ∧
 (∀{b c:Code}{s bL:fz}{e:dc}{a:Act}{w:World},fb E call n (some b) c s=some (e,bL)→wE P E be br s bL e a w fun Q=>um P b c Q a w):=by
 intro n;induction n with
 |zero=>refine⟨?_,?_,?_⟩<;>(intros;simp_all [fb])
 |succ n ih =>
  obtain⟨sH,Em,KN⟩:=ih
  have zR:∀{c:Code}{s bL:fz}{e:dc}{a:Act}{w:World},fb E call (n+1) none (.loop c) s=some (e,bL)→wE P E be br s bL e a w fun Q=>sG P c Q a w:=by
   intro c s bL e a w h al Q r ap;simp only [fb]at h;refine Eg ?_;cases p:fb E call n none c s with
   |none=>simp [p]at h
   |some I =>
    obtain⟨bn,s1⟩:=I;rw [p]at h;refine sH p r fun cG bC bN g1 g2 g3=> ?_
    cases bn with
    |normal =>
     simp only at h;show sG P c Q cG bC;exact Em h g2 fun sz mK sA aM aR bu=>ap sz mK sA (g1.trans (aM.mono g3)) aR (by omega)
    |exit id=>simp at h;obtain⟨rfl,rfl⟩:=h;exact ap cG bC bN g1 g2 g3
    |goto id=>simp at h;obtain⟨rfl,rfl⟩:=h;exact ap cG bC bN g1 g2 g3
    |ret=>simp at h;obtain⟨rfl,rfl⟩:=h;exact ap cG bC bN g1 g2 g3
  have TH:∀{b c:Code}{s bL:fz}{e:dc}{a:Act}{w:World},fb E call (n+1) (some b) c s=some (e,bL)→wE P E be br s bL e a w fun Q=>um P b c Q a w:=by
   intro b c s bL e a w h al Q r ap;simp only [fb]at h;refine zQ ?_;cases p:fb E call n none c s with
   |none=>simp [p]at h
   |some I =>
    obtain⟨bn,s1⟩:=I;rw [p]at h;refine sH p r fun cG bC bN g1 g2 g3=> ?_
    cases bn with
    |normal=>simp at h;obtain⟨rfl,rfl⟩:=h;exact ap cG bC bN g1 g2 g3
    |exit id=>simp at h;obtain⟨rfl,rfl⟩:=h;exact ap cG bC bN g1 g2 g3
    |goto l =>
     simp only at h;show q6 P b Q (.goto l) cG bC;simp only [q6];cases a8:findLabel b l with
     |some rest =>
      rw [a8]at h;exact KN h g2 fun sz mK sA aM aR bu=>ap sz mK sA (g1.trans (aM.mono g3)) aR (by omega)
     |none =>
      rw [a8]at h;simp at h;obtain⟨rfl,rfl⟩:=h;exact ap cG bC bN g1 g2 g3
    |ret=>simp at h;obtain⟨rfl,rfl⟩:=h;exact ap cG bC bN g1 g2 g3
  refine⟨?_,zR,TH⟩;intro c s bL e a w h al Q r ap;cases c with
  |skip=>simp [fb]at h;obtain⟨rfl,rfl⟩:=h;exact wp_skip (ap a w al (fk.refl _ _) r (Nat.le_refl _))
  |label l=>simp [fb]at h;obtain⟨rfl,rfl⟩:=h;exact wp_label (ap a w al (fk.refl _ _) r (Nat.le_refl _))
  |region id ops draw =>
   simp only [fb,Option.map_eq_some_iff,Prod.mk.injEq]at h;obtain⟨s1,p,rfl,rfl⟩:=h;exact KJ cH dn gd e4 r p ap
  |seq x y =>
   simp only [fb]at h;refine wp_seq ?_;cases p:fb E call n none x s with
   |none=>simp [p]at h
   |some I =>
    obtain⟨bn,s1⟩:=I;rw [p]at h;refine sH p r fun cG bC bN g1 g2 g3=> ?_
    cases bn with
    |normal =>
     simp only at h;show y.wp P Q cG bC;exact sH h g2 fun sz mK sA aM aR bu=>ap sz mK sA (g1.trans (aM.mono g3)) aR (by omega)
    |exit id=>simp at h;obtain⟨rfl,rfl⟩:=h;exact ap cG bC bN g1 g2 g3
    |goto id=>simp at h;obtain⟨rfl,rfl⟩:=h;exact ap cG bC bN g1 g2 g3
    |ret=>simp at h;obtain⟨rfl,rfl⟩:=h;exact ap cG bC bN g1 g2 g3
  |cond x y z =>
   simp only [fb]at h;have ae:=r.eval x;split at h
   ·rename_i au;rw [au]at ae;simp only [aN]at ae;exact wp_cond_true ae (sH h r ap)
   ·rename_i au;rw [au]at ae;simp only [aN]at ae;exact wp_cond_false ae (sH h r ap)
   ·cases h
  |block id c =>
   simp only [fb]at h;refine wp_block ?_;cases p:fb E call n none c s with
   |none=>simp [p]at h
   |some I =>
    obtain⟨bn,s1⟩:=I;rw [p]at h;refine sH p r fun cG bC bN g1 g2 g3=> ?_
    cases bn with
    |normal=>simp at h;obtain⟨rfl,rfl⟩:=h;exact ap cG bC bN g1 g2 g3
    |exit C =>
     simp at h;obtain⟨rfl,rfl⟩:=h;simp only [wD,Exit.inBlock];by_cases aV:C=id
     ·rw [if_pos aV]at ap⊢; exact ap cG bC bN g1 g2 g3
     ·rw [if_neg aV]at ap⊢; exact ap cG bC bN g1 g2 g3
    |goto l=>simp at h;obtain⟨rfl,rfl⟩:=h;exact ap cG bC bN g1 g2 g3
    |ret=>simp at h;obtain⟨rfl,rfl⟩:=h;exact ap cG bC bN g1 g2 g3
  |loop c=>exact KK (zR h r ap)
  |scope c =>
   simp only [fb]at h;exact KM (KN h r ap)
  |goto l=>simp [fb]at h;obtain⟨rfl,rfl⟩:=h;exact wp_goto (ap a w al (fk.refl _ _) r (Nat.le_refl _))
  |exit id=>simp [fb]at h;obtain⟨rfl,rfl⟩:=h;exact wp_exit (ap a w al (fk.refl _ _) r (Nat.le_refl _))
  |ret=>simp [fb]at h;obtain⟨rfl,rfl⟩:=h;exact wp_ret (ap a w al (fk.refl _ _) r (Nat.le_refl _))
  |rangeFunc f e5 x y=>simp [fb]at h
  |refuse w=>simp [fb]at h
theorem En(b':E.D.dw P){be:Nat→Prop}{br w:World}{s:fz}{a:Act}(r:gS al be br s a w):∀{dR:List ResultVar}{l:List o},jm E.D dR s=some l →
 ∃ci,(dR.mapM (fun(x:ResultVar)=>(match x with|.tmp t=>pure (a.tmps.getD t undef)|.cell b t=>do loadVar t (←asAddr (a.tmps.getD b undef)):Sem Value))).run P w=.ok ci w∧bH al l ci
 |[],l,h=>by simp [jm]at h;subst h;exact⟨[],rfl,by simp [bH]⟩
 |.tmp t::dR,l,h=>by
  simp only [jm,Option.map_eq_some_iff]at h;obtain⟨m,p,rfl⟩:=h;obtain⟨ci,aM,aR⟩:=En b' r p;refine⟨a.tmps.getD t undef::ci,?_,?_⟩
  ·simp only [List.mapM_cons,Sem.run_bind,Sem.run_pure,Result.andThen_ok,aM]
  ·simp only [bH];exact⟨_,_,rfl,r.fa.DU t,aR⟩
 |.cell b t::dR,l,h=>by
  simp only [jm]at h;split at h
  ·rename_i I ac;split at h
   ·rename_i v m p ad;simp at h;subst h;obtain⟨ci,aM,aR⟩:=En b' r ad;have au:=r.fa.DU b;rw [ac]at au;obtain⟨bt,g1,g2⟩:=JI b' r.heap au p;simp only [aN]at au;obtain⟨fN,KO,sn⟩:=au;rw [KO]at g1;simp only [Instr.loadAt,Instr.sureAddr,Sem.run_bind,Sem.run_pure,Result.andThen_ok]at g1;refine⟨bt::ci,?_,?_⟩
    ·have ed:(asAddr (a.tmps.getD b undef)).run P w=.ok fN w:=by rw [KO];rfl
     simp only [List.mapM_cons,Sem.run_bind,ed,Sem.run_pure,Result.andThen_ok,g1,aM]
    ·simp only [bH];exact⟨_,_,rfl,g2,aR⟩
   ·cases h
  ·cases h
theorem KP(b':E.D.dw P){be:Nat→Prop}{br w:World}{s:fz}{a:Act}(r:gS al be br s a w){fn:Func}{l:List o}(h:jm E.D fn.results.toList s=some l) :
 ∃bt,(results fn a.tmps).run P w=.ok bt w∧aN al (mF l) bt:=by
 obtain⟨ci,p,ad⟩:=En b' r h
 have hm:(fn.results.mapM (fun(x:ResultVar)=>(match x with|.tmp t=>pure (a.tmps.getD t undef)|.cell b t=>do loadVar t (←asAddr (a.tmps.getD b undef)):Sem Value))).run P w=.ok ci.toArray w:=by rw [←Array.toArray_toList (xs:=fn.results)];simp only [List.mapM_toArray,Sem.run_map,p,Result.andThen_ok]
 have hlen:=ad.length;by_cases Eo:l.length=1
 ·obtain⟨x,rfl⟩:=List.length_eq_one_iff.1 Eo;obtain⟨y,rfl⟩:=List.length_eq_one_iff.1 (by rw [hlen,Eo]);refine⟨y,?_,?_⟩
  ·unfold results;rw [Sem.run_bind]
   erw [hm]
   rfl
  ·simp only [bH]at ad;obtain⟨v,t,e,bd,bS⟩:=ad;simp at e;obtain⟨rfl,rfl⟩:=e;exact bd
 ·refine⟨.tuple ci.toArray,?_,?_⟩
  ·unfold results;rw [Sem.run_bind]
   erw [hm]
   simp only [Result.andThen_ok,Sem.run_pure];rw [dif_neg (by simp;omega)]
  ·have:mF l=.tuple l:=by
    unfold mF;split
    ·simp at Eo
    ·rfl
   rw [this];simp only [aN];exact⟨_,rfl,by simpa using ad⟩
theorem TI(cH:hv P E){be:Nat→Prop}{br:World}(dn:fC be br.heap.size)(fQ:E.cond be br)(e4:P.follows .mixedOrders=true):∀n,nN P be br (mG P E n):=by
 intro n;induction n with
 |zero=>intro f args h v aa av;simp [mG]at av
 |succ n ih =>
  intro f args h v aa av al w dF eU cE ed;simp only [mG]at av;split at av
  ·rename_i g ag;exact cH.J5 f g ag be br dn fQ args h v aa av al w dF eU cE ed
  ·rename_i jF;split at av
   ·rename_i fn pG;split at av
    ·rename_i c zD;refine⟨⟨fn,c,pG,zD⟩,?_⟩;refine calls_of_wp pG zD ?_;have hlen:dF.size=args.length:=by have:=ed.length;rwa [Array.length_toList]at this
     have r:gS al be br ⟨args++List.replicate (fn.ntmps-args.length) gp,h⟩ {tmps:=dF++Array.replicate (fn.ntmps-dF.size) undef,defers:=[]} w:=by refine⟨?_,eU,cE,rfl⟩;simp only [Array.toList_append,Array.toList_replicate,hlen];exact ed.append (bH.replicate (aN.gp al) _)
     cases ae:fb E (mG P E n) n none c ⟨args++List.replicate (fn.ntmps-args.length) gp,h⟩with
     |none=>simp [ae]at av
     |some I =>
      obtain⟨e,s⟩:=I;rw [ae]at av
      have fin:∀cG bC bN,fk al bN h.next→gS bN be br s cG bC→h.next≤s.heap.next→ ∀{l},jm E.D fn.results.toList s=some l→v=mF l→aa=s.heap →
       cG.defers=[]∧∃KQ,(results fn cG.tmps).run P bC=.ok KQ bC∧∃bt bN,Ending.returned KQ=.returned bt∧fk al bN h.next∧aN bN v bt∧c4 bN be aa bC∧Safe be br bC∧h.next≤aa.next:=by
       intro cG bC bN g1 g2 g3 l az bg bW;subst bg bW;obtain⟨bt,aM,aR⟩:=KP cH.hV g2 az;exact⟨g2.defers,bt,aM,bt,bN,rfl,g1,aR,g2.heap,g2.below,g3⟩
      refine(TG cH dn ih e4 n).1 ae r fun cG bC bN g1 g2 g3=> ?_
      cases e with
      |normal =>
       simp only [Option.map_eq_some_iff,Prod.mk.injEq]at av;obtain⟨l,az,p,ad⟩:=av;exact fin cG bC bN g1 g2 g3 az p.symm ad.symm
      |ret =>
       simp only [Option.map_eq_some_iff,Prod.mk.injEq]at av;obtain⟨l,az,p,ad⟩:=av;exact fin cG bC bN g1 g2 g3 az p.symm ad.symm
      |exit id=>simp at av
      |goto id=>simp at av
    ·cases av
   ·cases av
end
end
end Go.cM
namespace Go.cM
noncomputable section
open Go.RowKit
section
variable {P:Program}{E:b5}
def TJ:Map:=fun _ _=>none
theorem c4.empty(be:Nat→Prop)(w:World)(n:Nat):c4 TJ be ⟨n,.nil⟩ w where
 dD i v I h:=by cases h
 apart i v I C u q h:=by cases h
 same i v I u q h:=by cases h
theorem dL.TK(P:Program):dL.dw (y7 P) P:=fun _ _ h=>h
theorem TL{P:Program}(h:(P.funcs.toList.all fun fn=> !(fn.name == "runtime.NumGoroutine"))=true):∀(f:Nat) fn,P.funcs[f]? =some fn→(fn.name == "runtime.NumGoroutine")=false:=by
 intro f fn a8
 have hm:fn∈P.funcs.toList:=by rw [←Array.getElem?_toList]at a8;exact List.mem_of_getElem? a8
 have:=List.all_eq_true.1 h fn hm;simpa using this
theorem TM{P:Program}{E:b5}(h:(E.eqs.all fun t=>C7 P t)=true):∀t,E.ho t=true→qQ P t:=by intro t bX;exact List.all_eq_true.1 h t (by simpa [b5.ho]using bX)
end
end
end Go.cM
namespace Go.cM
noncomputable section
open Go.RowKit
def bG.bc(r:Nat→Nat)(a:bG):bG:= {a with id:=r a.id}
mutual
def o.bc(r:Nat→Nat):o→o
 |.ptr (some a)=> .ptr (some (a.bc r))
 |.slice (some a) n c=> .slice (some (a.bc r)) n c
 |.func fn f c=> .func fn (o.gK r f) (o.gK r c)
 |.iface t v=> .iface t (o.bc r v)
 |.agg bp=> .agg (o.gK r bp)
 |.tuple ci=> .tuple (o.gK r ci)
 |.undef=> .undef
 |.bool b=> .bool b
 |.int k n=> .int k n
 |.str s=> .str s
 |.ptr none=> .ptr none
 |.slice none n c=> .slice none n c
 |.nilFunc=> .nilFunc
 |.nilIface=> .nilIface
def o.gK(r:Nat→Nat):List o→List o
 |[]=> []
 |a::l=>o.bc r a::o.gK r l
end
theorem o.zS(r:Nat→Nat):∀(l:List o),o.gK r l=l.map (o.bc r)
 |[]=>rfl
 |a::l=>by simp [o.gK,o.zS r l]
mutual
def cA(D:Nat→Prop):o→Prop
 |.ptr (some a)=>D a.id
 |.slice (some a) _ _=>D a.id
 |.func _ f c=>fw D f∧fw D c
 |.iface _ v=>cA D v
 |.agg bp=>fw D bp
 |.tuple ci=>fw D ci
 |.undef=>True
 |.bool _=>True
 |.int _ _=>True
 |.str _=>True
 |.ptr none=>True
 |.slice none _ _=>True
 |.nilFunc=>True
 |.nilIface=>True
def fw(D:Nat→Prop):List o→Prop
 |[]=>True
 |a::l=>cA D a∧fw D l
end
theorem q7{D:Nat→Prop} :∀{l:List o},fw D l↔ ∀a∈l,cA D a
 |[]=>by simp [fw]
 |a::l=>by simp [fw,q7 (l:=l)]
mutual
theorem aN.bc{al c1:Map}{r:Nat→Nat}(h:∀i v I,al i v=some I→c1 (r i) v=some I):∀{a:o}{v:Value},aN al a v→aN c1 (a.bc r) v
 |.undef,_,_=>by simp [aN,o.bc]
 |.bool b,v,k=>by simpa [aN,o.bc]using k
 |.int _ n,v,k=>by simpa [aN,o.bc]using k
 |.str s,v,k=>by simpa [aN,o.bc]using k
 |.ptr none,v,k=>by simpa [aN,o.bc]using k
 |.ptr (some a),v,k=>by simp only [aN,o.bc]at k⊢;obtain⟨x,e,I,ac,q⟩:=k;exact⟨x,e,I,h _ _ _ ac,q⟩
 |.slice none len cap,v,k=>by simpa [aN,o.bc]using k
 |.slice (some a) len cap,v,k=>by
  simp only [aN,o.bc]at k⊢;obtain⟨x,c,e,ek,ck,q⟩:=k;refine⟨x,c,e,ek,ck,?_⟩;rcases q with ⟨a8,I,ac,q⟩|⟨f,a8,I,ac,q⟩
  ·exact .inl ⟨a8,I,h _ _ _ ac,q⟩
  ·exact .inr ⟨f,a8,I,h _ _ _ ac,q⟩
 |.func fn f c,v,k=>by simp only [aN,o.bc]at k⊢;obtain⟨gk,fS,e,fT,kn⟩:=k;exact⟨gk,fS,e,bH.bc h fT,bH.bc h kn⟩
 |.nilFunc,v,k=>by simpa [aN,o.bc]using k
 |.iface t a,v,k=>by simp only [aN,o.bc]at k⊢;obtain⟨x,e,q⟩:=k;exact⟨x,e,aN.bc h q⟩
 |.nilIface,v,k=>by simpa [aN,o.bc]using k
 |.agg bp,v,k=>by simp only [aN,o.bc]at k⊢;obtain⟨x,e,q⟩:=k;exact⟨x,e,bH.bc h q⟩
 |.tuple bp,v,k=>by simp only [aN,o.bc]at k⊢;obtain⟨x,e,q⟩:=k;exact⟨x,e,bH.bc h q⟩
theorem bH.bc{al c1:Map}{r:Nat→Nat}(h:∀i v I,al i v=some I→c1 (r i) v=some I):∀{l:List o}{t:List Value},bH al l t→bH c1 (o.gK r l) t
 |[],t,k=>by simpa [bH,o.gK]using k
 |a::l,t,k=>by simp only [bH,o.gK]at k⊢;obtain⟨v,fj,e,aM,aR⟩:=k;exact⟨v,fj,e,aN.bc h aM,bH.bc h aR⟩
end
mutual
theorem aN.lu{al c1:Map}{r:Nat→Nat}{D:Nat→Prop}(h:∀i,D i→ ∀v I,c1 (r i) v=some I→al i v=some I):∀{a:o}{v:Value},cA D a→aN c1 (a.bc r) v→aN al a v
 |.undef,_,_,_=>by simp [aN]
 |.bool b,v,_,k=>by simpa [aN,o.bc]using k
 |.int _ n,v,_,k=>by simpa [aN,o.bc]using k
 |.str s,v,_,k=>by simpa [aN,o.bc]using k
 |.ptr none,v,_,k=>by simpa [aN,o.bc]using k
 |.ptr (some a),v,c,k=>by simp only [aN,o.bc,cA]at k c⊢;obtain⟨x,e,I,ac,q⟩:=k;exact⟨x,e,I,h _ c _ _ ac,q⟩
 |.slice none len cap,v,_,k=>by simpa [aN,o.bc]using k
 |.slice (some a) len cap,v,kw,k=>by
  simp only [aN,o.bc,cA]at k kw⊢;obtain⟨x,c,e,ek,ck,q⟩:=k;refine⟨x,c,e,ek,ck,?_⟩;rcases q with ⟨a8,I,ac,q⟩|⟨f,a8,I,ac,q⟩
  ·exact .inl ⟨a8,I,h _ kw _ _ ac,q⟩
  ·exact .inr ⟨f,a8,I,h _ kw _ _ ac,q⟩
 |.func fn f c,v,kw,k=>by simp only [aN,o.bc,cA]at k kw⊢;obtain⟨gk,fS,e,fT,kn⟩:=k;exact⟨gk,fS,e,bH.lu h kw.1 fT,bH.lu h kw.2 kn⟩
 |.nilFunc,v,_,k=>by simpa [aN,o.bc]using k
 |.iface t a,v,kw,k=>by simp only [aN,o.bc,cA]at k kw⊢;obtain⟨x,e,q⟩:=k;exact⟨x,e,aN.lu h kw q⟩
 |.nilIface,v,_,k=>by simpa [aN,o.bc]using k
 |.agg bp,v,kw,k=>by simp only [aN,o.bc,cA]at k kw⊢;obtain⟨x,e,q⟩:=k;exact⟨x,e,bH.lu h kw q⟩
 |.tuple bp,v,kw,k=>by simp only [aN,o.bc,cA]at k kw⊢;obtain⟨x,e,q⟩:=k;exact⟨x,e,bH.lu h kw q⟩
theorem bH.lu{al c1:Map}{r:Nat→Nat}{D:Nat→Prop}(h:∀i,D i→ ∀v I,c1 (r i) v=some I→al i v=some I):∀{l:List o}{t:List Value},fw D l→bH c1 (o.gK r l) t→bH al l t
 |[],t,_,k=>by simpa [bH,o.gK]using k
 |a::l,t,c,k=>by simp only [bH,o.gK,fw]at k c⊢;obtain⟨v,fj,e,aM,aR⟩:=k;exact⟨v,fj,e,aN.lu h c.1 aM,bH.lu h c.2 aR⟩
end
def R.bc(r:Nat→Nat)(b:R):R:= {b with bi:=b.bi.map (o.bc r)}
theorem R.KR(r:Nat→Nat)(b:R)(v:Nat):(b.bc r).cO v=b.cO v:=by show(if v=b.J then(b.bi.map (o.bc r)).length else if b.fX≤v∧v<b.J then b.gQ else 0)=b.cO v;rw [List.length_map];rfl
theorem o.zT(r:Nat→Nat)(e:o):(e.bc r).cells=e.cells.map (o.bc r):=by
 cases e with
 |ptr ab=>cases ab<;>simp [o.bc,o.cells]
 |slice ab n c=>cases ab<;>simp [o.bc,o.cells]
 |agg l=>simp [o.bc,o.cells,o.zS]
 |_=>simp [o.bc,o.cells]
theorem Row.bc{al c1:Map}{r:Nat→Nat}(h:∀i v I,al i v=some I→c1 (r i) v=some I){S T:Nat→Prop}{b:R}{v:Nat}{I:Place}{w:World}(k:Row al S b v I w)(lv:I.ro=false→ ¬T I.cq):Row c1 T (b.bc r) v I w where
 cq:=k.cq
 base:=lv
 cells:=k.cells
 free:=k.free
 mark:=k.mark
 jn:=k.jn
 cont i e p ad bd:=by rw [R.KR]at ad;simp only [R.bc,List.getElem?_map,Option.map_eq_some_iff]at bd;obtain⟨ca,bd,rfl⟩:=bd;obtain⟨aM,aR,bu⟩:=k.cont i ca p ad bd;refine⟨by rw [o.zT,List.length_map];exact aM,aR,fun C bV ae=> ?_⟩;rw [o.zT,List.getElem?_map,Option.map_eq_some_iff]at ae;obtain⟨jg,ae,rfl⟩:=ae;obtain⟨x,g1,g2,g3⟩:=bu C jg ae;exact⟨x,g1,aN.bc h g2,g3⟩
theorem cA.cells{D:Nat→Prop}{e:o}(h:cA D e):∀x∈e.cells,cA D x:=by
 intro x ae;cases e with
 |agg l=>simp only [cA]at h;exact q7.1 h x (by simpa [o.cells]using ae)
 |ptr ab=>cases ab<;>(simp only [o.cells,List.mem_singleton]at ae;subst ae;exact h)
 |slice ab n c=>cases ab<;>(simp only [o.cells,List.mem_singleton]at ae;subst ae;exact h)
 |_=>simp only [o.cells,List.mem_singleton]at ae;subst ae;exact h
theorem Row.lu{al c1:Map}{r:Nat→Nat}{D:Nat→Prop}(h:∀i,D i→ ∀v I,c1 (r i) v=some I→al i v=some I){S T:Nat→Prop}{b:R}{v:Nat}{I:Place}{w:World}(av:∀e∈b.bi,cA D e)(k:Row c1 S (b.bc r) v I w)
 (lv:I.ro=false→ ¬T I.cq):Row al T b v I w where
 cq:=k.cq
 base:=lv
 cells:=k.cells
 free:=k.free
 mark:=k.mark
 jn:=k.jn
 cont i e p ad bd:=by
  have TN:(b.bc r).bi[i]? =some (e.bc r):=by simp [R.bc,bd]
  obtain⟨aM,aR,bu⟩:=k.cont i (e.bc r) p (by rw [R.KR];exact ad) TN;rw [o.zT,List.length_map]at aM;refine⟨aM,aR,fun C bV ae=> ?_⟩;obtain⟨x,g1,g2,g3⟩:=bu C (bV.bc r) (by rw [o.zT,List.getElem?_map,ae];rfl);exact⟨x,g1,aN.lu h ((av e (List.mem_of_getElem? bd)).cells bV (List.mem_of_getElem? ae)) g2,g3⟩
theorem Row.at{al c1:Map}(h:al.le c1){S:Nat→Prop}{b:R}{v:Nat}{I:Place}{w bC:World}(k:Row al S b v I w)(an:w.heap.size≤bC.heap.size)(au:bC.heap[I.cq]? =w.heap[I.cq]?):Row c1 S b v I bC where
 cq:=Nat.lt_of_lt_of_le k.cq an
 base:=k.base
 cells ab ai:=by have:=k.cells ab ai;simp only [World.cell?,au]at this⊢; exact this
 free bb ab ai:=by have:=k.free bb ab ai;simp only [World.frozen?,au]at this⊢; exact this
 mark bb:=(k.mark bb).of_eq (se au)
 jn t bX:=by rw [se au];exact k.jn t bX
 cont i e p ad bd:=by obtain⟨aM,aR,bu⟩:=k.cont i e p ad bd;refine⟨aM,aR,fun C bV ae=> ?_⟩;obtain⟨x,g1,g2,g3⟩:=bu C bV ae;refine⟨x,?_,aN.mono h g2,g3⟩;simp only [World.cell?,Place.at,au]at g1⊢; exact g1
def In(h:j)(i:Nat):Prop:=(h.get i).isSome=true
structure zU(r:Nat→Nat)(h H:j):Prop where
 get:∀i b,h.get i=some b→i<h.next∧H.get (r i)=some (b.bc r)
 inj:∀i C,In h i→In h C→r i=r C→i=C
 e1:∀i b,h.get i=some b→ ∀e∈b.bi,cA (In h) e
open Classical in
def iG(c1:Map)(r:Nat→Nat)(h:j):Map:=fun i v=>if In h i then c1 (r i) v else none
theorem lx{c1:Map}{r:Nat→Nat}{h:j}{i v:Nat}{I:Place}(k:iG c1 r h i v=some I):In h i∧c1 (r i) v=some I:=by
 unfold iG at k;split at k
 ·rename_i ak;exact⟨ak,k⟩
 ·cases k
theorem pY{c1:Map}{r:Nat→Nat}{h:j}{i v:Nat}(ak:In h i):iG c1 r h i v=c1 (r i) v:=by unfold iG;rw [if_pos ak]
theorem c4.iG{c1:Map}{S T:Nat→Prop}{H h:j}{w:World}{r:Nat→Nat}(k:c4 c1 S H w)(hw:zU r h H)(lv:∀i v I,iG c1 r h i v=some I→I.ro=false→ ¬T I.cq):c4 (iG c1 r h) T h w where
 dD i v I ac:=by obtain⟨ak,aD⟩:=lx ac;obtain⟨b,au⟩:=Option.isSome_iff_exists.1 ak;obtain⟨p,ad⟩:=hw.get i b au;obtain⟨aM,B,aR,bu,hg,ie,mJ,DS,wg⟩:=k.dD _ _ _ aD;rw [ad]at aR;simp only [Option.some.injEq]at aR;subst aR;exact⟨p,b,au,bu,hg,ie,mJ,DS,wg.lu (fun i ak v I ac=>by rw [pY ak];exact ac) (hw.e1 i b au) (lv i v I ac)⟩
 apart i v I C u q ac aD au b1:=by obtain⟨ak,eo⟩:=lx ac;obtain⟨aV,eH⟩:=lx aD;exact k.apart _ _ _ _ _ _ eo eH au fun e=>b1 (hw.inj i C ak aV e)
 same i v I u q ac aD au:=by obtain⟨ak,eo⟩:=lx ac;obtain⟨_,eH⟩:=lx aD;exact k.same _ _ _ _ _ eo eH au
class j7 (cf:(Nat→Prop)→World→Prop):Prop where
 mono:∀{be wF:Nat→Prop}{br w:World},fC be br.heap.size→cf be br→Safe be br w→(∀x,be x→wF x)→cf wF w
def aI(P:Program)(cf:(Nat→Prop)→World→Prop)(f:FuncId)(args:List o)(h:j)(v:o)(aa:j):Prop :=
 ∀(be:Nat→Prop)(br:World),fC be br.heap.size→cf be br→ ∀(al:Map)(w:World)(dF:Array Value),c4 al be h w→Safe be br w→bH al args dF.toList →
  (∃fn c,P.funcs[f]? =some fn∧fn.body=some c) ∧
  Calls P f dF w fun e bC=> ∃bt bN,e=.returned bt∧fk al bN h.next∧aN bN v bt∧c4 bN be aa bC∧Safe be br bC∧h.next≤aa.next
theorem aI.TO{P:Program}{cf:(Nat→Prop)→World→Prop}{f:FuncId}{g:za}(k:DN P cf f g){args:List o}{h aa:j}{v:o}(ag:g args h=some (v,aa)):aI P cf f args h v aa :=
 fun be br dn fQ al w dF eU cE ed=>k be br dn fQ args h v aa ag al w dF eU cE ed
theorem aI.uo{P:Program}{E:b5}(cH:hv P E)(e4:P.follows .mixedOrders=true){n:Nat}{f:FuncId}{args:List o}{h aa:j}{v:o}(av:mG P E n f args h=some (v,aa)):aI P E.cond f args h v aa :=
 fun be br dn fQ al w dF eU cE ed=>TI cH dn fQ e4 n f args h v aa av al w dF eU cE ed
open Classical in
def push(c1 bN:Map)(r:Nat→Nat):Map:=fun C u=>if k:∃i I,r i=C∧bN i u=some I then bN k.choose u else c1 C u
theorem aI.frame{P:Program}{cf:(Nat→Prop)→World→Prop}[TP:j7 cf]{f:FuncId}{args:List o}{h aa:j}{v:o}(k:aI P cf f args h v aa){r:Nat→Nat}{H aP:j}(hw:zU r h H)(gH:fw (In h) args)
 (ff:∀i,h.next≤i→r i=H.next+(i-h.next)) (e0:∀i b,aa.get i=some b→(In h i∨h.next≤i)→aP.get (r i)=some (b.bc r)) (q8:aP.next=H.next+(aa.next-h.next))
 (jr:∀C,C<H.next→(∀i,In h i→r i≠C)→aP.get C=H.get C):aI P cf f (args.map (o.bc r)) H (v.bc r) aP:=by
 intro S br cJ wG c1 w dF eU sI ed
 let al:=iG c1 r h
 let wH:Nat→Prop:=fun x=>S x∨(x<w.heap.size∧∀i v I,al i v=some I→I.ro=false→I.cq≠x)
 have sD:fC wH w.heap.size:=by
  rintro x (ae|ae)
  ·exact Nat.lt_of_lt_of_le (cJ x ae) sI.size
  ·exact ae.1
 have TQ:∀i v I,al i v=some I→I.ro=false→ ¬wH I.cq:=by
  rintro i v I ac eY (ae|ae)
  ·obtain⟨_,aD⟩:=lx ac;obtain⟨_,B,_,_,_,_,_,_,sJ⟩:=eU.dD _ _ _ aD;exact sJ.base eY ae
  ·exact ae.2 i v I ac eY rfl
 have wI:c4 al wH h w:=eU.iG hw TQ
 have Ep:bH al args dF.toList:=by rw [←o.zS]at ed;exact bH.lu (fun i ak v I ac=>by show iG c1 r h i v=some I;rw [pY ak];exact ac) gH ed
 obtain⟨au,av⟩:=k wH w sD (TP.mono cJ wG sI fun x ae=> .inl ae) al w dF wI (Safe.refl _ _) Ep;refine⟨au,av.mono fun e bC ⟨bt,bN,he,nR,bg,bb,an,aS⟩=> ?_⟩
 have sK:∀i u I,bN i u=some I→(In h i∧r i<H.next)∨h.next≤i:=by
  intro i u I ac;by_cases ak:i<h.next
  ·by_cases ij:In h i
   ·left;refine⟨ij,?_⟩;by_cases hex:∃KS yZ,al i KS=some yZ
    ·obtain⟨KS,yZ,bm⟩:=hex;exact(eU.dD _ _ _ (lx bm).2).1
    ·have:=nR.new i ak (fun u=>by
      cases aD:al i u with
      |none=>rfl
      |some q=>exact absurd ⟨u,q,aD⟩ hex) u
     rw [this]at ac;cases ac
   ·have:=nR.new i ak (fun u=>by show iG c1 r h i u=none;unfold cM.iG;rw [if_neg ij]) u;rw [this]at ac;cases ac
  ·exact .inr (by omega)
 have q9:∀i C u t I q,bN i u=some I→bN C t=some q→r i=r C→i=C:=by
  intro i C u t I q ac aD e;rcases sK i u I ac with ⟨ak,Er⟩|ak<;>rcases sK C t q aD with ⟨aV,afP⟩|aV
  ·exact hw.inj i C ak aV e
  ·rw [ff C aV]at e;omega
  ·rw [ff i ak]at e;omega
  ·rw [ff i ak,ff C aV]at e;omega
 have dH:∀i u I,bN i u=some I→push c1 bN r (r i) u=some I:=by
  intro i u I ac;have hex:∃fh ly,r fh=r i∧bN fh u=some ly:=⟨i,I,rfl,ac⟩
  unfold push;rw [dif_pos hex];obtain⟨ly,bn,bs⟩:=hex.choose_spec;rw [q9 _ _ _ _ _ _ bs ac bn];exact ac
 have dy:∀C u,(¬∃i I,r i=C∧bN i u=some I)→push c1 bN r C u=c1 C u:=by intro C u hex;unfold push;rw [dif_neg hex]
 have gy:∀C u I,c1 C u=some I→(¬∃i I,r i=C∧bN i u=some I)→ ∀i,In h i→r i≠C:=by
  intro C u I ac hex i ak e;subst e;have p:al i u=some I:=by show iG c1 r h i u=some I;rw [pY ak];exact ac
  exact hex ⟨i,I,rfl,nR.le _ _ _ p⟩
 have mT:(c1:Map).le (push c1 bN r):=by
  intro C u I ac;by_cases hex:∃i I,r i=C∧bN i u=some I
  ·obtain⟨i,q,rfl,aD⟩:=hex;rw [dH i u q aD];rcases sK i u q aD with ⟨ak,Er⟩|ak
   ·have p:al i u=some I:=by show iG c1 r h i u=some I;rw [pY ak];exact ac
    rw [nR.le _ _ _ p]at aD;exact aD.symm
   ·have:=(eU.dD _ _ _ ac).1;rw [ff i ak]at this;omega
  ·rw [dy C u hex];exact ac
 have q5:∀C u I,c1 C u=some I→(∀i,In h i→r i≠C)→wH I.cq:=by intro C u I ac b1;obtain⟨_,B,_,_,_,_,_,_,sJ⟩:=eU.dD _ _ _ ac;refine .inr ⟨sJ.cq,fun i v q aD eY e=> ?_⟩;obtain⟨ak,eH⟩:=lx aD;have:=(eU.apart _ _ _ _ _ _ eH ac e (b1 i ak)).1;rw [eY]at this;cases this
 refine⟨bt,push c1 bN r,he,⟨mT,?_,?_⟩,aN.bc dH bg,⟨?_,?_,?_⟩,sI.trans (an.less fun i ak=> .inl ak),by omega⟩
 ·intro C aV jF u;by_cases hex:∃i I,r i=C∧bN i u=some I
  ·obtain⟨i,q,rfl,aD⟩:=hex;rcases sK i u q aD with ⟨ak,Er⟩|ak
   ·have Ec:i<h.next:=by obtain⟨b,au⟩:=Option.isSome_iff_exists.1 ak;exact(hw.get i b au).1
    have:=nR.new i Ec (fun u=>by show iG c1 r h i u=none;rw [pY ak];exact jF u) u;rw [this]at aD;cases aD
   ·rw [ff i ak]at aV;omega
  ·rw [dy C u hex];exact jF u
 ·intro C u I ac eY;by_cases hex:∃i I,r i=C∧bN i u=some I
  ·obtain⟨i,q,rfl,aD⟩:=hex;rw [dH i u q aD]at ac;simp only [Option.some.injEq]at ac;subst ac;exact(lx (nR.ro i u q aD eY)).2
  ·rw [dy C u hex]at ac;exact ac
 ·intro C u I ac;by_cases hex:∃i I,r i=C∧bN i u=some I
  ·obtain⟨i,q,rfl,aD⟩:=hex;rw [dH i u q aD]at ac;simp only [Option.some.injEq]at ac;subst ac;obtain⟨d1,b,d2,d3,d4,d5,d6,d7,d8⟩:=bb.dD _ _ _ aD
   have TR:In h i∨h.next≤i:=by
    rcases sK i u q aD with ⟨ak,_⟩|ak
    ·exact .inl ak
    ·exact .inr ak
   refine⟨?_,b.bc r,e0 i b d2 TR,d3,d4,d5,d6,d7,d8.bc dH fun eY ae=>d8.base eY (.inl ae)⟩;rcases sK i u q aD with ⟨_,Er⟩|ak
   ·omega
   ·rw [ff i ak,q8];omega
  ·rw [dy C u hex]at ac;obtain⟨d1,B,d2,d3,d4,d5,d6,d7,d8⟩:=eU.dD _ _ _ ac;have b1:=gy C u I ac hex;exact⟨by omega,B,by rw [jr C d1 b1];exact d2,d3,d4,d5,d6,d7,d8.at mT an.size (an.block _ (q5 C u I ac b1))⟩
 ·have mixed:∀i u I C t q,bN i u=some I→c1 C t=some q→(∀i,In h i→r i≠C)→I.cq=q.cq→I.ro=true∧q.ro=true:=by
   intro i u I C t q ac aD b1 au;have ae:=q5 C t q aD b1;by_cases eY:I.ro=true
   ·obtain⟨ak,eo⟩:=lx (nR.ro i u I ac eY);exact eU.apart _ _ _ _ _ _ eo aD au (b1 i ak)
   ·obtain⟨_,b,_,_,_,_,_,_,d8⟩:=bb.dD _ _ _ ac;exact absurd (au▸ae) (d8.base (by simpa using eY))
  intro i u I C t q ac aD au b1;by_cases hex:∃fh I,r fh=i∧bN fh u=some I<;>by_cases mU:∃fh I,r fh=C∧bN fh t=some I
  ·obtain⟨fh,ly,rfl,eo⟩:=hex;obtain⟨gA,jG,rfl,eH⟩:=mU;rw [dH _ _ _ eo]at ac;rw [dH _ _ _ eH]at aD;simp only [Option.some.injEq]at ac aD;subst ac;subst aD;exact bb.apart _ _ _ _ _ _ eo eH au fun e=>b1 (by rw [e])
  ·obtain⟨fh,ly,rfl,eo⟩:=hex;rw [dH _ _ _ eo]at ac;rw [dy _ _ mU]at aD;simp only [Option.some.injEq]at ac;subst ac;exact mixed _ _ _ _ _ _ eo aD (gy C t q aD mU) au
  ·obtain⟨gA,jG,rfl,eH⟩:=mU;rw [dy _ _ hex]at ac;rw [dH _ _ _ eH]at aD;simp only [Option.some.injEq]at aD;subst aD;exact(mixed _ _ _ _ _ _ eH ac (gy i u I ac hex) au.symm).symm
  ·rw [dy _ _ hex]at ac;rw [dy _ _ mU]at aD;exact eU.apart _ _ _ _ _ _ ac aD au b1
 ·intro i u I t q ac aD au
  have both:∀fh ly,r fh=i→ ∀tW,bN fh tW=some ly→ ∀t q,push c1 bN r i t=some q→bN fh t=some q:=by
   intro fh ly e tW eo t q aD;by_cases mU:∃gA I,r gA=i∧bN gA t=some I
   ·obtain⟨gA,jG,bs,eH⟩:=mU;have:=q9 fh gA _ _ _ _ eo eH (by rw [e,bs]);subst this;rw [←bs,dH _ _ _ eH]at aD;rw [eH];exact aD
   ·rw [dy _ _ mU]at aD;rcases sK fh tW ly eo with ⟨ak,_⟩|ak
    ·exact absurd e (gy i t q aD mU fh ak)
    ·have:=(eU.dD _ _ _ aD).1;rw [←e,ff fh ak]at this;omega
  by_cases hex:∃fh I,r fh=i∧bN fh u=some I
  ·obtain⟨fh,ly,e,eo⟩:=hex;exact bb.same fh _ _ _ _ (both fh ly e u eo u I ac) (both fh ly e u eo t q aD) au
  ·by_cases mU:∃fh I,r fh=i∧bN fh t=some I
   ·obtain⟨fh,ly,e,eo⟩:=mU;exact bb.same fh _ _ _ _ (both fh ly e t eo u I ac) (both fh ly e t eo t q aD) au
   ·rw [dy _ _ hex]at ac;rw [dy _ _ mU]at aD;exact eU.same _ _ _ _ _ ac aD au
end
end Go.cM
namespace Go.cM
noncomputable section
section
variable {β:Type}
def gT(n:Nat)(k:Nat→β):β:=Nat.rec (motive:=fun _=>β) (k 0) (fun m _=>k (Nat.succ m)) n
theorem mV(n:Nat)(k:Nat→β):gT n k=k n:=by cases n<;>rfl
def Es(n:Int)(k:Int→β):β :=
 match n with
 |.ofNat m=>gT m fun m=>k (.ofNat m)
 |.negSucc m=>gT m fun m=>k (.negSucc m)
theorem TS(n:Int)(k:Int→β):Es n k=k n:=by cases n<;>simp [Es,mV]
def KT(d:IntKind)(k:IntKind→β):β :=
 match d with
 |.i8=>k .i8|.i16=>k .i16|.i32=>k .i32|.i64=>k .i64|.u8=>k .u8|.u16=>k .u16|.u32=>k .u32|.u64=>k .u64
theorem TT(d:IntKind)(k:IntKind→β):KT d k=k d:=by cases d<;>rfl
def uq(b:Bool)(k:Bool→β):β :=
 match b with
 |true=>k true
 |false=>k false
theorem KU(b:Bool)(k:Bool→β):uq b k=k b:=by cases b<;>rfl
def zV(a:bG)(k:bG→β):β :=
 match a with
 |⟨a,b,c,d,e⟩=>gT a fun a=>gT b fun b=>gT c fun c=>gT d fun d=>gT e fun e=>k ⟨a,b,c,d,e⟩
theorem KV(a:bG)(k:bG→β):zV a k=k a:=by cases a;simp [zV,mV]
def Et(b:UInt8)(k:UInt8→β):β :=
 match b with
 |⟨⟨⟨n,h⟩⟩⟩=>gT n fun m=>k (UInt8.ofNat m)
theorem TU(b:UInt8)(k:UInt8→β):Et b k=k b:=by
 obtain⟨⟨⟨n,h⟩⟩⟩:=b;simp only [Et,mV]
 congr 1
 apply UInt8.toNat_inj.1;simp [UInt8.toNat,UInt8.ofNat];omega
def zW:List UInt8→(List UInt8→β)→β
 |[],k=>k []
 |b::r,k=>Et b fun b=>zW r fun r=>k (b::r)
theorem KW:∀(l:List UInt8)(k:List UInt8→β),zW l k=k l
 |[],k=>rfl
 |b::r,k=>by simp only [zW,TU,KW r]
def sL(v:o)(k:o→β):β :=
 match v with
 |.undef=>k .undef
 |.bool b=>uq b fun b=>k (.bool b)
 |.int d n=>KT d fun d=>Es n fun n=>k (.int d n)
 |.str s=>zW s fun s=>k (.str s)
 |.ptr none=>k (.ptr none)
 |.ptr (some a)=>zV a fun a=>k (.ptr (some a))
 |.slice none n c=>gT n fun n=>gT c fun c=>k (.slice none n c)
 |.slice (some a) n c=>zV a fun a=>gT n fun n=>gT c fun c=>k (.slice (some a) n c)
 |.nilFunc=>k .nilFunc
 |.nilIface=>k .nilIface
 |.func a b c=>k (.func a b c)
 |.iface t v=>k (.iface t v)
 |.agg l=>k (.agg l)
 |.tuple l=>k (.tuple l)
theorem KX(v:o)(k:o→β):sL v k=k v:=by
 cases v with
 |ptr ab=>cases ab<;>simp [sL,KV]
 |slice ab n c=>cases ab<;>simp [sL,KV,mV]
 |_=>simp [sL,KU,TT,TS,KW]
def sM:List o→(List o→β)→β
 |[],k=>k []
 |a::r,k=>sL a fun a=>sM r fun r=>k (a::r)
theorem KY:∀(l:List o)(k:List o→β),sM l k=k l
 |[],k=>rfl
 |a::r,k=>by simp only [sM,KX,KY r]
def wJ(v:o)(k:o→β):β :=
 match v with
 |.agg l=>sM l fun l=>k (.agg l)
 |.iface t v=>gT t fun t=>sL v fun v=>k (.iface t v)
 |.func a b c=>sM b fun b=>sM c fun c=>k (.func a b c)
 |.tuple l=>sM l fun l=>k (.tuple l)
 |v=>sL v k
theorem KZ(v:o)(k:o→β):wJ v k=k v:=by unfold wJ;split<;>simp [KX,KY,mV]
def ur:List o→(List o→β)→β
 |[],k=>k []
 |a::r,k=>wJ a fun a=>ur r fun r=>k (a::r)
theorem Eu:∀(l:List o)(k:List o→β),ur l k=k l
 |[],k=>rfl
 |a::r,k=>by simp only [ur,KZ,Eu r]
def wK(v:o)(k:o→β):β :=
 match v with
 |.tuple l=>ur l fun l=>k (.tuple l)
 |.iface t v=>gT t fun t=>wJ v fun v=>k (.iface t v)
 |v=>wJ v k
theorem Ev(v:o)(k:o→β):wK v k=k v:=by unfold wK;split<;>simp [KZ,Eu,mV]
def Ew(b:R)(k:R→β):β :=
 match b with
 |⟨l,es,ex,ro,v,m,f,none⟩=>ur l fun l=>gT es fun es=>uq ex fun ex=>uq ro fun ro=>gT v fun v=>gT m fun m=>gT f fun f=>k ⟨l,es,ex,ro,v,m,f,none⟩
 |⟨l,es,ex,ro,v,m,f,some (t,n)⟩=>ur l fun l=>gT es fun es=>uq ex fun ex=>uq ro fun ro=>gT v fun v=>gT m fun m=>gT f fun f=>k ⟨l,es,ex,ro,v,m,f,some (t,n)⟩
theorem TV(b:R)(k:R→β):Ew b k=k b:=by obtain⟨l,es,ex,ro,v,m,f,aq⟩:=b;cases aq<;>simp [Ew,Eu,mV,KU]
def gf(n:Nat)(t:aU o):List o:=(List.range n).map fun i=>(t.get i).getD gp
theorem zX(n:Nat)(t:aU o)(i:Nat):(gf n t)[i]? =if i<n then some ((t.get i).getD gp)else none:=by
 simp only [gf,List.getElem?_map];by_cases h:i<n
 ·rw [List.getElem?_range h,if_pos h];rfl
 ·rw [List.getElem?_eq_none (by simpa using h),if_neg h];rfl
def zY(n:Nat)(t:aU o)(i:Nat):Option o:=cond (Nat.blt i n) (some (Option.rec (motive:=fun _=>o) gp (fun v=>v) (t.get i))) none
theorem K0(n:Nat)(t:aU o)(i:Nat):zY n t i=(gf n t)[i]? :=by
 rw [zX];unfold zY;by_cases h:i<n
 ·rw [show Nat.blt i n=true by simpa [Nat.blt_eq]using h,if_pos h];cases t.get i<;>rfl
 ·rw [show Nat.blt i n=false by cases au:Nat.blt i n with|false=>rfl|true=>exact absurd (Nat.blt_eq.mp au) h,if_neg h];rfl
def mc(n:Nat)(t:aU o)(ab:Operand):o :=
 match ab with
 |.tmp i=>cond (Nat.blt i n) (Option.rec (motive:=fun _=>o) gp (fun v=>v) (t.get i)) .undef
 |.const v=>qG v
 |.global _=> .undef
 |.func f=> .func (.func f) [] []
theorem wL(n:Nat)(t:aU o):mc n t=di (gf n t):=by
 funext ab
 cases ab with
 |tmp i =>
  have:=K0 n t i;simp only [di,List.getD_eq_getElem?_getD,←this];unfold zY;show cond (Nat.blt i n) (Option.rec (motive:=fun _=>o) gp (fun v=>v) (t.get i)) .undef=_;cases Nat.blt i n<;>rfl
 |const v=>rfl
 |global g=>rfl
 |func f=>rfl
theorem TW(n:Nat)(t:aU o)(d:Nat)(v:o):gf n (t.set d v)=(gf n t).set d v:=by
 apply List.ext_getElem?;intro i;rw [zX,List.getElem?_set,zX];by_cases h:i<n
 ·simp only [h,if_true,aU.kP];by_cases aC:d=i
  ·subst aC;simp [gf,h]
  ·simp [aC]
 ·simp only [h,if_false];by_cases aC:d=i
  ·subst aC;simp [gf,h]
  ·simp [aC]
section
variable {α:Type}
def zZ(f:Nat):Nat→α→(aU α→β)→β :=
 Nat.rec (motive:=fun _=>Nat→α→(aU α→β)→β) (fun _ v c=>c (.node (some v) .nil .nil))
  (fun _ ih k v c=>cond (Nat.beq k 0) (c (.node (some v) .nil .nil)) (cond (Nat.beq (Nat.mod k 2) 1) (ih (Nat.div k 2) v fun u=>c (.node none u .nil)) (ih (Nat.sub (Nat.div k 2) 1) v fun u=>c (.node none .nil u)))) f
theorem Ex:∀(f k:Nat)(v:α)(c:aU α→β),zZ f k v c=c (aU.h7 f k v)
 |0,k,v,c=>rfl
 |f +1,k,v,c=>by
  show cond (Nat.beq k 0) (c (.node (some v) .nil .nil)) (cond (Nat.beq (k%2) 1) (zZ f (k/2) v fun u=>c (.node none u .nil)) (zZ f (k/2-1) v fun u=>c (.node none .nil u))) =
   c (cond (Nat.beq k 0) (.node (some v) .nil .nil) (cond (Nat.beq (k%2) 1) (.node none (aU.h7 f (k/2) v) .nil) (.node none .nil (aU.h7 f (k/2-1) v))))
  rw [Ex f,Ex f];cases Nat.beq k 0<;>cases Nat.beq (k%2) 1<;>rfl
def wM(t:aU α):Nat→α→(aU α→β)→β :=
 aU.rec (motive:=fun _=>Nat→α→(aU α→β)→β) (fun k v c=>zZ k k v c)
  (fun ab l r pH CI k v c=>cond (Nat.beq k 0) (c (.node (some v) l r)) (cond (Nat.beq (Nat.mod k 2) 1) (pH (Nat.div k 2) v fun u=>c (.node ab u r)) (CI (Nat.sub (Nat.div k 2) 1) v fun u=>c (.node ab l u)))) t
theorem z1:∀(t:aU α)(k:Nat)(v:α)(c:aU α→β),wM t k v c=c (t.set k v)
 |.nil,k,v,c=>Ex k k v c
 |.node ab l r,k,v,c=>by
  show cond (Nat.beq k 0) (c (.node (some v) l r)) (cond (Nat.beq (k%2) 1) (wM l (k/2) v fun u=>c (.node ab u r)) (wM r (k/2-1) v fun u=>c (.node ab l u))) =
   c (cond (Nat.beq k 0) (.node (some v) l r) (cond (Nat.beq (k%2) 1) (.node ab (l.set (k/2) v) r) (.node ab l (r.set (k/2-1) v))))
  rw [z1 l,z1 r];cases Nat.beq k 0<;>cases Nat.beq (k%2) 1<;>rfl
def z6(f:α→(α→β)→β)(t:aU α):Nat→(aU α→β)→β :=
 aU.rec (motive:=fun _=>Nat→(aU α→β)→β) (fun _ c=>c .nil)
  (fun ab l r aG cU k c=>cond (Nat.beq k 0) (Option.rec (motive:=fun _=>β) (c (.node none l r)) (fun b=>f b fun b=>c (.node (some b) l r)) ab) (cond (Nat.beq (Nat.mod k 2) 1) (aG (Nat.div k 2) fun u=>c (.node ab u r)) (cU (Nat.sub (Nat.div k 2) 1) fun u=>c (.node ab l u)))) t
theorem Ey{f:α→(α→β)→β}(a8:∀a k,f a k=k a):∀(t:aU α)(k:Nat)(c:aU α→β),z6 f t k c=c t
 |.nil,k,c=>rfl
 |.node ab l r,k,c=>by show cond (Nat.beq k 0) (Option.rec (motive:=fun _=>β) (c (.node none l r)) (fun b=>f b fun b=>c (.node (some b) l r)) ab) (cond (Nat.beq (k%2) 1) (z6 f l (k/2) fun u=>c (.node ab u r)) (z6 f r (k/2-1) fun u=>c (.node ab l u)))=_;rw [Ey a8 l,Ey a8 r];cases ab<;>cases Nat.beq k 0<;>cases Nat.beq (k%2) 1<;>simp [a8]
end
def us(s:aU o)(d:Option Tmp)(v:o)(k:aU o→β):β:=Option.rec (motive:=fun _=>β) (k s) (fun d=>wM s d v k) d
theorem TX(n:Nat)(s:aU o)(d:Option Tmp)(v:o)(k:aU o→β):us s d v k=k (Option.rec (motive:=fun _=>aU o) s (fun d=>s.set d v) d):=by cases d<;>simp [us,z1]
theorem z7(n:Nat)(s:aU o)(d:Option Tmp)(v:o):gf n (Option.rec (motive:=fun _=>aU o) s (fun d=>s.set d v) d)=hS (gf n s) d v:=by cases d<;>simp [hS,TW]
def Ez(id:Nat)(h:j)(k:j→β):β :=
 match h with
 |⟨n,l⟩=>z6 Ew l id fun l=>k ⟨n,l⟩
theorem TY(id:Nat)(h:j)(k:j→β):Ez id h k=k h:=by cases h;simp [Ez,Ey TV]
def EA(h:j)(k:j→β):β :=
 match h with
 |⟨n,l⟩=>gT n fun n=>k ⟨n,l⟩
theorem TZ(h:j)(k:j→β):EA h k=k h:=by cases h;simp [EA,mV]
inductive EB where
 |no|at (id:Nat)|all
def z8(t:EB)(h:j)(k:j→β):β :=
 match t with
 |.no=>k h
 |.at id=>Ez id h k
 |.all=>EA h k
theorem T0(t:EB)(h:j)(k:j→β):z8 t h k=k h:=by cases t<;>simp [z8,TY,TZ]
def K1(v:o)(k:o→β):β :=
 match v with
 |.undef=>k .undef
 |.bool b=>k (.bool b)
 |.int d n=>k (.int d n)
 |.str s=>k (.str s)
 |.ptr a=>k (.ptr a)
 |.slice a n c=>k (.slice a n c)
 |.nilFunc=>k .nilFunc
 |.nilIface=>k .nilIface
 |.func a b c=>k (.func a b c)
 |.iface t v=>k (.iface t v)
 |.agg l=>k (.agg l)
 |.tuple l=>k (.tuple l)
theorem T1(v:o)(k:o→β):K1 v k=k v:=by cases v<;>rfl
def shallow(ab:Op):Bool :=
 match ab with
 |.move (.tmp _)|.assign (.tmp _)|.pick _ (.tmp _) (.tmp _)|.extract _ _|.load _ _=>true
 |.call c=>match c.callee with|.value _=>true|_=>false
 |_=>false
def z'(ab:Op)(v:o)(k:o→β):β:=cond (shallow ab) (K1 v k) (wK v k)
theorem T2(ab:Op)(v:o)(k:o→β):z' ab v k=k v:=by unfold z';cases shallow ab<;>simp [T1,Ev]
end
def K2(bh:Nat)(bf:Operand→o)(ab:Op)(v:o):EB :=
 match ab with
 |.alloc _|.box _ _|.buildSlice _ _ _|.makeSlice _ _ _=> .at bh
 |.store _ a _=>match bf a with|.ptr (some a)=> .at a.id|_=> .no
 |.call c =>
  match c.callee with
  |.value _=> .all
  |.builtin .append=>match v with|.slice (some a) _ _=> .at a.id|_=> .no
  |_=> .no
 |.convert _ _ _=>match v with|.slice (some a) _ _=> .at a.id|_=> .no
 |_=> .no
section
variable {E:b5}
def wN(ops:Array Oper)(n:Nat)(s:aU o)(ab:Oper):Option Bool :=
 match ab.guard with
 |none=>some true
 |some (C,want) =>
  match (ops[C]?).bind (·.dst)with
  |some d =>
   match zY n s d with
   |some (.bool b)=>some (b == want)
   |some (.tuple [])=>some false
   |_=>none
  |none=>none
theorem K3(ops:Array Oper)(n:Nat)(s:aU o)(ab:Oper):wN ops n s ab=jl ops (gf n s) ab:=by unfold wN jl;simp only [K0];rfl
structure iv where
 fa:aU o
 heap:j
def iv.lz(n:Nat)(s:iv):fz:=⟨gf n s.fa,s.heap⟩
def q'(E:b5)(call:dX)(ops:Array Oper)(draw:Bool)(n aj:Nat)(l:List Oper):Nat→aU o→j→Option iv :=
 List.rec (motive:=fun _=>Nat→aU o→j→Option iv) (fun _ s h=>some ⟨s,h⟩)
  (fun ab _ ih i s h =>
   match wN ops n s ab with
   |some true =>
    match (cond draw (fD E call ops aj i (mc n s) h ab.op) (jk E call (Nat.add aj i) (mc n s) h ab.op))with
    |some (v,aa)=>z' ab.op v fun v=>z8 (K2 (Nat.add aj i) (mc n s) ab.op v) aa fun aa=>us s ab.dst v fun bL=>ih (Nat.succ i) bL aa
    |none=>none
   |some false=>us s ab.dst gp fun bL=>ih (Nat.succ i) bL h
   |none=>none) l
theorem K4(call:dX)(ops:Array Oper)(draw:Bool)(n aj i:Nat)(s:aU o)(h:j)(ab:Oper)(r:List Oper):q' E call ops draw n aj (ab::r) i s h =
 match wN ops n s ab with
 |some true =>
  match (cond draw (fD E call ops aj i (mc n s) h ab.op) (jk E call (aj+i) (mc n s) h ab.op))with
  |some (v,aa)=>q' E call ops draw n aj r (i+1) (Option.rec (motive:=fun _=>aU o) s (fun d=>s.set d v) ab.dst) aa
  |none=>none
 |some false=>q' E call ops draw n aj r (i+1) (Option.rec (motive:=fun _=>aU o) s (fun d=>s.set d gp) ab.dst) h
 |none=>none:=by
 show (match wN ops n s ab with
  |some true =>
   match (cond draw (fD E call ops aj i (mc n s) h ab.op) (jk E call (aj+i) (mc n s) h ab.op))with
   |some (v,aa)=>z' ab.op v fun v=>z8 (K2 (aj+i) (mc n s) ab.op v) aa fun aa=>us s ab.dst v fun bL=>q' E call ops draw n aj r (i+1) bL aa
   |none=>none
  |some false=>us s ab.dst gp fun bL=>q' E call ops draw n aj r (i+1) bL h
  |none=>none)=_
 simp only [T2,T0,TX n]
theorem EC{call:dX}{ops:Array Oper}{n aj:Nat} :∀(l:List Oper)(i:Nat)(s:aU o)(h:j),(∀C,l[C]? =ops[i+C]?) →
 (q' E call ops false n aj l i s h).map (iv.lz n)=oH E call ops aj (List.range' i l.length) ⟨gf n s,h⟩
 |[],i,s,h,_=>rfl
 |ab ::r,i,s,h,az=>by
  have ai:ops[i]? =some ab:=by have:=az 0;simpa using this.symm
  have bb:∀C,r[C]? =ops[i+1+C]? :=fun C=>by have:=az (C+1);simp at this;rw [this];congr 1;omega
  rw [K4];simp only [List.length_cons,List.range'_succ,oH,qL,ai,K3,wL,cond_false];cases hw:jl ops (gf n s) ab with
  |none=>rfl
  |some b =>
   cases b with
   |true =>
    simp only;cases aT:jk E call (aj+i) (di (gf n s)) h ab.op with
    |none=>rfl
    |some I =>
     obtain⟨v,aa⟩:=I;simp only;rw [EC r (i+1) _ _ bb,z7]
   |false =>
    simp only;rw [EC r (i+1) _ _ bb,z7]
theorem ED{call:dX}{ops:Array Oper}{n aj:Nat} :∀(l:List Oper)(i:Nat)(s:aU o)(h:j),(∀C,l[C]? =ops[i+C]?) →
 (q' E call ops true n aj l i s h).map (iv.lz n)=km E call ops aj (List.range' i l.length) ⟨gf n s,h⟩
 |[],i,s,h,_=>rfl
 |ab ::r,i,s,h,az=>by
  have ai:ops[i]? =some ab:=by have:=az 0;simpa using this.symm
  have bb:∀C,r[C]? =ops[i+1+C]? :=fun C=>by have:=az (C+1);simp at this;rw [this];congr 1;omega
  rw [K4];simp only [List.length_cons,List.range'_succ,km,l0,ai,K3,wL,cond_true];cases hw:jl ops (gf n s) ab with
  |none=>rfl
  |some b =>
   cases b with
   |true =>
    simp only;cases aT:fD E call ops aj i (di (gf n s)) h ab.op with
    |none=>rfl
    |some I =>
     obtain⟨v,aa⟩:=I;simp only;rw [ED r (i+1) _ _ bb,z7]
   |false =>
    simp only;rw [ED r (i+1) _ _ bb,z7]
def wO(E:b5)(call:dX)(ops:Array Oper)(draw:Bool)(n:Nat)(s:iv):Option iv :=
 match s with
 |⟨s,⟨aj,l⟩⟩=>cond (!draw || oI ops) (gT (Nat.add aj ops.size) fun m=>q' E call ops draw n aj ops.toList 0 s ⟨m,l⟩) none
theorem T3(call:dX)(ops:Array Oper)(draw:Bool)(n:Nat)(s:iv):(wO E call ops draw n s).map (iv.lz n)=sd E call ops draw (s.lz n):=by
 obtain⟨s,aj,l⟩:=s;have az:∀C:Nat,ops.toList[C]? =ops[0+C]? :=fun C=>by simp
 have bb:List.range ops.size=List.range' 0 ops.toList.length:=by rw [List.range_eq_range',Array.length_toList]
 unfold wO sd;cases draw with
 |false=>simp only [Bool.not_false,Bool.true_or,cond_true,mV,Bool.false_eq_true,if_false,EC _ _ _ _ az,bb,iv.lz,Nat.add_eq]
 |true =>
  cases aC:oI ops with
  |false=>simp
  |true=>simp only [Bool.not_true,Bool.false_or,aC,cond_true,if_true,mV,ED _ _ _ _ az,bb,iv.lz,Nat.add_eq]
def jO(E:b5)(call:dX)(n:Nat)(de:Nat):Option Code→Code→iv→Option (dc×iv) :=
 Nat.rec (motive:=fun _=>Option Code→Code→iv→Option (dc×iv)) (fun _ _ _=>none)
 (fun m ih b c s =>
 match b with
 |some body =>
  match ih none c s with
  |some (.goto l,bL) =>
   match findLabel body l with
   |some rest=>ih (some body) rest bL
   |none=>some (.goto l,bL)
  |r=>r
 |none =>
  match c with
  |.skip=>some (.normal,s)
  |.label _=>some (.normal,s)
  |.region _ ops draw =>
   match wO E call ops draw n s with
   |some bL=>some (.normal,bL)
   |none=>none
  |.seq a b =>
   match ih none a s with
   |some (.normal,bL)=>ih none b bL
   |r=>r
  |.cond x a b =>
   match mc n s.fa x with
   |.bool true=>ih none a s
   |.bool false=>ih none b s
   |_=>none
  |.block id c =>
   match ih none c s with
   |some (.exit C,bL)=>some (if C=id then .normal else .exit C,bL)
   |r=>r
  |.loop c =>
   match ih none c s with
   |some (.normal,bL)=>ih none (.loop c) bL
   |r=>r
  |.scope c=>ih (some c) c s
  |.goto l=>some (.goto l,s)
  |.exit id=>some (.exit id,s)
  |.ret=>some (.ret,s)
  |_=>none) de
def pZ(n:Nat)(I:dc×iv):dc×fz:=(I.1,I.2.lz n)
theorem T4(call:dX)(k:Nat):∀(n:Nat)(b:Option Code)(c:Code)(s:iv),(jO E call k n b c s).map (pZ k)=fb E call n b c (s.lz k):=by
 intro n;induction n with
 |zero=>intro b c s;rfl
 |succ n ih =>
  intro b c s;cases b with
  |some body =>
   show Option.map (pZ k) (match jO E call k n none c s with
    |some (.goto l,bL) =>
     match findLabel body l with
     |some rest=>jO E call k n (some body) rest bL
     |none=>some (.goto l,bL)
    |r=>r)=_
   simp only [fb,←ih];cases ae:jO E call k n none c s with
   |none=>rfl
   |some I =>
    obtain⟨e,bL⟩:=I;cases e with
    |goto l =>
     simp only [Option.map_some,pZ];cases a8:findLabel body l with
     |none=>rfl
     |some rest=>simp only [a8];exact ih (some body) rest bL
    |_=>rfl
  |none =>
   cases c
   case region id ops draw =>
    show Option.map (pZ k) (match wO E call ops draw k s with
     |some bL=>some (.normal,bL)
     |none=>none)=_
    simp only [fb,←T3];cases wO E call ops draw k s<;>rfl
   case seq a b =>
    show Option.map (pZ k) (match jO E call k n none a s with
     |some (.normal,bL)=>jO E call k n none b bL
     |r=>r)=_
    simp only [fb,←ih];cases ae:jO E call k n none a s with
    |none=>rfl
    |some I=>obtain⟨e,bL⟩:=I;cases e<;>first|exact ih none b bL|rfl
   case cond x a b =>
    show Option.map (pZ k) (match mc k s.fa x with
     |.bool true=>jO E call k n none a s
     |.bool false=>jO E call k n none b s
     |_=>none)=_
    simp only [fb,←ih,wL];have he:di (s.lz k).fa x=di (gf k s.fa) x:=rfl;rw [he];cases di (gf k s.fa) x with
    |bool t=>cases t<;>rfl
    |_=>rfl
   case block id c =>
    show Option.map (pZ k) (match jO E call k n none c s with
     |some (.exit C,bL)=>some (if C=id then .normal else .exit C,bL)
     |r=>r)=_
    simp only [fb,←ih];cases ae:jO E call k n none c s with
    |none=>rfl
    |some I=>obtain⟨e,bL⟩:=I;cases e<;>rfl
   case loop c =>
    show Option.map (pZ k) (match jO E call k n none c s with
     |some (.normal,bL)=>jO E call k n none (.loop c) bL
     |r=>r)=_
    simp only [fb,←ih];cases ae:jO E call k n none c s with
    |none=>rfl
    |some I=>obtain⟨e,bL⟩:=I;cases e<;>first|exact ih none (.loop c) bL|rfl
   case scope c=>exact ih (some c) c s
   all_goals rfl
def wP:List o→Nat→aU o→(aU o→Option (o×j))→Option (o×j)
 |[],_,t,k=>k t
 |v::r,i,t,k=>wK v fun v=>wM t i v fun t=>wP r (Nat.succ i) t k
theorem K5:∀(l:List o)(i:Nat)(t:aU o) (k:aU o→Option (o×j)),
 ∃fj,wP l i t k=k fj∧∀C,fj.get C=if C<i then t.get C else if h:C-i<l.length then some l[C-i]else t.get C
 |[],i,t,k=>⟨t,rfl,fun C=>by simp⟩
 |v ::r,i,t,k=>by
  obtain⟨fj,p,ad⟩:=K5 r (i+1) (t.set i v) k;refine⟨fj,by simp only [wP,Ev,z1];exact p,fun C=> ?_⟩;rw [ad C,aU.kP];by_cases aV:C<i
  ·rw [if_pos (by omega),if_neg (by omega),if_pos aV]
  ·rw [if_neg aV];by_cases he:i=C
   ·subst he;rw [if_pos (by omega),if_pos rfl];simp
   ·rw [if_neg (by omega),if_neg he];by_cases az:C- (i+1)<r.length
    ·rw [dif_pos az,dif_pos (by simp;omega)];obtain⟨m,hm⟩:∃m,C-i=m+1:=⟨C-i-1,by omega⟩
     have l5:C- (i+1)=m:=by omega
     simp only [hm,l5,List.getElem_cons_succ]
    ·rw [dif_neg az,dif_neg (by simp;omega)]
theorem T5{l:List o}{m:Nat}{t:aU o}(h:∀C,t.get C=if C<0 then(aU.nil:aU o).get C else if h:C-0<l.length then some l[C-0]else(aU.nil:aU o).get C) :
 gf (l.length+(m-l.length)) t=l++List.replicate (m-l.length) gp:=by
 apply List.ext_getElem?;intro i;rw [zX,h i,if_neg (Nat.not_lt_zero i)];simp only [Nat.sub_zero,aU.oB];by_cases ak:i<l.length
 ·rw [if_pos (by omega),dif_pos ak,List.getElem?_append_left ak,List.getElem?_eq_getElem ak];rfl
 ·rw [dif_neg ak,List.getElem?_append_right (by omega),List.getElem?_replicate];by_cases aS:i<l.length+(m-l.length)
  ·rw [if_pos aS,if_pos (by omega)];rfl
  ·rw [if_neg aS,if_neg (by omega)]
def ra(D:dL)(n:Nat)(dR:List ResultVar)(s:iv):Option (List o) :=
 match dR with
 |[]=>some []
 |.tmp t::r=>(ra D n r s).map fun l=>mc n s.fa (.tmp t)::l
 |.cell a t::r =>
  match mc n s.fa (.tmp a)with
  |.ptr (some I) =>
   match cj D t I s.heap,ra D n r s with
   |some v,some l=>some (v::l)
   |_,_=>none
  |_=>none
theorem Aa(D:dL)(n:Nat)(s:iv):∀(dR:List ResultVar),ra D n dR s=jm D dR (s.lz n)
 |[]=>rfl
 |.tmp t::r=>by simp only [ra,jm,Aa D n s r,wL];rfl
 |.cell a t::r=>by simp only [ra,jm,Aa D n s r,wL];rfl
def Ab(r:Option (o×j)):Option (o×j) :=
 match r with
 |some (v,⟨n,l⟩)=>gT n fun n=>wK v fun v=>some (v,⟨n,l⟩)
 |none=>none
theorem T6(r:Option (o×j)):Ab r=r:=by
 cases r with
 |none=>rfl
 |some I=>obtain⟨v,n,l⟩:=I;simp [Ab,mV,Ev]
def o1(P:Program)(E:b5)(de:Nat):dX :=
 Nat.rec (motive:=fun _=>dX) (fun _ _ _=>none)
 (fun n ih f args h =>
  match E.tL f with
  |some g=>g args h
  |none =>
  match P.funcs[f]? with
  |some fn =>
   match fn.body with
   |some c =>
    gT (args.length+(fn.ntmps-args.length)) fun k=>wP args 0 .nil fun pH =>
    match jO E ih k n none c ⟨pH,h⟩with
    |some (.exit _,_)=>none
    |some (.goto _,_)=>none
    |some (_,s) =>
     match ra E.D k fn.results.toList s with
     |some l=>Ab (some (mF l,s.heap))
     |none=>none
    |none=>none
   |none=>none
  |none=>none) de
theorem wQ(P:Program)(E:b5):∀(n:Nat),o1 P E n=mG P E n:=by
 intro n;induction n with
 |zero=>rfl
 |succ n ih =>
  funext f args h
  show(match E.tL f with
  |some g=>g args h
  |none =>
  match P.funcs[f]? with
  |some fn =>
   match fn.body with
   |some c =>
    gT (args.length+(fn.ntmps-args.length)) fun k=>wP args 0 .nil fun pH =>
    match jO E (o1 P E n) k n none c ⟨pH,h⟩with
    |some (.exit _,_)=>none
    |some (.goto _,_)=>none
    |some (_,s) =>
     match ra E.D k fn.results.toList s with
     |some l=>Ab (some (mF l,s.heap))
     |none=>none
    |none=>none
   |none=>none
  |none=>none)=_
  simp only [mG,ih,mV,T6];cases E.tL f with
  |some g=>rfl
  |none =>
  simp only;cases a8:P.funcs[f]? with
  |none=>rfl
  |some fn =>
   simp only;cases fn.body with
   |none=>rfl
   |some c =>
    simp only
    obtain⟨t,p,ad⟩:=K5 args 0 .nil fun pH =>
     match jO E (mG P E n) (args.length+(fn.ntmps-args.length)) n none c ⟨pH,h⟩with
     |some (.exit _,_)=>none
     |some (.goto _,_)=>none
     |some (_,s) =>
      match ra E.D (args.length+(fn.ntmps-args.length)) fn.results.toList s with
      |some l=>some (mF l,s.heap)
      |none=>none
     |none=>none
    rw [p]
    have an:(iv.mk t h).lz (args.length+(fn.ntmps-args.length))=⟨args++List.replicate (fn.ntmps-args.length) gp,h⟩:=by simp only [iv.lz,T5 ad]
    have ae:=T4 (E:=E) (mG P E n) (args.length+(fn.ntmps-args.length)) n none c ⟨t,h⟩;rw [an]at ae;rw [←ae];cases bY:jO E (mG P E n) (args.length+(fn.ntmps-args.length)) n none c ⟨t,h⟩with
    |none=>rfl
    |some I =>
     obtain⟨e,s⟩:=I;simp only [Option.map_some,pZ];cases e with
     |exit id=>rfl
     |goto l=>rfl
     |normal=>simp only [Aa];cases jm E.D fn.results.toList (s.lz (args.length+(fn.ntmps-args.length)))<;>rfl
     |ret=>simp only [Aa];cases jm E.D fn.results.toList (s.lz (args.length+(fn.ntmps-args.length)))<;>rfl
end
end
end Go.cM
namespace Go.cM
noncomputable section
abbrev bP:=List (Nat×o)
def hh:bP→Nat→Option o
 |[],_=>none
 |(k,v)::r,t=>cond (Nat.beq k t) (some v) (hh r t)
def wR(t:Nat):bP→bP
 |[]=> []
 |(k,v)::r=>cond (Nat.beq k t) (wR t r) ((k,v)::wR t r)
def Ac(F:bP)(d:Option Tmp)(v:o):bP :=
 match d with
 |some d=>(d,v)::wR d F
 |none=>F
def p0(F:bP):List Nat→bP
 |[]=> []
 |t::r=>match hh F t with|some v=>(t,v)::p0 F r|none=>p0 F r
def Has(F:bP)(s:List o):Prop:= ∀t v,hh F t=some v→s[t]? =some v
theorem nS(a b:Nat):(a=b∧Nat.beq a b=true)∨(a≠b∧Nat.beq a b=false):=by
 by_cases h:a=b
 ·exact .inl ⟨h,beq_true h⟩
 ·exact .inr ⟨h,beq_false h⟩
theorem kY(k:Nat)(v:o)(r:bP)(t:Nat):hh ((k,v)::r) t=if k=t then some v else hh r t:=by simp only [hh];rcases nS k t with ⟨h,e⟩|⟨h,e⟩<;>simp [h,e]
theorem EE(d t:Nat)(h:d≠t):∀(F:bP),hh (wR d F) t=hh F t
 |[]=>rfl
 |(k,v)::r=>by
  simp only [wR];rcases nS k d with ⟨ap,e⟩|⟨ap,e⟩
  ·rw [e,cond_true,kY,if_neg (by omega),EE d t h r]
  ·rw [e,cond_false,kY,kY,EE d t h r]
theorem Has.set{F:bP}{s:List o}(an:Has F s){d:Option Tmp}(aC:∀t,d=some t→t<s.length)(v:o):Has (Ac F d v) (hS s d v):=by
 cases d with
 |none=>exact an
 |some d =>
  intro t u hu;have hN:=aC d rfl;simp only [Ac,kY]at hu;simp only [hS,List.getElem?_set];by_cases h:d=t
  ·subst h;rw [if_pos rfl]at hu;rw [if_pos rfl,if_pos hN];exact hu
  ·rw [if_neg h,EE d t h]at hu;rw [if_neg h];exact an t u hu
theorem wS{F:bP}{t:Nat}{v:o} :∀{l:List Nat},hh (p0 F l) t=some v→hh F t=some v
 |[],h=>by cases h
 |k ::r,h=>by
  simp only [p0]at h;split at h
  ·rename_i u hu;rw [kY]at h;split at h
   ·rename_i e;subst e;rw [hu];exact h
   ·exact wS h
  ·exact wS h
theorem Has.only{F:bP}{s:List o}(an:Has F s)(l:List Nat):Has (p0 F l) s:=fun t v h=>an t v (wS h)
def bU(F:bP):Operand→o
 |.tmp t=>match hh F t with|some v=>v|none=> .undef
 |.const v=>qG v
 |.global _=> .undef
 |.func f=> .func (.func f) [] []
def uu(F:bP):Operand→Bool
 |.tmp t=>match hh F t with|some _=>true|none=>false
 |_=>true
theorem Has.get{F:bP}{s:List o}(an:Has F s){ab:Operand}(ap:uu F ab=true):bU F ab=di s ab:=by
 cases ab with
 |tmp t =>
  simp only [uu]at ap;split at ap
  ·rename_i v bg;simp only [bU,di,bg,List.getD_eq_getElem?_getD,an t v bg,Option.getD_some]
  ·cases ap
 |const v=>rfl
 |global g=>rfl
 |func f=>rfl
def EF(ops:Array Oper)(F:bP)(ab:Oper):Option Bool :=
 match ab.guard with
 |none=>some true
 |some (C,want) =>
  match (ops[C]?).bind (·.dst)with
  |some d =>
   match hh F d with
   |some (.bool b)=>some (b == want)
   |some (.tuple [])=>some false
   |_=>none
  |none=>none
theorem K6{ops:Array Oper}{F:bP}{s:List o}(an:Has F s){ab:Oper}{b:Bool}(h:EF ops F ab=some b):jl ops s ab=some b:=by
 unfold EF at h;unfold jl;split at h
 ·rename_i ag;simp only [ag];exact h
 ·rename_i C want ag;simp only [ag];split at h
  ·rename_i d aC;simp only [aC];split at h
   ·rename_i iS au;simp only [an _ _ au];exact h
   ·rename_i au;simp only [an _ _ au];exact h
   ·cases h
  ·cases h
inductive Hint where
 |val (i:Nat) (v:o)
 |act (i:Nat) (v:o) (g:j→j)
 |EG (i:Nat) (v:o) (g:j→j)
 |rb (i:Nat) (v:o)
 |go (i:Nat)
 |kx (i:Nat) (e:o)
 |j8 (i:Nat) (e:o)
 |guard (i:Nat) (b:Bool)
 |test (t:Nat) (b:Bool)
 |cs (l:List Nat)
 |loop (F:bP) (h:j) (e:dc)
 |cut (F:bP) (h:j) (e:dc)
 |cell (v:o)
 |kZ (i:Nat) (v:o) (g:j→j)
 |run (i m:Nat)
 |K7 (i m:Nat)
 |rounds (n:Nat)
 |enter (i:Nat)
def e7:dX:=fun _ _ _=>none
structure c7(P:Program)(cf:(Nat→Prop)→World→Prop)(f:FuncId)(args:List o)(h:j)(v:o)(aa:j):Prop where
 T7:aI P cf f args h v aa
structure hX where
 f:FuncId
 args:List o
 h:j
 v:o
 aa:j
def hX.holds(call:dX)(k:hX):Prop:=call k.f k.args k.h=some (k.v,k.aa)
abbrev K8(n:Int):Prop:= -9223372036854775808≤n∧n≤9223372036854775807
def ik(k:IntKind)(n:Int):Prop :=
 match k with
 |.i64=>K8 n
 |.i8=> -128≤n∧n≤127
 |.i32=> -2147483648≤n∧n≤2147483647
 |.u8=>0≤n∧n≤255
 |k=>k.min≤n∧n≤k.max
theorem p1{k:IntKind}{n:Int}(h:ik k n):k.wrap n=n:=by cases k<;>simp only [ik,K8,IntKind.min,IntKind.max,IntKind.signed,IntKind.bits,IntKind.wrap]at h⊢ <;>simp at h⊢ <;>omega
def bx(k:IntKind)(x y:Int):Int:=k.wrap (BitVec.ofInt k.bits x &&& BitVec.ofInt k.bits y).toNat
def cg(k:IntKind)(x y:Int):Int:=k.wrap (BitVec.ofInt k.bits x ||| BitVec.ofInt k.bits y).toNat
def Ad(k:IntKind)(x y:Int):Int:=k.wrap (BitVec.ofInt k.bits x ^^^ BitVec.ofInt k.bits y).toNat
def dP(k:IntKind)(x y:Int):Int:=k.wrap (BitVec.ofInt k.bits x &&& ~~~(BitVec.ofInt k.bits y)).toNat
def e8(k:IntKind)(x y:Int):Int:=k.wrap (x*2^(min y.toNat k.bits))
def bD(k:IntKind)(x y:Int):Int:=x.fdiv (2^(min y.toNat k.bits))
section
variable(P:Program)(E:b5)
def EH(bh : Nat)(bf:Operand→o)(h:j)(ab:Op):Option (o×j×Prop) :=
 match ab with
 |.binOp op t x y _ =>
  match bf x,bf y with
  |.int k a,.int fy b =>
   match op with
   |.shl=>some (.int k (e8 k a b),h,0≤b)
   |.shr=>some (.int k (bD k a b),h,0≤b)
   |_ =>
   match decEq k fy with
   |isTrue _ =>
    match op with
    |.and=>some (.int k (bx k a b),h,True)
    |.or=>some (.int k (cg k a b),h,True)
    |.xor=>some (.int k (Ad k a b),h,True)
    |.andNot=>some (.int k (dP k a b),h,True)
    |.add=>some (.int k (a+b),h,ik k (a+b))
    |.sub=>some (.int k (a-b),h,ik k (a-b))
    |.mul=>some (.int k (a*b),h,ik k (a*b))
    |.quo=>some (.int k (a.tdiv b),h,b≠0∧ik k (a.tdiv b))
    |.rem=>some (.int k (a.tmod b),h,b≠0)
    |_=>none
   |isFalse _=>none
  |.str a,.str b =>
   match op with
   |.add=>some (.str (a++b),h,a.length+b.length<2^62)
   |_=>none
  |_,_=>none
 |.unOp op t x =>
  match op,bf x with
  |.xor,.int k n=>some (.int k (Ad k (if k.signed then-1 else k.max) n),h,True)
  |.neg,.int k n=>some (.int k (0-n),h,ik k (0-n))
  |_,_=>none
 |.index t x i =>
  match E.D t,bf x,bf i with
  |some d,.str s,.int _ i =>
   match d.kind with
   |.string=>some (.int .u8 (s.getD i.toNat 0).toNat,h,0≤i∧i<s.length)
   |_=>none
  |_,_,_=>none
 |.slice t x a1 ak fR =>
  match fR with
  |some _=>none
  |none =>
   match E.D t,bf x with
   |some d,.str s =>
    match d.kind with
    |.string =>
     match a1.map bf,ak.map bf with
     |none,none=>some (.str s,h,True)
     |some (.int _ l),none=>some (.str (s.drop l.toNat),h,0≤l∧l≤s.length)
     |none,some (.int _ u)=>some (.str (s.take u.toNat),h,0≤u∧u≤s.length)
     |some (.int _ l),some (.int _ u)=>some (.str ((s.take u.toNat).drop l.toNat),h,0≤l∧l≤u∧u≤s.length)
     |_,_=>none
    |_=>none
   |some d,.slice (some a) len cap =>
    match d.kind with
    |.slice e =>
     match E.D e with
     |some cT =>
      cond (Nat.beq a.bR 0&&Nat.beq a.es cT.size)
      (match a1.map bf,ak.map bf with
      |none,none=>some (.slice (some a) len cap,h,len≤cap)
      |some (.int _ l),none=>some (.slice (some {a with idx:=a.idx+l.toNat}) (len-l.toNat) (cap-l.toNat),h,0≤l∧l≤len∧len≤cap)
      |none,some (.int _ u)=>some (.slice (some a) u.toNat cap,h,0≤u∧u≤cap)
      |some (.int _ l),some (.int _ u)=>some (.slice (some {a with idx:=a.idx+l.toNat}) (u.toNat-l.toNat) (cap-l.toNat),h,0≤l∧l≤u∧u≤cap)
      |_,_=>none) none
     |none=>none
    |_=>none
   |_,_=>none
 |.indexAddr t x i =>
  match E.D t,bf x,bf i with
  |some d,.slice (some a) len _,.int _ i =>
   match d.kind with
   |.slice e =>
    match E.D e with
    |some cT=>cond (Nat.beq a.bR 0&&Nat.beq a.es cT.size) (some (.ptr (some {a with idx:=a.idx+i.toNat}),h,0≤i∧i<len)) none
    |none=>none
   |_=>none
  |_,_,_=>none
 |.convert s d x =>
  match E.D s,E.D d,bf x with
  |some _,some fM,.int _ n=>match fM.kind with|.int k=>some (.int k n,h,ik k n)|_=>none
  |_,_,_=>none
 |.call c =>
  match c.callee with
  |.builtin .append =>
   match c.args.toList.map bf,c.argTypes[0]?,c.argTypes[1]? with
   |[.slice (some a) len cap,x],some t,some u =>
    match E.D u,E.D t,h.get a.id with
    |some lg,some d,some b =>
     match d.kind with
     |.slice e =>
      match E.D e with
      |some cT =>
       match e2 cT.size x h with
       |some (a6::bM) =>
        cond ((match lg.kind with|.slice _=>true|.string=>true|_=>false)&&Nat.blt 0 cT.size&&cT.r' && Nat.beq a.bR 0&&Nat.beq a.es cT.size&&!b.exact&&!b.ro&&(match b.aq with|none=>true|some q=>Nat.beq q.1 e&&Nat.beq q.2 0))
         (some (.slice (some {a with J:=a.J+1}) (len+(a6::bM).length) (len+(a6::bM).length),h.set a.id (b.grow (a6::bM)),
          a.J=b.J∧a.idx+len=b.bi.length∧cap<len+(a6::bM).length∧(len+(a6::bM).length+(len+(a6::bM).length)/4+512)*cT.bytes≤2^48∧len+(a6::bM).length<2^62)) none
       |_=>none
      |none=>none
     |_=>none
    |_,_,_=>none
   |_,_,_=>none
  |_=>none
 |.makeSlice t l c =>
  match E.D t,bf l,bf c with
  |some d, .int _ l,.int _ c =>
   match d.kind with
   |.slice e =>
    match E.D e with
    |some x =>
     match x.zero with
     |some z =>
      cond (Nat.blt 0 x.size&&z.fits x.kind.isAgg x.size)
       (some (j5 bh x.size l.toNat c.toNat,h.set bh (.made (List.replicate c.toNat z) x.size true),0≤l∧l≤c∧c<2^62∧x.bytes*c≤2^48)) none
     |none=>none
    |none=>none
   |_=>none
  |_,_,_=>none
 |_=>none
theorem T8{bh:Nat}{bf:Operand→o}{h aa:j}{ab:Op}{v:o}{I:Prop}(k:EH E bh bf h ab=some (v,aa,I))(ac:I)(call:dX):b0 E call bh bf h ab=some (v,aa):=by
 cases ab<;>simp only [EH]at k<;>try (cases k;done)
 case binOp op t x y aq =>
  split at k
  ·rename_i aM a aR b ae bY;split at k
   ·simp only [Option.some.injEq,Prod.mk.injEq]at k;obtain⟨rfl,rfl,rfl⟩:=k;simp only [b0,ae,bY,ld,vK];rw [if_neg (by omega)];rfl
   ·simp only [Option.some.injEq,Prod.mk.injEq]at k;obtain⟨rfl,rfl,rfl⟩:=k;simp only [b0,ae,bY,ld,vK];rw [if_neg (by omega)];rfl
   split at k
   ·rename_i ap _;subst ap;simp only [b0,ae,bY,ld];split at k<;>first|(cases k;done)|(simp only [Option.some.injEq,Prod.mk.injEq]at k)
    all_goals (obtain⟨rfl,rfl,rfl⟩:=k)
    ·simp [kj,bx]
    ·simp [kj,cg]
    ·simp [kj,Ad]
    ·simp [kj,dP]
    ·simp [kj,p1 ac]
    ·simp [kj,p1 ac]
    ·simp [kj,p1 ac]
    ·simp [kj,p1 ac.2,ac.1]
    ·simp [kj,ac]
   ·cases k
  ·rename_i a b ae bY;split at k
   ·simp only [Option.some.injEq,Prod.mk.injEq]at k;obtain⟨rfl,rfl,rfl⟩:=k;simp only [b0,ae,bY,ld,vL];rw [if_pos ac];rfl
   ·cases k
  ·cases k
 case unOp op t x =>
  split at k
  ·rename_i l2 n ae;simp only [Option.some.injEq,Prod.mk.injEq]at k;obtain⟨rfl,rfl,rfl⟩:=k;simp [b0,ae,vM,kj,Ad]
  ·rename_i l2 n ae;simp only [Option.some.injEq,Prod.mk.injEq]at k;obtain⟨rfl,rfl,rfl⟩:=k;simp only [b0,ae,vM,p1 ac];rfl
  ·cases k
 case index t x i =>
  split at k
  ·rename_i d s l2 i aC ae ak;split at k
   ·rename_i ap;simp only [Option.some.injEq,Prod.mk.injEq]at k;obtain⟨rfl,rfl,rfl⟩:=k;simp only [b0,ae,ak,oD,aC,ap];rw [if_pos ac.1];have cQ:i.toNat<s.length:=by have:=ac.2;omega
    simp [List.getD_eq_getElem?_getD,List.getElem?_eq_getElem cQ]
   ·cases k
  ·cases k
 case slice t x a1 ak fR =>
  split at k
  ·cases k
  ·split at k
   ·rename_i d s aC ae;split at k
    ·rename_i ap;split at k<;>first|(cases k;done)|(simp only [Option.some.injEq,Prod.mk.injEq]at k)
     all_goals (obtain⟨rfl,rfl,rfl⟩:=k)
     ·rename_i p ad;simp [b0,ae,p,ad,kk,aC,ap,hd]
     ·rename_i aM l p ad;simp only [b0,ae,p,ad,kk,aC,ap,hd,Option.map_none,Option.isSome_none,Bool.false_eq_true,if_false];rw [if_pos ⟨ac.1,ac.2⟩];simp
     ·rename_i aM u p ad;simp only [b0,ae,p,ad,kk,aC,ap,hd,Option.map_none,Option.isSome_none,Bool.false_eq_true,if_false];rw [if_pos ⟨ac.1,ac.2⟩];simp
     ·rename_i aM l aR u p ad;simp only [b0,ae,p,ad,kk,aC,ap,hd,Option.map_none,Option.isSome_none,Bool.false_eq_true,if_false];rw [if_pos ⟨by omega,ac.2.2⟩];simp only;rw [if_pos ⟨ac.1,by omega⟩];simp
    ·cases k
   ·rename_i d a len cap aC ae;split at k
    ·rename_i e ap;split at k
     ·rename_i cT fU;cases aD:(Nat.beq a.bR 0&&Nat.beq a.es cT.size)with
      |false=>rw [aD]at k;cases k
      |true =>
       rw [aD,cond_true]at k;simp only [Bool.and_eq_true]at aD;have dH:=Nat.eq_of_beq_eq_true aD.1;have dy:=Nat.eq_of_beq_eq_true aD.2;split at k<;>first|(cases k;done)|(simp only [Option.some.injEq,Prod.mk.injEq]at k)
       all_goals (obtain⟨rfl,rfl,rfl⟩:=k)
       ·rename_i p ad;have:len≤cap:=ac;cases a;simp only at dH dy;simp [b0,ae,p,ad,kk,aC,ap,hd,fU,dH,dy]
       ·rename_i aM l p ad;simp only [b0,ae,p,ad,kk,aC,ap,hd,fU,Option.map_none,Option.isSome_none,Bool.false_eq_true,if_false];rw [if_pos ⟨ac.1,ac.2.1⟩];simp [dH,dy]
       ·rename_i aM u p ad;simp only [b0,ae,p,ad,kk,aC,ap,hd,fU,Option.map_none,Option.isSome_none,Bool.false_eq_true,if_false];rw [if_pos ⟨ac.1,ac.2⟩];cases a;simp only at dH dy;simp [dH,dy]
       ·rename_i aM l aR u p ad;simp only [b0,ae,p,ad,kk,aC,ap,hd,fU,Option.map_none,Option.isSome_none,Bool.false_eq_true,if_false];rw [if_pos ⟨by omega,ac.2.2⟩];simp only;rw [if_pos ⟨ac.1,by omega⟩];simp [dH,dy]
     ·cases k
    ·cases k
   ·cases k
 case indexAddr t x i =>
  split at k
  ·rename_i d a len c l2 i aC ae ak;split at k
   ·rename_i e he;split at k
    ·rename_i cT fU;cases aD:(Nat.beq a.bR 0&&Nat.beq a.es cT.size)with
     |false=>rw [aD]at k;cases k
     |true =>
      rw [aD,cond_true]at k;simp only [Bool.and_eq_true]at aD;simp only [Option.some.injEq,Prod.mk.injEq]at k;obtain⟨rfl,rfl,rfl⟩:=k;simp only [b0,ae,ak,r9,aC,he,fU];rw [if_pos ⟨ac.1,ac.2,Nat.eq_of_beq_eq_true aD.2,Nat.eq_of_beq_eq_true aD.1⟩];rfl
    ·cases k
   ·cases k
  ·cases k
 case convert s d x =>
  split at k
  ·rename_i nE fM l2 n an aC ae;split at k
   ·rename_i aR cB;simp only [Option.some.injEq,Prod.mk.injEq]at k;obtain⟨rfl,rfl,rfl⟩:=k;simp [b0,ae,vP,an,aC,cB,p1 ac]
   ·cases k
  ·cases k
 case call c =>
  split at k
  ·rename_i au;split at k
   ·rename_i a len cap x t u gH bX hu;split at k
    ·rename_i lg d b mL aC ag;split at k
     ·rename_i e ap;split at k
      ·rename_i cT fU;split at k
       ·rename_i a6 bM fu;generalize ff:a6::bM=new at k fu;have b1:new≠[]:=by rw [←ff];simp
        generalize aD:((match lg.kind with|.slice _=>true|.string=>true|_=>false)&&Nat.blt 0 cT.size&&cT.r' && Nat.beq a.bR 0&&Nat.beq a.es cT.size&&!b.exact&&!b.ro&&(match b.aq with|none=>true|some q=>Nat.beq q.1 e&&Nat.beq q.2 0))=T9 at k;cases T9 with
        |false=>cases k
        |true =>
         rw [cond_true]at k;simp only [Option.some.injEq,Prod.mk.injEq]at k;obtain⟨rfl,rfl,rfl⟩:=k;simp only [Bool.and_eq_true,Bool.not_eq_true']at aD;obtain⟨⟨⟨⟨⟨⟨⟨dG,ee⟩,f'⟩,jM⟩,pT⟩,lr⟩,pU⟩,oV⟩:=aD;obtain⟨fv,kv,Ae,T',Ua⟩:=ac;have dH:=Nat.eq_of_beq_eq_true jM;have dy:=Nat.eq_of_beq_eq_true pT
         have kR:b.aq=none∨b.aq=some (e,0):=by
          cases Ub:b.aq with
          |none=>exact .inl rfl
          |some q =>
           rw [Ub]at oV;simp only [Bool.and_eq_true]at oV;exact .inr (by rw [←Nat.eq_of_beq_eq_true oV.1,←Nat.eq_of_beq_eq_true oV.2])
         have Uc:hp E.D t (.slice (some a) len cap) x bh h=some (.slice (some {a with J:=a.J+1}) (len+new.length) (len+new.length),h.set a.id (b.grow new)):=by simp only [hp,aC,ap,fU,fu];rw [if_pos ⟨Nat.blt_eq.mp ee,T',Ua,f'⟩,if_pos ⟨dy,dH⟩];simp only [ag];rw [if_neg (by omega),if_neg (by rw [lr];simp),if_pos ⟨pU,fv,kv,b1,kR⟩]
         simp only [b0,au,gH,fZ,bX,hu,mL];cases DP:lg.kind<;>rw [DP]at dG<;>simp only [Bool.false_eq_true]at dG<;>exact Uc
       ·cases k
      ·cases k
     ·cases k
    ·cases k
   ·cases k
  ·cases k
 case makeSlice t l c =>
  split at k
  ·rename_i d aM c5 aR fS aC az av;split at k
   ·rename_i e he;split at k
    ·rename_i x ae;split at k
     ·rename_i z eT;cases au:(Nat.blt 0 x.size&&z.fits x.kind.isAgg x.size)with
      |false=>rw [au]at k;cases k
      |true =>
       rw [au,cond_true]at k;simp only [Option.some.injEq,Prod.mk.injEq]at k;obtain⟨rfl,rfl,rfl⟩:=k;simp only [Bool.and_eq_true]at au;simp only [b0,az,av,vN,aC,he,ae,eT];rw [if_pos ⟨ac.1,ac.2.1,ac.2.2.1,ac.2.2.2,Nat.blt_eq.mp au.1,au.2⟩]
     ·cases k
    ·cases k
   ·cases k
  ·cases k
def EI(bf:Operand→o)(h:j)(ab:Op)(e:o):Option (o×Prop) :=
 match ab with
 |.load t x =>
  match bf x with
  |.ptr (some a) =>
   match E.D t,h.get a.id with
   |some d,some b =>
    match iD d.kind.isAgg d.size a.bR e with
    |some v=>some (v,b.elem? a.J a.idx=some e)
    |none=>none
   |_,_=>none
  |_=>none
 |_=>none
theorem Ud{bh:Nat}{bf:Operand→o}{h:j}{ab:Op}{e v:o}{I:Prop}(k:EI E bf h ab e=some (v,I))(ac:I)(call:dX):b0 E call bh bf h ab=some (v,h):=by
 unfold EI at k;split at k
 ·rename_i t x;split at k
  ·rename_i a aT;split at k
   ·rename_i d b aC au;split at k
    ·rename_i bt bg;simp only [Option.some.injEq,Prod.mk.injEq]at k;obtain⟨rfl,rfl⟩:=k;simp [b0,aT,cj,aC,au,ac,bg]
    ·cases k
   ·cases k
  ·cases k
 ·cases k
def stOp(bf:Operand→o)(h:j)(ab:Op)(e:o):Option (j×Prop) :=
 match ab with
 |.store t x y =>
  match bf x with
  |.ptr (some a) =>
   match E.D t,h.get a.id with
   |some d,some b =>
    cond ((bf y).fits d.kind.isAgg d.size&&!b.ro)
     (match vJ a.bR (bf y) e with
     |some dT=>some (h.set a.id {b with bi:=b.bi.set a.idx dT,fX:=b.J},a.J=b.J∧b.bi[a.idx]? =some e)
     |none=>none) none
   |_,_=>none
  |_=>none
 |_=>none
theorem Ue{bh:Nat}{bf:Operand→o}{h aa:j}{ab:Op}{e:o}{I:Prop}(k:stOp E bf h ab e=some (aa,I))(ac:I)(call:dX):b0 E call bh bf h ab=some (gp,aa):=by
 unfold stOp at k;split at k
 ·rename_i t x y;split at k
  ·rename_i a aT;split at k
   ·rename_i d b aC au;cases av:((bf y).fits d.kind.isAgg d.size&&!b.ro)with
    |false=>rw [av]at k;cases k
    |true =>
     rw [av,cond_true]at k;split at k
     ·rename_i dT he;simp only [Option.some.injEq,Prod.mk.injEq]at k;obtain⟨rfl,rfl⟩:=k;simp [b0,aT,ki,aC,au,ac.1,ac.2,he,av]
     ·cases k
   ·cases k
  ·cases k
 ·cases k
def mW(bh:Nat)(bf:Operand→o)(h:j)(ab:Op)(v:o)(aa:j):Prop×List hX :=
 match ab with
 |.call c =>
  match c.callee with
  |.value f=>match bf f with|.func (.func g) b4 bp=>(c7 P E.cond g (b4++c.args.toList.map bf++bp) h v aa,[⟨g,b4++c.args.toList.map bf++bp,h,v,aa⟩])|_=>(False,[])
  |.builtin b=>(fZ E b c.argTypes (c.args.toList.map bf) bh h=some (v,aa),[])
  |_=>(False,[])
 |ab=>(b0 E e7 bh bf h ab=some (v,aa),[])
def jP(bh:Nat)(bf:Operand→o)(h:j)(ab:Op)(v:o):Prop×List hX :=
 match ab with
 |.load t x=>(match bf x with|.ptr (some a)=>cj E.D t a h=some v|_=>False,[])
 |.indexAddr t x i=>(r9 E.D t (bf x) (bf i)=some v,[])
 |.index t x i=>(oD E.D t (bf x) (bf i)=some v,[])
 |.slice t x a1 ak fR=>(kk E.D t (bf x) (a1.map bf) (ak.map bf) (fR.map bf)=some v,[])
 |.binOp op t x y _=>(ld E.D E.ho (lf x || lf y) op t (bf x) (bf y)=some v,[])
 |ab=>mW P E bh bf h ab v h
def uv:Op→Bool
 |.call c=>match c.callee with|.value _=>false|_=>true
 |_=>true
theorem Af{bh:Nat}{bf:Operand→o}{h:j}{ab:Op}(ac:uv ab=true)(call:dX):b0 E e7 bh bf h ab=b0 E call bh bf h ab:=by
 cases ab
 case call c =>
  simp only [uv]at ac;cases av:c.callee<;>simp only [av]at ac<;>simp only [b0,av];cases ac
 case makeFunc f a b=>cases f<;>rfl
 all_goals rfl
theorem EJ{bh:Nat}{bf:Operand→o}{h:j}{ab:Op}{v:o}{aa:j}(k:(mW P E bh bf h ab v aa).1){call:dX}(av:∀c∈(mW P E bh bf h ab v aa).2,c.holds call) :
 b0 E call bh bf h ab=some (v,aa):=by
 cases ab
 case call c =>
  simp only [mW]at k av;split at k
  ·rename_i f a8;simp only [a8]at av;split at k
   ·rename_i g b4 bp ag;simp only [ag]at av;simp only [b0,a8,ag,oE];exact av _ (List.mem_singleton.2 rfl)
   ·exact k.elim
  ·rename_i b au;simp only [b0,au];exact k
  ·exact k.elim
 all_goals exact(Af E rfl call).symm.trans k
theorem K9{bh:Nat}{bf:Operand→o}{h:j}{ab:Op}{v:o}(k:(jP P E bh bf h ab v).1){call:dX}(av:∀c∈(jP P E bh bf h ab v).2,c.holds call) :
 b0 E call bh bf h ab=some (v,h):=by
 cases ab
 case load t x =>
  simp only [jP]at k;split at k
  ·rename_i a aT;simp only [b0,aT,k];rfl
  ·exact k.elim
 case indexAddr t x i=>simp only [jP]at k;simp only [b0,k];rfl
 case index t x i=>simp only [jP]at k;simp only [b0,k];rfl
 case slice t x a1 ak fR=>simp only [jP]at k;simp only [b0,k];rfl
 case binOp op t x y z=>simp only [jP]at k;simp only [b0,k];rfl
 all_goals exact EJ P E k av
theorem EK{bh:Nat}{bf:Operand→o}{h:j}{ab:Op}{v:o}{aa:j}(k:(mW P E bh bf h ab v aa).1):∀c∈(mW P E bh bf h ab v aa).2,aI P E.cond c.f c.args c.h c.v c.aa:=by
 cases ab
 case call lX =>
  simp only [mW]at k⊢;cases eb:lX.callee with
  |value f =>
   rw [eb]at k;simp only at k⊢;cases a8:bf f with
   |func fn b4 bp =>
    rw [a8]at k;cases fn with
    |func g =>
     simp only at k⊢;intro c av;simp only [List.mem_singleton]at av;subst av;exact k.T7
    |_=>exact k.elim
   |_=>rw [a8]at k;exact k.elim
  |invoke r m=>rw [eb]at k;exact k.elim
  |builtin b=>intro c av;simp at av
 all_goals (intro c av;simp [mW]at av)
theorem K'{bh:Nat}{bf:Operand→o}{h:j}{ab:Op}{v:o}(k:(jP P E bh bf h ab v).1):∀c∈(jP P E bh bf h ab v).2,aI P E.cond c.f c.args c.h c.v c.aa:=by
 cases ab;case load t x=>intro c av;simp [jP]at av
 case indexAddr t x i=>intro c av;simp [jP]at av
 case index t x i=>intro c av;simp [jP]at av
 case slice t x a1 ak fR=>intro c av;simp [jP]at av
 case binOp op t x y z=>intro c av;simp [jP]at av
 all_goals exact EK P E k
def bZ(l:List Prop):Prop:= ∀I∈l,I
theorem bZ.head{I:Prop}{l:List Prop}(h:bZ (I::l)):I:=h I (by simp)
theorem bZ.tail{I:Prop}{l:List Prop}(h:bZ (I::l)):bZ l:=fun q aD=>h q (by simp [aD])
theorem bZ.left{a b:List Prop}(h:bZ (a++b)):bZ a:=fun I ac=>h I (by simp [ac])
theorem bZ.right{a b:List Prop}(h:bZ (a++b)):bZ b:=fun I ac=>h I (by simp [ac])
def iH(ops:Array Oper)(aj i:Nat)(bf:Operand→o)(h:j)(ab:Op)(aa:j):List Prop :=
 match eP ab with
 |.load=>match kl bf ab with|some b=>cond (Nat.blt b aj || (Nat.blt b (aj+ops.size)&&(ordered (ey ops) (b-aj) i&&!pI ops (ey ops) i))) [] [False]|none=> [False]
 |.store=>match nF bf ab with|some b=>cond (mE ops (ey ops) i&&Nat.blt b aj) [False] []|none=> [False]
 |.call=>cond (mE ops (ey ops) i) [qM (aj+ops.size) h aa=true] []
 |.gJ=>cond (pJ ops aj i (h' bf ab)) [] [False]
 |_=> []
def EL(aj N:Nat):List Nat→List Prop
 |[]=> []
 |b::r=>(b<aj∨N≤b)::EL aj N r
def Ag(ops:Array Oper)(aj:Nat)(bf:Operand→o)(ab:Op):List Prop :=
 match eP ab with
 |.load=>match kl bf ab with|some b=> [b<aj]|none=> [False]
 |.gJ=>EL aj (aj+ops.size) (h' bf ab)
 |_=> [False]
theorem La{aj N:Nat} :∀{l:List Nat},bZ (EL aj N l)→ ∀b∈l,b<aj∨N≤b
 |[],_,b,au=>by cases au
 |a::r,h,b,au=>by
  rcases List.mem_cons.1 au with rfl|au
  ·exact h.head
  ·exact La h.tail b au
theorem Lb{ops:Array Oper}{aj i:Nat}{bf:Operand→o}{h aa:j}{ab:Op}(k:bZ (Ag ops aj bf ab)):bZ (iH ops aj i bf h ab aa):=by
 unfold Ag at k;unfold iH;split at k
 ·rename_i av;rw [av];simp only;split at k
  ·rename_i b au;have:Nat.blt b aj=true:=Nat.blt_eq.mpr k.head;rw [this];intro I ac;cases ac
  ·exact k.head.elim
 ·rename_i av;rw [av];simp only
  have:pJ ops aj i (h' bf ab)=true:=by
   unfold pJ;rw [List.all_eq_true];intro b au;rcases La k b au with h|h
   ·simp [h]
   ·simp [h]
  rw [this];intro I ac;cases ac
 ·exact k.head.elim
abbrev EM:=Option (o×j×List Hint×List Prop×List hX)
def o2(draw:Bool)(ops:Array Oper)(aj i:Nat)(F:bP)(h:j)(ab:Op)(an:List Hint):EM :=
 cond (uv ab)
  (match b0 E e7 (aj+i) (bU F) h ab with
  |some (v,aa)=>some (v,aa,an,cond draw (iH ops aj i (bU F) h ab aa) [],[])
  |none=>cond (!draw || (iQ ab&&(lh ops i || iR ops aj i (bU F) ab))) (match eO E (aj+i) (bU F) h ab with|some (v,aa)=>some (v,aa,an,[],[])|none=>none) none) none
abbrev uw:=FuncId→List o→j→List Hint→Option (o×j×List Hint×List Prop)
def wT(fO:uw)(draw:Bool)(ops:Array Oper)(aj i:Nat)(F:bP)(h:j)(ab:Op)(x:Hint)(an:List Hint):EM :=
 match x with
 |.enter _ =>
  match ab with
  |.call c =>
   match c.callee with
   |.value f =>
    match bU F f with
    |.func (.func g) b4 bp =>
     match fO g (b4++c.args.toList.map (bU F)++bp) h an with
     |some (v,aa,ez,wu)=>some (v,aa,ez,cond draw (iH ops aj i (bU F) h ab aa) []++wu,[⟨g,b4++c.args.toList.map (bU F)++bp,h,v,aa⟩])
     |none=>none
    |_=>none
   |_=>none
  |_=>none
 |.val _ v=>some (v,h,an,(jP P E (aj+i) (bU F) h ab v).1::cond draw (iH ops aj i (bU F) h ab h) [],(jP P E (aj+i) (bU F) h ab v).2)
 |.act _ v g=>some (v,g h,an,(mW P E (aj+i) (bU F) h ab v (g h)).1::cond draw (iH ops aj i (bU F) h ab (g h)) [],(mW P E (aj+i) (bU F) h ab v (g h)).2)
 |.EG _ v g=>some (v,g h,an,(mW P E (aj+i) (bU F) h ab v (g h)).1::cond draw (Ag ops aj (bU F) ab) [],(mW P E (aj+i) (bU F) h ab v (g h)).2)
 |.rb _ v=>some (v,h,an,(jP P E (aj+i) (bU F) h ab v).1::cond draw (Ag ops aj (bU F) ab) [],(jP P E (aj+i) (bU F) h ab v).2)
 |.go _ =>
  match EH E (aj+i) (bU F) h ab with
  |some (v,aa,I)=>some (v,aa,an,I::cond draw (iH ops aj i (bU F) h ab aa) [],[])
  |none=>none
 |.kx _ e =>
  match EI E (bU F) h ab e with
  |some (v,I)=>some (v,h,an,I::cond draw (iH ops aj i (bU F) h ab h) [],[])
  |none=>none
 |.j8 _ e =>
  match stOp E (bU F) h ab e with
  |some (aa,I)=>some (gp,aa,an,I::cond draw (iH ops aj i (bU F) h ab aa) [],[])
  |none=>none
 |.kZ _ v g =>
  cond (iQ ab&&(!draw || (lh ops i || iR ops aj i (bU F) ab)))
  (match b0 E e7 (aj+i) (bU F) h ab with
  |none=>some (v,g h,an,[eO E (aj+i) (bU F) h ab=some (v,g h)],[])
  |some _=>none) none
 |.run _ m =>
  match ab with
  |.call c =>
   match c.callee with
   |.value f =>
    match bU F f with
    |.func (.func g) b4 bp =>
     match mG P E m g (b4++c.args.toList.map (bU F)++bp) h with
     |some (v,aa)=>some (v,aa,an,cond draw (iH ops aj i (bU F) h ab aa) [],[⟨g,b4++c.args.toList.map (bU F)++bp,h,v,aa⟩])
     |none=>none
    |_=>none
   |_=>none
  |_=>none
 |.K7 _ m =>
  match ab with
  |.call c =>
   match c.callee with
   |.value f =>
    match bU F f with
    |.func (.func g) b4 bp =>
     match o1 P E m g (b4++c.args.toList.map (bU F)++bp) h with
     |some (v,aa)=>some (v,aa,an,cond draw (iH ops aj i (bU F) h ab aa) [],[⟨g,b4++c.args.toList.map (bU F)++bp,h,v,aa⟩])
     |none=>none
    |_=>none
   |_=>none
  |_=>none
 |_=>none
def Hint.at:Hint→Option Nat
 |.val i _=>some i
 |.act i _ _=>some i
 |.EG i _ _=>some i
 |.rb i _=>some i
 |.go i=>some i
 |.kx i _=>some i
 |.j8 i _=>some i
 |.kZ i _ _=>some i
 |.run i _=>some i
 |.K7 i _=>some i
 |.enter i=>some i
 |_=>none
def pop(fO:uw)(q:Nat)(ops:Array Oper)(draw:Bool)(aj i:Nat)(F:bP)(h:j)(ab:Op)(an:List Hint):EM :=
 match an with
 |x::r =>
  match x.at with
  |some C=>cond (Nat.beq (1000*q+i) C) (wT P E fO draw ops aj i F h ab x r) (o2 E draw ops aj i F h ab an)
  |none=>o2 E draw ops aj i F h ab an
 |[]=>o2 E draw ops aj i F h ab an
def k0(call:dX)(ops:Array Oper)(draw:Bool)(aj i:Nat)(bf:Operand→o)(h:j)(ab:Op):Option (o×j) :=
 if draw then fD E call ops aj i bf h ab else jk E call (aj+i) bf h ab
theorem Uf{bh:Nat}{bf dV:Operand→o}{h:j}{ab:Op}(c0:∀x∈ab.operands.toList,bf x=dV x):eO E bh bf h ab=eO E bh dV h ab:=by
 cases ab
 case call c =>
  simp only [Op.operands,Call.operands,Array.toList_append,List.mem_append]at c0;simp only [eO];have aT:=ug (xs:=c.args) (fun x ae=>c0 x (.inr ae));cases iW:c.callee with
  |value f =>
   rw [iW]at c0;simp only [aT,c0 f (.inl (by simp))]
  |invoke r m=>rfl
  |builtin b=>rfl
 case convert s d x =>
  simp only [Op.operands]at c0;simp only [eO];rw [c0 x (by simp)]
 all_goals rfl
theorem Ug{ab:Op}(h:iQ ab=true):eP ab=.pure:=by cases ab<;>simp only [iQ,Bool.false_eq_true]at h<;>rfl
theorem EN{call:dX}{ops:Array Oper}{draw:Bool}{aj i:Nat}{bf:Operand→o}{h aa:j}{ab:Op}{v:o}(aT:b0 E call (aj+i) bf h ab=none)(ae:eO E (aj+i) bf h ab=some (v,aa))
 (aC:draw=true→iQ ab=true∧(lh ops i=true∨iR ops aj i bf ab=true)):k0 E call ops draw aj i bf h ab=some (v,aa):=by
 unfold k0;cases draw with
 |false=>simp only [Bool.false_eq_true,if_false,jk,aT,ae]
 |true =>
  obtain⟨p,ad⟩:=aC rfl;simp only [if_true];unfold fD;simp only [Ug p,aT,p,ad,and_self,if_true,ae]
theorem jQ{call:dX}{ops:Array Oper}{draw:Bool}{aj i:Nat}{bf:Operand→o}{h aa:j}{ab:Op}{v:o}(aT:b0 E call (aj+i) bf h ab=some (v,aa))(aC:bZ (cond draw (iH ops aj i bf h ab aa) [])) :
 k0 E call ops draw aj i bf h ab=some (v,aa):=by
 unfold k0;cases draw with
 |false=>simp only [Bool.false_eq_true,if_false,jk,aT]
 |true =>
  have aC:bZ (iH ops aj i bf h ab aa):=aC;simp only [if_true];unfold fD;unfold iH at aC;cases hs:eP ab<;>simp only [hs]at aC⊢ <;>try exact aT
  ·rw [aT]
  ·split
   ·rename_i b au;rw [au]at aC;simp only at aC;cases aD:(Nat.blt b aj || (Nat.blt b (aj+ops.size)&&(ordered (ey ops) (b-aj) i&&!pI ops (ey ops) i)))with
    |false=>rw [aD]at aC;exact aC.head.elim
    |true =>
     simp only [Bool.or_eq_true,Bool.and_eq_true,Bool.not_eq_true']at aD;rw [if_pos]
     ·exact aT
     ·rcases aD with aD|⟨aD,eH,Uh⟩
      ·exact .inl (Nat.blt_eq.mp aD)
      ·exact .inr ⟨Nat.blt_eq.mp aD,eH,Uh⟩
   ·rename_i au;rw [au]at aC;exact aC.head.elim
  ·split
   ·rename_i b au;rw [au]at aC;simp only at aC;cases aD:(mE ops (ey ops) i&&Nat.blt b aj)with
    |true=>rw [aD]at aC;exact aC.head.elim
    |false =>
     rw [if_neg]
     ·exact aT
     ·rintro ⟨p,ad⟩;rw [p,Nat.blt_eq.mpr ad]at aD;cases aD
   ·rename_i au;rw [au]at aC;exact aC.head.elim
  ·simp only [aT];cases az:mE ops (ey ops) i with
   |false=>simp
   |true =>
    rw [az,cond_true]at aC;simp only [if_true];rw [if_pos aC.head]
  ·cases aD:pJ ops aj i (h' bf ab)with
   |true=>simp [aT]
   |false=>rw [aD]at aC;exact aC.head.elim
theorem EO{ops:Array Oper}{draw:Bool}{aj i:Nat}{F:bP}{h aa:j}{ab:Op}{an ez:List Hint}{v:o}{bp:List Prop}{bo:List hX}(ac:o2 E draw ops aj i F h ab an=some (v,aa,ez,bp,bo))(av:bZ bp)(call:dX) :
 k0 E call ops draw aj i (bU F) h ab=some (v,aa):=by
 unfold o2 at ac;cases au:uv ab
 ·rw [au]at ac;cases ac
 ·rw [au,cond_true]at ac;split at ac
  ·rename_i v1 p aT;simp only [Option.some.injEq,Prod.mk.injEq]at ac;obtain⟨rfl,rfl,_,rfl,_⟩:=ac;exact jQ E ((Af E au call).symm.trans aT) av
  ·rename_i aT;cases aD:(!draw || (iQ ab&&(lh ops i || iR ops aj i (bU F) ab)))with
   |false=>rw [aD]at ac;cases ac
   |true =>
    rw [aD,cond_true]at ac;split at ac
    ·rename_i v1 p ae;simp only [Option.some.injEq,Prod.mk.injEq]at ac;obtain⟨rfl,rfl,_,rfl,_⟩:=ac;refine EN E ((Af E au call).symm.trans aT) ae fun ub=> ?_
     rw [ub]at aD;simpa using aD
    ·cases ac
theorem Ui{fO:uw}{ops:Array Oper}{draw:Bool}{aj i:Nat}{F:bP}{h aa:j}{ab:Op}{x:Hint}{an ez:List Hint}{v:o}{bp:List Prop}{bo:List hX}(ac:wT P E fO draw ops aj i F h ab x an=some (v,aa,ez,bp,bo))(av:bZ bp){call:dX}
 (ap:∀c∈bo,c.holds call):k0 E call ops draw aj i (bU F) h ab=some (v,aa):=by
 unfold wT at ac;split at ac
 ·split at ac
  ·rename_i c;split at ac
   ·rename_i f a8;split at ac
    ·rename_i g b4 sN ag;split at ac
     ·rename_i v1 p eA wu gd;simp only [Option.some.injEq,Prod.mk.injEq]at ac;obtain⟨rfl,rfl,_,rfl,rfl⟩:=ac;refine jQ E ?_ av.left;simp only [b0,a8,ag,oE];exact ap _ (List.mem_singleton.2 rfl)
     ·cases ac
    ·cases ac
   ·cases ac
  ·cases ac
 ·simp only [Option.some.injEq,Prod.mk.injEq]at ac;obtain⟨rfl,rfl,_,rfl,rfl⟩:=ac;exact jQ E (K9 P E av.head ap) av.tail
 ·simp only [Option.some.injEq,Prod.mk.injEq]at ac;obtain⟨rfl,rfl,_,rfl,rfl⟩:=ac;exact jQ E (EJ P E av.head ap) av.tail
 ·simp only [Option.some.injEq,Prod.mk.injEq]at ac;obtain⟨rfl,rfl,_,rfl,rfl⟩:=ac;refine jQ E (EJ P E av.head ap) ?_;have bX:=av.tail;cases draw with
  |false=>intro I ac;cases ac
  |true=>exact Lb bX
 ·simp only [Option.some.injEq,Prod.mk.injEq]at ac;obtain⟨rfl,rfl,_,rfl,rfl⟩:=ac;refine jQ E (K9 P E av.head ap) ?_;have bX:=av.tail;cases draw with
  |false=>intro I ac;cases ac
  |true=>exact Lb bX
 ·split at ac
  ·rename_i v1 p I ag;simp only [Option.some.injEq,Prod.mk.injEq]at ac;obtain⟨rfl,rfl,_,rfl,_⟩:=ac;exact jQ E (T8 E ag av.head call) av.tail
  ·cases ac
 ·split at ac
  ·rename_i v1 I ag;simp only [Option.some.injEq,Prod.mk.injEq]at ac;obtain⟨rfl,rfl,_,rfl,_⟩:=ac;exact jQ E (Ud E ag av.head call) av.tail
  ·cases ac
 ·split at ac
  ·rename_i p I ag;simp only [Option.some.injEq,Prod.mk.injEq]at ac;obtain⟨rfl,rfl,_,rfl,_⟩:=ac;exact jQ E (Ue E ag av.head call) av.tail
  ·cases ac
 ·cases aD:(iQ ab&&(!draw || (lh ops i || iR ops aj i (bU F) ab)))with
  |false=>rw [aD]at ac;cases ac
  |true =>
   rw [aD,cond_true]at ac;simp only [Bool.and_eq_true]at aD;split at ac
   ·rename_i aT;simp only [Option.some.injEq,Prod.mk.injEq]at ac;obtain⟨rfl,rfl,_,rfl,_⟩:=ac
    have qU:uv ab=true:=by cases ab<;>first|rfl|(simp [iQ]at aD)
    refine EN E ((Af E qU call).symm.trans aT) av.head fun ub=>⟨aD.1,?_⟩
    have:=aD.2;rw [ub]at this;simpa using this
   ·cases ac
 ·split at ac
  ·rename_i c;split at ac
   ·rename_i f a8;split at ac
    ·rename_i g b4 sN ag;split at ac
     ·rename_i v1 p gd;simp only [Option.some.injEq,Prod.mk.injEq]at ac;obtain⟨rfl,rfl,_,rfl,rfl⟩:=ac;refine jQ E ?_ av;simp only [b0,a8,ag,oE];exact ap _ (List.mem_singleton.2 rfl)
     ·cases ac
    ·cases ac
   ·cases ac
  ·cases ac
 ·split at ac
  ·rename_i c;split at ac
   ·rename_i f a8;split at ac
    ·rename_i g b4 sN ag;split at ac
     ·rename_i v1 p gd;simp only [Option.some.injEq,Prod.mk.injEq]at ac;obtain⟨rfl,rfl,_,rfl,rfl⟩:=ac;refine jQ E ?_ av;simp only [b0,a8,ag,oE];exact ap _ (List.mem_singleton.2 rfl)
     ·cases ac
    ·cases ac
   ·cases ac
  ·cases ac
 ·cases ac
theorem Lc{fO:uw}{q:Nat}{ops:Array Oper}{draw:Bool}{aj i:Nat}{F:bP}{h aa:j}{ab:Op}{an ez:List Hint}{v:o}{bp:List Prop}{bo:List hX}(ac:pop P E fO q ops draw aj i F h ab an=some (v,aa,ez,bp,bo))(av:bZ bp){call:dX}
 (ap:∀c∈bo,c.holds call):k0 E call ops draw aj i (bU F) h ab=some (v,aa):=by
 unfold pop at ac;split at ac
 ·split at ac
  ·rename_i C aV;cases au:Nat.beq (1000*q+i) C
   ·rw [au,cond_false]at ac;exact EO E ac av call
   ·rw [au,cond_true]at ac;exact Ui P E ac av ap
  ·exact EO E ac av call
 ·exact EO E ac av call
def EP(fO:uw):Prop:= ∀f args h an v aa ez bp,fO f args h an=some (v,aa,ez,bp)→bZ bp→aI P E.cond f args h v aa
theorem Ld(cH:hv P E)(e4:P.follows .mixedOrders=true){fO:uw}(ky:EP P E fO){q:Nat}{ops:Array Oper}{draw:Bool}{aj i:Nat}{F:bP}{h aa:j}{ab:Op}{an ez:List Hint}{v:o}{bp:List Prop}{bo:List hX}(ac:pop P E fO q ops draw aj i F h ab an=some (v,aa,ez,bp,bo))(av:bZ bp) :
 ∀c∈bo,aI P E.cond c.f c.args c.h c.v c.aa:=by
 have plain:∀{nB:List Hint},o2 E draw ops aj i F h ab nB=some (v,aa,ez,bp,bo)→ ∀c∈bo,aI P E.cond c.f c.args c.h c.v c.aa:=by
  intro nB ac;unfold o2 at ac;cases au:uv ab
  ·rw [au]at ac;cases ac
  ·rw [au,cond_true]at ac;split at ac
   ·simp only [Option.some.injEq,Prod.mk.injEq]at ac;obtain⟨_,_,_,_,rfl⟩:=ac;intro c av;simp at av
   ·cases aD:(!draw || (iQ ab&&(lh ops i || iR ops aj i (bU F) ab)))with
    |false=>rw [aD]at ac;cases ac
    |true =>
     rw [aD,cond_true]at ac;split at ac
     ·simp only [Option.some.injEq,Prod.mk.injEq]at ac;obtain⟨_,_,_,_,rfl⟩:=ac;intro c av;simp at av
     ·cases ac
 unfold pop at ac;split at ac
 ·split at ac
  ·rename_i C aV;cases au:Nat.beq (1000*q+i) C
   ·rw [au,cond_false]at ac;exact plain ac
   ·rw [au, cond_true]at ac;unfold wT at ac;split at ac
    ·split at ac
     ·split at ac
      ·split at ac
       ·split at ac
        ·rename_i gd;simp only [Option.some.injEq,Prod.mk.injEq]at ac;obtain⟨_,_,_,rfl,rfl⟩:=ac;intro c hm;simp only [List.mem_singleton]at hm;subst hm;exact ky _ _ _ _ _ _ _ _ gd av.right
        ·cases ac
       ·cases ac
      ·cases ac
     ·cases ac
    ·simp only [Option.some.injEq,Prod.mk.injEq]at ac;obtain⟨rfl,rfl,_,rfl,rfl⟩:=ac;exact K' P E av.head
    ·simp only [Option.some.injEq,Prod.mk.injEq]at ac;obtain⟨rfl,rfl,_,rfl,rfl⟩:=ac;exact EK P E av.head
    ·simp only [Option.some.injEq,Prod.mk.injEq]at ac;obtain⟨rfl,rfl,_,rfl,rfl⟩:=ac;exact EK P E av.head
    ·simp only [Option.some.injEq,Prod.mk.injEq]at ac;obtain⟨rfl,rfl,_,rfl,rfl⟩:=ac;exact K' P E av.head
    all_goals first
     |(split at ac
       ·simp only [Option.some.injEq,Prod.mk.injEq]at ac;obtain⟨_,_,_,_,rfl⟩:=ac;intro c av;simp at av
       ·cases ac
       done)
     |(cases ac;done)
     |skip
    ·cases aD:(iQ ab&&(!draw || (lh ops i || iR ops aj i (bU F) ab)))with
     |false=>rw [aD]at ac;cases ac
     |true =>
      rw [aD,cond_true]at ac;split at ac
      ·simp only [Option.some.injEq,Prod.mk.injEq]at ac;obtain⟨_,_,_,_,rfl⟩:=ac;intro c av;simp at av
      ·cases ac
    ·split at ac
     ·split at ac
      ·split at ac
       ·split at ac
        ·rename_i gd;simp only [Option.some.injEq,Prod.mk.injEq]at ac;obtain⟨_,_,_,_,rfl⟩:=ac;intro c av;simp only [List.mem_singleton]at av;subst av;exact aI.uo cH e4 gd
        ·cases ac
       ·cases ac
      ·cases ac
     ·cases ac
    ·split at ac
     ·split at ac
      ·split at ac
       ·split at ac
        ·rename_i gd;simp only [Option.some.injEq,Prod.mk.injEq]at ac;obtain⟨_,_,_,_,rfl⟩:=ac;intro c av;simp only [List.mem_singleton]at av;subst av;rw [wQ]at gd;exact aI.uo cH e4 gd
        ·cases ac
       ·cases ac
      ·cases ac
     ·cases ac
  ·exact plain ac
 ·exact plain ac
def EQ(n:Nat)(ab:Oper):Bool :=
 match ab.dst with
 |some d=>Nat.blt d n
 |none=>true
def p2(E:b5)(call:dX)(ops:Array Oper)(draw:Bool)(aj:Nat)(l:List Nat)(s:fz):Option fz :=
 if draw then km E call ops aj l s else oH E call ops aj l s
theorem Uj{call:dX}{ops:Array Oper}{draw:Bool}{aj i:Nat}{l:List Nat}{s:List o}{h aa:j}{ab:Oper}{v:o}(ai:ops[i]? =some ab)(hw:jl ops s ab=some true)
 (aT:k0 E call ops draw aj i (di s) h ab.op=some (v,aa)):p2 E call ops draw aj (i::l) ⟨s,h⟩=p2 E call ops draw aj l ⟨hS s ab.dst v,aa⟩:=by
 unfold p2 k0 at *;cases draw with
 |false=>simp only [Bool.false_eq_true,if_false]at aT⊢; simp only [oH,qL,ai,hw,aT]
 |true=>simp only [if_true]at aT⊢; simp only [km,l0,ai,hw,aT]
theorem Uk{call:dX}{ops:Array Oper}{draw:Bool}{aj i:Nat}{l:List Nat}{s:List o}{h:j}{ab:Oper}(ai:ops[i]? =some ab)(hw:jl ops s ab=some false) :
 p2 E call ops draw aj (i::l) ⟨s,h⟩=p2 E call ops draw aj l ⟨hS s ab.dst gp,h⟩:=by
 unfold p2;cases draw with
 |false=>simp only [Bool.false_eq_true,if_false,oH,qL,ai,hw]
 |true=>simp only [if_true,km,l0,ai,hw]
theorem Le(s:List o)(d:Option Tmp)(v:o):(hS s d v).length=s.length:=by cases d<;>simp [hS]
structure Lf(a b:List o)(h k:j)(v u:o)(aa fy:j):Prop where
 agree:a=b→h=k→v=u∧aa=fy
def Lg(a b:hX):List Prop:=cond (Nat.beq a.f b.f) [Lf a.args b.args a.h b.h a.v b.v a.aa b.aa] []
def Ah:List hX→List Prop
 |[]=> []
 |a::r=>r.flatMap (Lg a)++Ah r
open Classical in
def rc:List hX→dX
 |[],_,_,_=>none
 |k::r,f,args,h=>if k.f=f∧k.args=args∧k.h=h then some (k.v,k.aa)else rc r f args h
theorem Lh:∀{bo:List hX}{f:FuncId}{args:List o}{h:j}{v:o}{aa:j},rc bo f args h=some (v,aa)→ ∃k∈bo,k.f=f∧k.args=args∧k.h=h∧k.v=v∧k.aa=aa
 |[],f,args,h,v,aa,av=>by cases av
 |k ::r,f,args,h,v,aa,av=>by
  simp only [rc]at av;split at av
  ·rename_i e;simp only [Option.some.injEq,Prod.mk.injEq]at av;exact⟨k,by simp,e.1,e.2.1,e.2.2,av.1,av.2⟩
  ·obtain⟨fy,hm,q⟩:=Lh av;exact⟨fy,by simp [hm],q⟩
theorem Li:∀{bo:List hX},bZ (Ah bo)→ ∀c∈bo,c.holds (rc bo)
 |[],_,c,av=>by simp at av
 |k ::r,hu,c,av=>by
  simp only [Ah]at hu;unfold hX.holds;simp only [rc];split
  ·rename_i e;rcases List.mem_cons.1 av with rfl|hm
   ·rfl
   ·have:=hu.left
    have aD:k.v=c.v∧k.aa=c.aa:=by have p:Lf k.args c.args k.h c.h k.v c.v k.aa c.aa:=this _ (List.mem_flatMap.2 ⟨c,hm,by unfold Lg;rw [beq_true e.1];simp⟩);exact p.agree e.2.1 e.2.2
    rw [aD.1,aD.2]
  ·rename_i e;rcases List.mem_cons.1 av with rfl|hm
   ·exact absurd ⟨rfl,rfl,rfl⟩ e
   ·exact Li hu.right c hm
theorem Ul{bo:List hX}(ap:∀c∈bo,aI P E.cond c.f c.args c.h c.v c.aa){be:Nat→Prop}{br:World}(dn:fC be br.heap.size)(fQ:E.cond be br):nN P be br (rc bo):=by intro f args h v aa av al w dF eU cE ed;obtain⟨k,hm,rfl,rfl,rfl,rfl,rfl⟩:=Lh av;exact ap k hm be br dn fQ al w dF eU cE ed
def sO:Nat→List o→bP
 |_,[]=> []
 |i,v::r=>(i,v)::sO (i+1) r
def me(D:dL)(F:bP)(h:j):List ResultVar→List Hint→Option (List o×List Prop)
 |[],[]=>some ([],[])
 |[],_=>none
 |.tmp t::r,an=>match hh F t,me D F h r an with|some v,some (l,bp)=>some (v::l,bp)|_,_=>none
 |.cell a t::r,.cell v::an=>match hh F a,me D F h r an with|some (.ptr (some I)),some (l,bp)=>some (v::l,(cj D t I h=some v)::bp)|_,_=>none
 |.cell a t::r,an =>
  match hh F a with
  |some (.ptr (some I)) =>
   match cj D t I h with
   |some v=>match me D F h r an with|some (l,bp)=>some (v::l,bp)|none=>none
   |none=>none
  |_=>none
end
end
end Go.cM
namespace Go.cM
noncomputable section
open Go.RowKit
section
variable {P:Program}{E:b5}
def Ai(al:Map)(S:Nat→Prop)(br:World)(n:Nat)(F:bP)(h:j)(a:Act)(w:World):Prop:= ∃s:List o,s.length=n∧Has F s∧gS al S br ⟨s,h⟩ a w
def k1(P:Program)(cf:(Nat→Prop)→World→Prop)(base n:Nat)(pX:(Exit→Act→World→Prop)→Act→World→Prop)(F:bP)(h:j)(e:dc)(eB:bP)(aa:j):Prop :=
 ∀(S:Nat→Prop)(br:World),fC S br.heap.size→cf S br→ ∀(e6 al:Map)(a:Act)(w:World),(∀i v I,e6 i v=some I→i<base)→fk e6 al base→Ai al S br n F h a w →
  ∀Q:Exit→Act→World→Prop,(∀bN cG bC,fk e6 bN base→Ai bN S br n eB aa cG bC→Q (wD e) cG bC)→pX Q a w
def cx(P:Program)(cf:(Nat→Prop)→World→Prop)(base n:Nat)(c:Code)(F:bP)(h:j)(e:dc)(eB:bP)(aa:j):Prop:=k1 P cf base n (fun Q a w=>c.wp P Q a w) F h e eB aa
def cN(P:Program)(cf:(Nat→Prop)→World→Prop)(base n:Nat)(c:Code)(F:bP)(h:j)(e:dc)(eB:bP)(aa:j):Prop:=k1 P cf base n (fun Q a w=>sG P c Q a w) F h e eB aa
def sP(P:Program)(body:Option Code)(c:Code):(Exit→Act→World→Prop)→Act→World→Prop :=
 match body with
 |none=>fun Q a w=>c.wp P Q a w
 |some b=>fun Q a w=>um P b c Q a w
theorem cx.gL{cf:(Nat→Prop)→World→Prop}{base n:Nat}{c:Code}{F eB:bP}{h aa:j}{e:dc}(k:cN P cf base n c F h e eB aa):cx P cf base n (.loop c) F h e eB aa :=
 fun S br cJ fQ e6 al a w bm ap r Q eI=>KK (k S br cJ fQ e6 al a w bm ap r Q eI)
theorem cN.step{cf:(Nat→Prop)→World→Prop}{base n:Nat}{c:Code}{F aW nT:bP}{h p ad:j}{e:dc}(aM:cx P cf base n c F h .normal aW p)(aR:cN P cf base n c aW p e nT ad):cN P cf base n c F h e nT ad :=
 fun S br cJ fQ e6 al a w bm ap r Q eI=>Eg (aM S br cJ fQ e6 al a w bm ap r _ fun bN cG bC dY fL=>aR S br cJ fQ e6 bN cG bC bm dY fL Q eI)
theorem cN.last{cf:(Nat→Prop)→World→Prop}{base n:Nat}{c:Code}{F aW:bP}{h p:j}{e:dc}(he:e≠ .normal)(aM:cx P cf base n c F h e aW p):cN P cf base n c F h e aW p :=
 fun S br cJ fQ e6 al a w bm ap r Q eI=>Eg (aM S br cJ fQ e6 al a w bm ap r _ fun bN cG bC dY fL=>by
  have:=eI bN cG bC dY fL;cases e with
  |normal=>exact absurd rfl he
  |_=>exact this)
def eV(base n:Nat)(F:bP)(h:j)(aW:bP)(p:j):Prop :=
 ∀(S:Nat→Prop)(br:World)(e6 al:Map)(a:Act)(w:World),(∀i v I,e6 i v=some I→i<base)→fk e6 al base→Ai al S br n F h a w→ ∃ux,fk e6 ux base∧Ai ux S br n aW p a w
theorem k1.pre{cf:(Nat→Prop)→World→Prop}{base n:Nat}{pX:(Exit→Act→World→Prop)→Act→World→Prop}{F G eB:bP}{h g aa:j}{e:dc}(k:k1 P cf base n pX F h e eB aa)(i:eV base n G g F h):k1 P cf base n pX G g e eB aa :=
 fun S br cJ fQ e6 al a w bm ap r Q eI=>by obtain⟨ux,gq,fT⟩:=i S br e6 al a w bm ap r;exact k S br cJ fQ e6 ux a w bm gq fT Q eI
theorem k1.post{cf:(Nat→Prop)→World→Prop}{base n:Nat}{pX:(Exit→Act→World→Prop)→Act→World→Prop}{F eB Lj:bP}{h aa dv:j}{e:dc}(k:k1 P cf base n pX F h e eB aa)(i:eV base n eB aa Lj dv):k1 P cf base n pX F h e Lj dv :=
 fun S br cJ fQ e6 al a w bm ap r Q eI=>k S br cJ fQ e6 al a w bm ap r Q fun bN cG bC dY fL=>by obtain⟨ux,gq,fT⟩:=i S br e6 bN cG bC bm dY fL;exact eI ux cG bC gq fT
def bP.le(G F:bP):Prop:= ∀t v,hh G t=some v→hh F t=some v
theorem bP.Um(F:bP)(l:List Nat):bP.le (p0 F l) F:=fun _ _ h=>wS h
theorem eV.facts{base n:Nat}{F G:bP}{h:j}(k:bP.le G F):eV base n F h G h :=
 fun S br e6 al a w bm ap ⟨s,aS,fI,r⟩=>⟨al,ap,s,aS,fun t v bg=>fI t v (k t v bg),r⟩
theorem Lk:∀(l:List o)(i t:Nat)(v:o),hh (sO i l) t=some v→i≤t∧l[t-i]? =some v
 |[],i,t,v,h=>by cases h
 |a ::r,i,t,v,h=>by
  simp only [sO,kY]at h;split at h
  ·rename_i e;subst e;exact⟨Nat.le_refl _,by simpa using h⟩
  ·rename_i e;obtain⟨p,ad⟩:=Lk r (i+1) t v h;refine⟨by omega,?_⟩;rw [show t-i=(t- (i+1))+1 by omega,List.getElem?_cons_succ];exact ad
theorem Aj{D:dL}{F:bP}{h:j}{s:List o}(fI:Has F s):∀{dR:List ResultVar}{an:List Hint}{l:List o}{bp:List Prop},me D F h dR an=some (l,bp)→bZ bp→jm D dR ⟨s,h⟩=some l
 |[],an,l,bp,ac,av=>by
  cases an with
  |nil=>simp only [me,Option.some.injEq,Prod.mk.injEq]at ac;obtain⟨rfl,_⟩:=ac;rfl
  |cons a r=>simp [me]at ac
 |.tmp t::r,an,l,bp,ac,av=>by
  simp only [me]at ac;split at ac
  ·rename_i v c5 sN bg ae;simp only [Option.some.injEq,Prod.mk.injEq]at ac;obtain⟨rfl,rfl⟩:=ac;simp only [jm,Aj fI ae av,List.getD_eq_getElem?_getD,fI t v bg];rfl
  ·cases ac
 |.cell a t::r,an,l,bp,ac,av=>by
  have go :∀{an:List Hint}{l:List o}{bp:List Prop},(match hh F a with
   |some (.ptr (some I)) =>
    match cj D t I h with
    |some v=>match me D F h r an with|some (l,bp)=>some (v::l,bp)|none=>none
    |none=>none
   |_=>none)=some (l,bp)→bZ bp→jm D (.cell a t::r) ⟨s,h⟩=some l:=by
   intro an l bp ac av;split at ac
   ·rename_i I bg;split at ac
    ·rename_i v az;split at ac
     ·rename_i c5 sN ae;simp only [Option.some.injEq,Prod.mk.injEq]at ac;obtain⟨rfl,rfl⟩:=ac;simp only [jm,Aj fI ae av,List.getD_eq_getElem?_getD,fI a _ bg,Option.getD_some,az]
     ·cases ac
    ·cases ac
   ·cases ac
  cases an with
  |nil=>exact go (an:=[]) ac av
  |cons q an =>
   cases q with
   |cell v =>
    simp only [me]at ac;split at ac
    ·rename_i I c5 sN bg ae;simp only [Option.some.injEq,Prod.mk.injEq]at ac;obtain⟨rfl,rfl⟩:=ac;have uy:bZ sN:=fun I ac=>av I (by simp [ac])
     simp only [jm,Aj fI ae uy,List.getD_eq_getElem?_getD,fI a _ bg,Option.getD_some,av.head]
    ·cases ac
   |_=>exact go (an:=_::an) ac av
theorem aI.Un(cH:hv P E){f:FuncId}{fn:Func}{c:Code}(a8:P.funcs[f]? =some fn)(au:fn.body=some c){args:List o}{h aa:j}{e:dc}(he:e=.normal∨e=.ret){eB:bP}{dR:List Hint}{l:List o}{bp:List Prop}
 (bb:cx P E.cond h.next (args.length+(fn.ntmps-args.length)) c (sO 0 args) h e eB aa) (ac:me E.D eB aa fn.results.toList dR=some (l,bp)) (av:bZ bp) (aS:h.next≤aa.next):aI P E.cond f args h (mF l) aa:=by
 intro S br cJ gB al w dF eU sI ed;refine⟨⟨fn,c,a8,au⟩,calls_of_wp a8 au ?_⟩;have hlen:dF.size=args.length:=by have:=ed.length;rwa [Array.length_toList]at this
 have fI:Has (sO 0 args) (args++List.replicate (fn.ntmps-args.length) gp):=by intro t u hu;obtain⟨_,ad⟩:=Lk args 0 t u hu;simp only [Nat.sub_zero]at ad;obtain⟨cQ,_⟩:=List.getElem?_eq_some_iff.1 ad;rw [List.getElem?_append_left cQ];exact ad
 have r:gS al S br ⟨args++List.replicate (fn.ntmps-args.length) gp,h⟩ {tmps:=dF++Array.replicate (fn.ntmps-dF.size) undef,defers:=[]} w:=by refine⟨?_,eU,sI,rfl⟩;simp only [Array.toList_append,Array.toList_replicate,hlen];exact ed.append (bH.replicate (aN.gp al) _)
 refine bb S br cJ gB al al _ w (fun i v I ac=>(eU.dD i v I ac).1) (fk.refl _ _) ⟨_,by simp,fI,r⟩ _ fun bN cG bC ap ⟨bL,a6,f1,fT⟩=> ?_
 have az:=Aj f1 ac av;obtain⟨bt,aM,aR⟩:=KP cH.hV fT az;rcases he with rfl|rfl
 ·exact⟨fT.defers,bt,aM,bt,bN,rfl,ap,aR,fT.heap,fT.below,aS⟩
 ·exact⟨fT.defers,bt,aM,bt,bN,rfl,ap,aR,fT.heap,fT.below,aS⟩
theorem eV.refl(base n:Nat)(F:bP)(h:j):eV base n F h F h:=fun S br e6 al a w bm ap r=>⟨al,ap,r⟩
theorem eV.bc{base n:Nat}{F aW:bP}{h p:j}{r:Nat→Nat}(hw:zU r p h)(a8:∀t v,hh aW t=some v→t<n∧hh F t=some (v.bc r)∧cA (In p) v)
 (ba:∀i,i<base→In h i→In p i) (bT:∀i,i<base→In p i→r i=i) (eQ:∀i,In p i→r i<base→i<base):eV base n F h aW p:=by
 intro S br e6 al a w bm ap ⟨s,aS,fI,sQ⟩;have Uo:a.tmps.toList.length=n:=by rw [sQ.fa.length];exact aS
 refine⟨iG al r p,⟨?_,?_,?_⟩,(List.range n).map (fun t=>(hh aW t).getD .undef),by simp,?_,⟨?_,sQ.heap.iG hw ?_,sQ.below,sQ.defers⟩⟩
 ·intro i v I ac;have ak:=bm i v I ac;have eo:=ap.le i v I ac;obtain⟨_,b,au,_⟩:=sQ.heap.dD i v I eo;have ij:=ba i ak (by unfold In;rw [au];rfl);rw [pY ij,bT i ak ij];exact eo
 ·intro i ak jF u;have:=ap.new i ak jF;unfold iG;split
  ·rename_i ij;rw [bT i ak ij];exact this u
  ·rfl
 ·intro i v I ac eY;obtain⟨ij,eo⟩:=lx ac;have p:=ap.ro _ _ _ eo eY;have ad:=eQ i ij (bm _ _ _ p);rw [bT i ad ij]at p;exact p
 ·intro t v bg;obtain⟨bX,_,_⟩:=a8 t v bg;simp [bX,bg]
 ·refine bH.e3 (by simp [Uo]) fun t x V ae CF=> ?_
  have bX:t<n:=by have:=(List.getElem?_eq_some_iff.1 ae).1;simpa using this
  simp only [List.getElem?_map,List.getElem?_range bX,Option.map_some,Option.some.injEq]at ae;cases az:hh aW t with
  |none=>rw [az]at ae;simp at ae;subst ae;simp [aN]
  |some v =>
   rw [az]at ae;simp at ae;subst ae;obtain⟨_,g1,g2⟩:=a8 t v az;obtain⟨afQ,bn,bs⟩:=sQ.fa.get (fI t _ g1);rw [CF]at bn;simp at bn;subst bn;exact aN.lu (fun i ak v I ac=>by rw [pY ak];exact ac) g2 bs
 ·intro i v I ac eY;obtain⟨_,eo⟩:=lx ac;obtain⟨_,B,_,_,_,_,_,_,sJ⟩:=sQ.heap.dD _ _ _ eo;exact sJ.base eY
def loops:Code→List Code
 |.seq a b=>loops a++loops b
 |.cond _ a b=>loops a++loops b
 |.block _ c=>loops c
 |.scope c=>loops c
 |.loop c=>c::loops c
 |_=> []
def Up(P:Program)(f:FuncId):Code :=
 match P.funcs[f]? with
 |some fn=>match fn.body with|some c=>c|none=> .skip
 |none=> .skip
def cF(P:Program)(f:FuncId)(k:Nat):Code:=(loops (Up P f))[k]?.getD .skip
theorem aI.bc{cf:(Nat→Prop)→World→Prop}{f:FuncId}{args:List o}{h aa ad:j}{v v2:o}{r:Nat→Nat}(k:aI P cf f args h v aa)(hw:zU r ad aa)(bg:v=v2.bc r)(hs:cA (In ad) v2)
 (ba:∀i,i<h.next→In aa i→In ad i) (bT:∀i,i<h.next→In ad i→r i=i) (eQ:∀i,In ad i→r i<h.next→i<h.next) (aS:h.next≤ad.next):aI P cf f args h v2 ad:=by
 subst bg;intro S br cJ gB al w dF eU sI ed;obtain⟨g1,g2⟩:=k S br cJ gB al w dF eU sI ed;refine⟨g1,g2.mono fun e bC ⟨bt,bN,he,nR,bg,bb,an,lA⟩=> ?_⟩;refine⟨bt,iG bN r ad,he,⟨?_,?_,?_⟩,aN.lu (fun i ak v I ac=>by rw [pY ak];exact ac) hs bg,bb.iG hw ?_,an,aS⟩
 ·intro i u I ac;have ak:=(eU.dD i u I ac).1;have eo:=nR.le i u I ac;obtain⟨_,b,au,_⟩:=bb.dD i u I eo;have ij:=ba i ak (by unfold In;rw [au];rfl);rw [pY ij,bT i ak ij];exact eo
 ·intro i ak jF u;have:=nR.new i ak jF;unfold iG;split
  ·rename_i ij;rw [bT i ak ij];exact this u
  ·rfl
 ·intro i u I ac eY;obtain⟨ij,eo⟩:=lx ac;have p:=nR.ro _ _ _ eo eY;have ad:=eQ i ij (eU.dD _ _ _ p).1;rw [bT i ad ij]at p;exact p
 ·intro i u I ac eY;obtain⟨_,eo⟩:=lx ac;obtain⟨_,B,_,_,_,_,_,_,sJ⟩:=bb.dD _ _ _ eo;exact sJ.base eY
theorem bZ.nil:bZ []:=fun I ac=>by simp at ac
theorem bZ.cons{I:Prop}{l:List Prop}(h:I)(k:bZ l):bZ (I::l):=fun q aD=>by
 rcases List.mem_cons.1 aD with rfl|aD
 ·exact h
 ·exact k q aD
theorem okF{I:Prop}[Decidable I](c:¬I):some (o.bool (decide I))=some (o.bool false):=by rw [decide_eq_false c]
def cR(v:o):Prop:=(∀r,v.bc r=v)∧cA (fun _=>False) v
theorem cR.bool(b:Bool):cR (.bool b):=⟨fun _=>rfl,trivial⟩
theorem cR.int(k:IntKind)(n:Int):cR (.int k n):=⟨fun _=>rfl,trivial⟩
theorem cR.str(s:List UInt8):cR (.str s):=⟨fun _=>rfl,trivial⟩
mutual
theorem cA.mono{D wU:Nat→Prop}(h:∀i,D i→wU i):∀{v:o},cA D v→cA wU v
 |.ptr (some a),k=>by simp only [cA]at k⊢; exact h _ k
 |.slice (some a) _ _,k=>by simp only [cA]at k⊢; exact h _ k
 |.func _ f c,k=>by simp only [cA]at k⊢; exact⟨fw.mono h k.1,fw.mono h k.2⟩
 |.iface _ v,k=>by simp only [cA]at k⊢; exact cA.mono h k
 |.agg bp,k=>by simp only [cA]at k⊢; exact fw.mono h k
 |.tuple ci,k=>by simp only [cA]at k⊢; exact fw.mono h k
 |.undef,_=>by simp [cA]
 |.bool _,_=>by simp [cA]
 |.int _ _,_=>by simp [cA]
 |.str _,_=>by simp [cA]
 |.ptr none,_=>by simp [cA]
 |.slice none _ _,_=>by simp [cA]
 |.nilFunc,_=>by simp [cA]
 |.nilIface,_=>by simp [cA]
theorem fw.mono{D wU:Nat→Prop}(h:∀i,D i→wU i):∀{l:List o},fw D l→fw wU l
 |[],_=>by simp [fw]
 |a::l,k=>by simp only [fw]at k⊢; exact⟨cA.mono h k.1,fw.mono h k.2⟩
end
theorem aI.bare{cf:(Nat→Prop)→World→Prop}[j7 cf]{f:FuncId}{args:List o}{v:o}{aa:j}(k:aI P cf f args ⟨0,.nil⟩ v aa)(aT:∀a∈args,cR a)(bg:cR v)(H:j):aI P cf f args H v H:=by
 have aM:aI P cf f args ⟨0,.nil⟩ v ⟨0,.nil⟩:=by
  refine k.bc (r:=fun i=>i) (v2:=v) ⟨?_,?_,?_⟩ (bg.1 _).symm (cA.mono (fun i ak=>ak.elim) bg.2) ?_ ?_ ?_ (Nat.le_refl _)
  ·intro i b au;cases au
  ·intro i C ak;cases ak
  ·intro i b au;cases au
  ·intro i ak;simp at ak
  ·intro i ak;simp at ak
  ·intro i ak;cases ak
 have aR:=aM.frame (r:=fun i=>H.next+i) (H:=H) (aP:=H) ⟨?_,?_,?_⟩ (q7.2 fun a hm=>cA.mono (fun i ak=>ak.elim) (aT a hm).2) (fun i _=>by simp) ?_ (by simp) (fun _ _ _=>rfl)
 ·rw [bg.1]at aR
  have:args.map (o.bc fun i=>H.next+i)=args:=by
   conv=>rhs;rw [←List.map_id args]
   exact List.map_congr_left fun a hm=>(aT a hm).1 _
  rw [this]at aR;exact aR
 ·intro i b au;cases au
 ·intro i C ak;cases ak
 ·intro i b au;cases au
 ·intro i b au;cases au
mutual
def o.nU:o→Bool
 |.ptr (some _)=>false
 |.slice (some _) _ _=>false
 |.func _ f c=>o.o3 f&&o.o3 c
 |.iface _ v=>o.nU v
 |.agg bp=>o.o3 bp
 |.tuple ci=>o.o3 ci
 |_=>true
def o.o3:List o→Bool
 |[]=>true
 |a::l=>o.nU a&&o.o3 l
end
mutual
theorem ER:∀{v:o},v.nU=true→(∀r,v.bc r=v)∧cA (fun _=>False) v
 |.ptr (some a),k=>by simp [o.nU]at k
 |.slice (some a) _ _,k=>by simp [o.nU]at k
 |.func fn f c,k=>by simp only [o.nU,Bool.and_eq_true]at k;have p:=wV k.1;have ad:=wV k.2;exact⟨fun r=>by simp only [o.bc,p.1 r,ad.1 r],by simp only [cA];exact⟨p.2,ad.2⟩⟩
 |.iface t v,k=>by simp only [o.nU]at k;have p:=ER k;exact⟨fun r=>by simp only [o.bc,p.1 r],by simp only [cA];exact p.2⟩
 |.agg bp,k=>by simp only [o.nU]at k;have p:=wV k;exact⟨fun r=>by simp only [o.bc,p.1 r],by simp only [cA];exact p.2⟩
 |.tuple ci,k=>by simp only [o.nU]at k;have p:=wV k;exact⟨fun r=>by simp only [o.bc,p.1 r],by simp only [cA];exact p.2⟩
 |.undef,_=>⟨fun _=>rfl,by simp [cA]⟩
 |.bool _,_=>⟨fun _=>rfl,by simp [cA]⟩
 |.int _ _,_=>⟨fun _=>rfl,by simp [cA]⟩
 |.str _,_=>⟨fun _=>rfl,by simp [cA]⟩
 |.ptr none,_=>⟨fun _=>rfl,by simp [cA]⟩
 |.slice none _ _,_=>⟨fun _=>rfl,by simp [cA]⟩
 |.nilFunc,_=>⟨fun _=>rfl,by simp [cA]⟩
 |.nilIface,_=>⟨fun _=>rfl,by simp [cA]⟩
theorem wV:∀{l:List o},o.o3 l=true→(∀r,o.gK r l=l)∧fw (fun _=>False) l
 |[],_=>⟨fun _=>rfl,by simp [fw]⟩
 |a::l,k=>by simp only [o.o3,Bool.and_eq_true]at k;have p:=ER k.1;have ad:=wV k.2;exact⟨fun r=>by simp only [o.gK,p.1 r,ad.1 r],by simp only [fw];exact⟨p.2,ad.2⟩⟩
end
theorem cR.of{v:o}(h:v.nU=true):cR v:=ER h
end
end
end Go.cM
