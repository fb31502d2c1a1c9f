/-
  Parts of the proof of TableFits.
-/
import Derived.Laws.IdiomCopy
import Derived.Scope
import Derived.Shelf.Strings.OnBuilder
import Derived.Shelf.Strings.Repeat
import Derived.Test.YtjpfnbihopoeeaaGreatDoorProg
import Derived.RangeFuncBox
import Derived.RangeFuncNested
import Derived.RangeFuncLeaves
import Derived.Shelf.Abstract
import Derived.WalkKit
import Derived.OwnWalkIn
import Derived.TacticsInMore
import Derived.LoopNIn
import Derived.LoopIn
import Derived.Maps.AppendAt
import Derived.Shelf.Pu.ToError
import Derived.Test.YtjpfnbihopoeeaaGreatDoorKTableFitsA
set_option maxRecDepth 1000000
set_option linter.unusedSectionVars false
set_option linter.unusedVariables false
set_option linter.unusedSimpArgs false
namespace Go.ba
noncomputable section
open Go.RowKit
def kz(P:Program)(N0:Nat→Prop)(w0:World)(call:da):Prop :=
 ∀f args h v h',call f args h=some (v,h')→ ∀(φ:Map)(w:World)(args':Array Value),ch φ N0 h w→Safe N0 w0 w→bd φ args args'.toList →
  (∃fn c,P.funcs[f]? =some fn∧fn.body=some c) ∧
  Calls P f args' w fun e aN=> ∃a8 bj,e=.returned a8∧d' φ bj h.next∧aA bj v a8∧ch bj N0 h' aN∧Safe N0 w0 aN∧h.next≤h'.next
def pv(P:Program)(C:(Nat→Prop)→World→Prop)(f:FuncId)(g:o8):Prop :=
 ∀(N0:Nat→Prop)(w0:World),dW N0 w0.heap.size→C N0 w0→ ∀args h v h',g args h=some (v,h')→ ∀(φ:Map)(w:World)(args':Array Value),ch φ N0 h w→Safe N0 w0 w→bd φ args args'.toList →
  (∃fn c,P.funcs[f]? =some fn∧fn.body=some c) ∧
  Calls P f args' w fun e aN=> ∃a8 bj,e=.returned a8∧d' φ bj h.next∧aA bj v a8∧ch bj N0 h' aN∧Safe N0 w0 aN∧h.next≤h'.next
def tU:Nat→Option (Array Value→Sem Value)
 |0=>some Extern.BytealgCount.count
 |1=>some Extern.BytealgIndexByte.indexByte
 |2=>some Extern.BytealgCompare.compare
 |_=>none
structure fh(P:Program)(E:bh):Prop where
 ga:E.D.dG P
 eqs:∀t,E.gB t=true→pg P t
 names:∀(f:Nat) fn,P.funcs[f]? =some fn→(fn.name == "runtime.NumGoroutine")=false
 w':∀(f:Nat) g,E.qj f=some g→pv P E.cond f g
 xa:∀(f:Nat) k,E.ext f=some k→ ∃fn e,P.funcs[f]? =some fn∧fn.body.isNone=true∧Extern.findNext fn=none∧Extern.find fn=some e∧tU k=some e
section
variable {P:Program}{φ:Map}{E:bh}
def eQ(P:Program)(φ:Map)(N0:Nat→Prop)(w0:World)(h:I)(nid:Nat)(v:J)(h':I)(r:Result Next):Prop :=
 (∃a8 aN bj,(r=.ok (.value a8) aN∨(r=.ok .skip aN∧a8=undef))∧fK φ bj h.next nid∧aA bj v a8∧ch bj N0 h' aN∧Safe N0 w0 aN∧h.next≤h'.next)
 ∨(∃f args aN,r=.ok (.enter f args) aN∧Calls P f args aN fun e fi=> ∃a8 bj,e=.returned a8∧fK φ bj h.next nid∧aA bj v a8∧ch bj N0 h' fi∧Safe N0 w0 fi∧h.next≤h'.next)
theorem eQ.pw{N0:Nat→Prop}{w0:World}{h:I}{nid:Nat}{v:J}{h':I}{s:Sem Value}{w:World}(k:oe P φ N0 w0 h nid v h' s w){r:Result Next}
 (aC:r=(s.run P w).andThen fun v w=> .ok (.value v) w):eQ P φ N0 w0 h nid v h' r:=by
 obtain⟨a8,aN,bj,U,ak,aP,bQ,ct,cL⟩:=k;refine .inl ⟨a8,aN,bj,.inl ?_,ak,aP,bQ,ct,by omega⟩;rw [aC,U];rfl
theorem eQ.gU{N0:Nat→Prop}{w0:World}{h:I}{nid:Nat}{v:J}{s:Sem Value}{w:World}(r0:ch φ N0 h w)(ao:Safe N0 w0 w)(k:∃a8,s.run P w=.ok a8 w∧aA φ v a8){r:Result Next}
 (aC:r=(s.run P w).andThen fun v w=> .ok (.value v) w):eQ P φ N0 w0 h nid v h r :=
 eQ.pw (oe.pure r0 ao k) aC
theorem lc.of_map{ρ:Operand→J}{ρ':Operand→Value}(b1:∀x,aA φ (ρ x) (ρ' x))(o:Option Operand):lc φ (o.map ρ) (o.map ρ'):=by
 cases o with
 |none=>trivial
 |some x=>exact b1 x
theorem tV{ρ:Operand→J}{ρ':Operand→Value}(b1:∀x,aA φ (ρ x) (ρ' x))(xs:Array Operand):bd φ (xs.toList.map ρ) (xs.map ρ').toList:=by rw [Array.toList_map];exact bd.map _ _ _ fun x _=>b1 x
theorem Lm{l:List J}(h:l.all (·.iG)=true):flat l=l:=by
 induction l with
 |nil=>rfl
 |cons a r ih =>
  simp only [List.all_cons,Bool.and_eq_true]at h;have e:a.cells=[a]:=by cases a<;>first|rfl|(simp [J.iG]at h)
  show a.cells++flat r=a::r;rw [e,ih h.2];rfl
theorem Ln{D:c5}(cp:D.dG P){N0:Nat→Prop}{h h':I}{w0 w:World}(r:ch φ N0 h w)(cS:Safe N0 w0 w){t u ty:TypeId}{s x v:J}{bm br:Value}(hs:aA φ s bm)(ab:aA φ x br)(ap:zF D t s x h=some (v,h')) :
 ∃a8 aN,(Builtin.copy_ #[t,u] ty #[bm,br]).run P w=.ok a8 aN∧aA φ v a8∧ch φ N0 h' aN∧Safe N0 w0 aN∧h'.next=h.next:=by
 unfold zF at ap;split at ap
 ·rename_i d a len cap gq n Wb aM;obtain⟨gl,w8,w9,ml,nq, -⟩:=cp.get aM;split at ap
  ·rename_i e az;rw [nq]at az;have:=jU az;subst this;split at ap
   ·rename_i b' lB b eU Lo px;obtain⟨dm,mg,eI, -, -,ee, -⟩:=cp.get eU;split at ap
    ·rename_i ar;obtain⟨bU,b8,dj,eJ,fB,fS,iu,iK,oi,ES⟩:=ar;split at ap
     ·rename_i cs eV;split at ap
      ·rename_i od;obtain⟨ET,Lp⟩:=od;simp only [Option.some.injEq,Prod.mk.injEq]at ap;obtain⟨rfl,rfl⟩:=ap;simp only [aA]at hs ab;obtain⟨xs,zp,rfl,Lq,mm,f'⟩:=hs;obtain⟨EV,EW,rfl,c3,eH,tW⟩:=ab;rcases f' with ⟨aS,_⟩|⟨f,aS,q,aw,Wc,EX,rfl⟩
       ·omega
       ·obtain⟨p,ag,hG,lH,_⟩:=tW.plain dj;rw [eJ]at hG;have Lr:¬EW=0:=by omega
        rcases lH with cl|⟨dK,rfl,me⟩
        ·exact absurd cl Lr
        ·obtain⟨news,bK,n2,b2,cY,cU⟩:=r.wX ag Lo dK iu iK;rw [Lm Lp]at bK;have tR:news.length=n:=by rw [cU,←hG,Nat.mul_one]
         rw [ES]at aw;have jx:b.cj b.ver=b.a'.length:=by simp [aJ.cj]
         have qt:a.idx<b.a'.length:=(List.getElem?_eq_some_iff.1 eV).1
         have dO:cs.length=q.es:=by obtain⟨_,c,ak,_,_,_,_,_,bZ⟩:=r.cO a.id b.ver q aw;rw [px]at ak;simp at ak;subst ak;exact(bZ.cont a.idx (.agg cs) EX (by rw [jx];exact qt) eV).1
         have pi:a.fld-1=f:=by omega
         have tX:((lB.a'.drop gq.idx).take n).length=n:=by have:=bK.length;omega
         obtain⟨k1,k2⟩:=r.store aw px oi (idx:=a.idx) (fld:=f) (e:= .agg cs) (e':= .agg (hf cs f ((lB.a'.drop gq.idx).take n))) EX eV bK b2 (by rw [tX];omega) rfl;rw [pi];refine⟨_,_,run_copy_cells w t u ty e q.bD (q.off+(a.idx-q.aB)*q.es+f) len zp (p.at gq.idx 0) n EW news ml (by rw [eI];simp [ee▸bU]) (by rw [tR];exact(Nat.min_eq_left fS).symm) ?_ (fun j ay=>(k2 j ay).1) (fun j ay=>(k2 j ay).2) b2,?_,k1,?_,rfl⟩
         ·intro j v a7;have:=n2 j v a7;cases j with
          |zero=>simpa [Place.at,Addr.add]using this
          |succ j=>simpa [Place.at,Addr.add]using this
         ·rw [tR];rfl
         ·obtain⟨_,c,ak,g3,g4,g5,g6,g7,bZ⟩:=r.cO a.id b.ver q aw;rw [px]at ak;simp at ak;subst ak;exact rS q.bD (bZ.base (g6 oi)) news _ cS
      ·cases ap
     ·cases ap
    ·cases ap
   ·cases ap
  ·cases ap
 ·cases ap
theorem Ls{D:c5}(cp:D.dG P){N0:Nat→Prop}{h h':I}{w0 w:World}(r:ch φ N0 h w)(cS:Safe N0 w0 w){t ty:TypeId}{s v:J}{bm:Value}(hs:aA φ s bm)(ap:tq D t s h=some (v,h')) :
 ∃a8 aN,(Builtin.clear_ #[t] ty #[bm]).run P w=.ok a8 aN∧aA φ v a8∧ch φ N0 h' aN∧Safe N0 w0 aN∧h'.next=h.next:=by
 unfold tq at ap;split at ap
 ·rename_i d o n c aM;obtain⟨gl,w8,w9,ml,nq, -⟩:=cp.get aM;split at ap
  ·rename_i e az;rw [nq]at az;have:=jU az;subst this;split at ap
   ·rename_i ky;subst ky;simp only [Option.some.injEq,Prod.mk.injEq]at ap;obtain⟨rfl,rfl⟩:=ap
    have dE:∃x eN,bm=.slice x 0 eN:=by
     cases o with
     |none=>simp only [aA]at hs;obtain⟨rfl,_,_⟩:=hs;exact⟨_,_,rfl⟩
     |some a=>simp only [aA]at hs;obtain⟨_,_,rfl,_⟩:=hs;exact⟨_,_,rfl⟩
    obtain⟨x,eN,rfl⟩:=dE;exact⟨.tuple #[],w,by cases x<;>simp [Builtin.clear_,run_underlying ml],by simp only [aA,bd];exact⟨#[],rfl,rfl⟩,r,cS,rfl⟩
   ·rename_i ky;split at ap
    ·rename_i a b' eU;obtain⟨dm,mg,eI, -, -,ee,wW,qC⟩:=cp.get eU;split at ap
     ·rename_i b z px cl;split at ap
      ·rename_i ar;obtain⟨bU,b8,dj,eJ,fB,fS,iu⟩:=ar;simp only [Option.some.injEq,Prod.mk.injEq]at ap;obtain⟨rfl,rfl⟩:=ap;obtain⟨eC,jb,gv⟩:=qB (P:=P) (φ:=φ) (t:=e) cp qC cl;obtain⟨f1,f2,f3⟩:=pn eJ;have wZ:eC.cells.size=dm.size:=by have:=(gv.cells f2).length;rw [Array.length_toList]at this;omega
       have tL:=Aj gv f2 (by omega:z.cells.length=dm.size) (by omega) n;have tK:∀e∈List.replicate n z,e.fits b'.kind.isAgg b'.size=true:=by intro e he;rw [List.eq_of_mem_replicate he];exact eJ
       have hD:=tL.one (Ak tK);simp only [aA]at hs;obtain⟨xs,zp,rfl,Lq,mm,f'⟩:=hs;obtain⟨p,ag,hG,lH,_⟩:=f'.plain bU;rcases lH with EY|⟨dK,rfl,me⟩
       ·omega
       ·rw [fS]at ag;have Wd:p.es=dm.size:=by omega
        obtain⟨k1,k2⟩:=r.Eg ag px fB (idx:=a.idx) (l:=List.replicate n z) dK (by simpa using iu) (by simpa using ky) (by intro e he;rw [List.eq_of_mem_replicate he];omega) tL hD;have kx:=run_storeCells_cells (P:=P) p.bD (p.off+(a.idx-p.aB)*p.es) _ 0 w (fun j ay=>(k2 j ay).1) (fun j ay=>(k2 j ay).2) hD;obtain⟨_,fZ,g3,_,_,_,g7,_,g8⟩:=r.cO a.id b.ver p ag;rw [px]at g3;simp at g3;subst g3;refine⟨.tuple #[],_,?_,by simp only [aA,bd];exact⟨#[],rfl,rfl⟩,k1,rS _ (g8.base (g7 fB)) _ _ cS,rfl⟩;have bo:p.at a.idx 0=⟨p.bD,p.off+(a.idx-p.aB)*p.es,none⟩:=by simp [Place.at]
        cases n with
        |zero=>exact absurd rfl ky
        |succ n =>
         simp only [Builtin.clear_,List.getElem?_toArray,List.getElem?_cons_zero,Sem.run_bind,Sem.run_pure,run_underlying ml,Result.andThen_ok,rU eI jb,Builtin.zeroCells,wZ];simp only [wZ]at kx;rw [bo,kx];rfl
      ·cases ap
     ·cases ap
    ·cases ap
  ·cases ap
 ·cases ap
theorem Lt(bR:fh P E){N0:Nat→Prop}{h h':I}{w0 w:World}(r:ch φ N0 h w)(cS:Safe N0 w0 w)(bA:dW N0 w0.heap.size){nid:Nat}(hid:∀v,φ nid v=none)(be:nid<h.next)
 {b:Builtin} {ts:Array TypeId} (ty:TypeId) (tY:Array Bool) {args:List J} {args':Array Value} (aW:bd φ args args'.toList) {v:J} (ap:dk E b ts args nid h=some (v,h')) :
 eQ P φ N0 w0 h nid v h' ((builtin b ts ty tY args').run P w):=by
 unfold dk at ap;split at ap
 ·split at ap
  ·rename_i x t bl;simp only [Option.map_eq_some_iff,Prod.mk.injEq]at ap;obtain⟨v1,U,rfl,rfl⟩:=ap;exact eQ.gU r cS (K8 bR.ga ty aW bl U w) (by simp [builtin])
  ·cases ap
 ·split at ap
  ·rename_i s x t u bl hu
   have az:(∃kl,E.D u=some kl∧(kl.kind matches .slice _|.string)=true∧hB E.D t s x nid h=some (v,h')):=by
    split at ap
    ·rename_i kl qE;split at ap
     ·rename_i he;exact⟨kl,qE,by simp [he],ap⟩
     ·rename_i he;exact⟨kl,qE,by simp [he],ap⟩
     ·cases ap
    ·cases ap
   obtain⟨kl,qE,EZ,ap⟩:=az;obtain⟨We,Lu,Wf,E0,Aw, -⟩:=bR.ga.get qE
   have Lv:(∃e',P.underlying u=some (.slice e'))∨P.underlying u=some .string:=by
    rw [Aw]at EZ;cases Lu<;>simp [fY]at EZ
    ·right;exact E0
    ·left;exact⟨_,E0⟩
   simp only [bd]at aW;obtain⟨bm,dt,bo,hs,br,bX,bO,ab,fR⟩:=aW;subst bO fR;have hd:args'= #[bm,br]:=by apply Array.ext';simpa using bo
   have hF:=Lb bR.ga r cS bA hid be ty hs ab Lv ap;refine eQ.pw (s:=Builtin.append_ ts ty args') (w:=w) ?_ (by simp [builtin]);obtain⟨a8,aN,bj,k1,k2⟩:=hF;refine⟨a8,aN,bj,?_,k2⟩;rw [←k1,hd];have py:ts[0]? =(#[t,u]:Array TypeId)[0]? :=by rw [bl];rfl
   have ph:ts[1]? =(#[t,u]:Array TypeId)[1]? :=by rw [hu];rfl
   simp only [Builtin.append_,py,ph]
  ·cases ap
 ·split at ap
  ·rename_i x eZ;simp only [Option.map_eq_some_iff,Prod.mk.injEq]at ap;obtain⟨v1,U,rfl,rfl⟩:=ap;exact eQ.gU r cS (KA ts ty aW U w) (by simp [builtin])
  ·cases ap
 ·split at ap
  ·rename_i x eZ;simp only [Option.map_eq_some_iff,Prod.mk.injEq]at ap;obtain⟨v1,U,rfl,rfl⟩:=ap;exact eQ.gU r cS (KB ts ty aW U w) (by simp [builtin])
  ·cases ap
 ·
   split at ap
   ·rename_i s x t u bl hu;simp only [bd]at aW;obtain⟨bm,dt,bo,hs,br,bX,bO,ab,fR⟩:=aW;subst bO fR;have hd:args'= #[bm,br]:=by apply Array.ext';simpa using bo
    obtain⟨a8,aN,k1,k2,bT,cr,c6⟩:=Ln (P:=P) (u:=u) (ty:=ty) bR.ga r cS hs ab ap;refine eQ.pw (s:=Builtin.copy_ ts ty args') (w:=w) ⟨a8,aN,φ,?_,fK.refl _ _ _,k2,bT,cr,c6⟩ (by simp [builtin]);rw [←k1,hd];have py:ts[0]? =(#[t,u]:Array TypeId)[0]? :=by rw [bl];rfl
    have ph:ts[1]? =(#[t,u]:Array TypeId)[1]? :=by rw [hu];rfl
    simp only [Builtin.copy_,py,ph]
   ·cases ap
 ·
   split at ap
   ·rename_i s t bl;simp only [bd]at aW;obtain⟨bm,dt,bo,hs,fR⟩:=aW;subst fR;have hd:args'= #[bm]:=by apply Array.ext';simpa using bo
    obtain⟨a8,aN,k1,k2,bT,cr,c6⟩:=Ls (P:=P) (ty:=ty) bR.ga r cS hs ap;refine eQ.pw (s:=Builtin.clear_ ts ty args') (w:=w) ⟨a8,aN,φ,?_,fK.refl _ _ _,k2,bT,cr,c6⟩ (by simp [builtin]);rw [←k1,hd];have py:ts[0]? =(#[t]:Array TypeId)[0]? :=by rw [bl];rfl
    simp only [Builtin.clear_,py]
   ·cases ap
 ·
   split at ap
   ·rename_i x;simp only [Option.map_eq_some_iff,Prod.mk.injEq]at ap;obtain⟨v1,U,rfl,rfl⟩:=ap;simp only [bd]at aW;obtain⟨bm,dt,bo,hs,bO⟩:=aW;subst bO;have hd:args'= #[bm]:=by apply Array.ext';simpa using bo
    subst hd;exact eQ.gU r cS (Lj (ts:=ts) (ty:=ty) hs U w) (by simp [builtin])
   ·cases ap
 ·
   split at ap
   ·rename_i p n t bl;simp only [bd]at aW;obtain⟨bm,dt,bo,hs,br,bX,bO,ab,fR⟩:=aW;subst bO fR;have hd:args'= #[bm,br]:=by apply Array.ext';simpa using bo
    subst hd;have ns:br=.int .i64 n:=by simpa only [aA]using ab
    subst ns;obtain⟨a8,aN,k1,k2,bT,cr,c6⟩:=Lk bR.ga r cS (ty:=ty) bl hs ap;exact eQ.pw (s:=Builtin.unsafeString_ ts ty #[bm,.int .i64 n]) ⟨a8,aN,φ,k1,fK.refl _ _ _,k2,bT,cr,c6⟩ (by simp [builtin])
   ·cases ap
 ·cases ap
theorem Lw(bR:fh P E){N0:Nat→Prop}{h h':I}{w0 w:World}{call:da}(eW:kz P N0 w0 call)(r:ch φ N0 h w)(cS:Safe N0 w0 w)(bA:dW N0 w0.heap.size){nid:Nat}(hid:∀v,φ nid v=none)
 (be:nid<h.next) {ρ:Operand→J} {ρ':Operand→Value} (b1:∀x,aA φ (ρ x) (ρ' x)) {o:Oper} {v:J} (ap:aV E call nid ρ h o.op=some (v,h')) :
 eQ P φ N0 w0 h nid v h' ((execOp ρ' o).run P w):=by
 unfold aV at ap;split at ap
 ·
   rename_i x e;simp only [Option.some.injEq,Prod.mk.injEq]at ap;obtain⟨rfl,rfl⟩:=ap;exact eQ.gU (s:=pure (ρ' x)) r cS ⟨_,rfl,b1 x⟩ (by simp [execOp,e])
 ·rename_i x e;simp only [Option.some.injEq,Prod.mk.injEq]at ap;obtain⟨rfl,rfl⟩:=ap;exact eQ.gU (s:=pure (ρ' x)) r cS ⟨_,rfl,b1 x⟩ (by simp [execOp,e])
 ·
   rename_i c a b e;split at ap
   ·rename_i t ar;simp only [Option.some.injEq,Prod.mk.injEq]at ap;obtain⟨rfl,rfl⟩:=ap;have U:=b1 c;rw [ar]at U;simp only [aA]at U;refine eQ.gU (s:=pure (if t then ρ' a else ρ' b)) r cS ⟨_,rfl,?_⟩ (by simp [execOp,e,U,asBool]);cases t
    ·exact b1 b
    ·exact b1 a
   ·cases ap
 ·
   rename_i t e;split at ap
   ·rename_i d aM;obtain⟨hZ,u,gR,hu,az,hs, -,cl⟩:=bR.ga.get aM;split at ap
    ·rename_i z tO;split at ap
     ·rename_i ar;simp only [Option.some.injEq,Prod.mk.injEq]at ap;obtain⟨rfl,rfl⟩:=ap;simp only [Bool.and_eq_true,decide_eq_true_eq]at ar;obtain⟨eC,jb,gv⟩:=qB (P:=P) (φ:=φ) (t:=t) bR.ga cl tO;obtain⟨aN,bj,k1,k2,bT,cr,c6⟩:=EC (P:=P) (D:=E.D) r cS bA hid be t gv ar.1 ar.2;refine .inl ⟨_,aN,bj,.inl ?_,k2,bT,cr,c6,Nat.le_refl _⟩;simp [execOp,e,Instr.alloc,rU gR jb,k1]
     ·cases ap
    ·cases ap
   ·cases ap
 ·
   rename_i t x e;split at ap
   ·rename_i d aM;split at ap
    ·rename_i ar;simp only [Option.some.injEq,Prod.mk.injEq]at ap;obtain⟨rfl,rfl⟩:=ap;simp only [Bool.and_eq_true,decide_eq_true_eq]at ar;obtain⟨aN,bj,k1,k2,bT,cr,c6⟩:=EC (P:=P) (D:=E.D) r cS bA hid be t (b1 x) ar.1 ar.2;refine .inl ⟨_,aN,bj,.inl ?_,k2,bT,cr,c6,Nat.le_refl _⟩;simp [execOp,e,Instr.box,k1]
    ·cases ap
   ·cases ap
 ·
   rename_i t parts e;simp only [Option.map_eq_some_iff,Prod.mk.injEq]at ap;obtain⟨v1,U,rfl,rfl⟩:=ap;exact eQ.gU r cS (KT bR.ga b1 U w) (by simp [execOp,e])
 ·
   rename_i t n parts e;exact eQ.pw (K2 bR.ga r cS bA hid be b1 ap) (by simp [execOp,e])
 ·
   rename_i t x e;split at ap
   ·rename_i a aW;simp only [Option.map_eq_some_iff,Prod.mk.injEq]at ap;obtain⟨v1,U,rfl,rfl⟩:=ap;exact eQ.gU r cS (EA bR.ga r (by have:=b1 x;rw [aW]at this;exact this) U) (by simp [execOp,e])
   ·cases ap
 ·
   rename_i t x y e;split at ap
   ·rename_i a aW;simp only [Option.map_eq_some_iff,Prod.mk.injEq]at ap;obtain⟨U,jN,rfl,rfl⟩:=ap;obtain⟨aN,k1,k2,bT,cr⟩:=KQ bR.ga r cS (by have:=b1 x;rw [aW]at this;exact this) (b1 y) jN;refine .inl ⟨undef,aN,φ,.inr ⟨?_,rfl⟩,fK.refl _ _ _,aA.fq φ,k2,bT,by omega⟩;simp [execOp,e,k1]
   ·cases ap
 ·
   rename_i x e;split at ap
   ·rename_i a aW;simp only [Option.some.injEq,Prod.mk.injEq]at ap;obtain⟨rfl,rfl⟩:=ap;have U:=b1 x;rw [aW]at U;have ak:=U;simp only [aA]at ak;obtain⟨eP,ak,aP⟩:=ak;exact eQ.gU (s:=pure (ρ' x)) r cS ⟨_,rfl,U⟩ (by simp [execOp,e,ak])
   ·rename_i g fs cs aW;simp only [Option.some.injEq,Prod.mk.injEq]at ap;obtain⟨rfl,rfl⟩:=ap;have U:=b1 x;rw [aW]at U;have ak:=U;simp only [aA]at ak;obtain⟨bG,eN,ak,aP,bQ⟩:=ak;exact eQ.gU (s:=pure (ρ' x)) r cS ⟨_,rfl,U⟩ (by simp [execOp,e,ak])
   ·cases ap
 ·
   rename_i op t x y ty e;simp only [Option.map_eq_some_iff,Prod.mk.injEq]at ap;obtain⟨v1,U,rfl,rfl⟩:=ap;obtain⟨a8,k1,k2,bT⟩:=Ku bR.ga bR.eqs (b1 x) (b1 y) U w;exact eQ.gU (s:=binOp op t (ρ' x) (ρ' y)) r cS ⟨a8,k2,bT⟩ (by simp [execOp,e,k1])
 ·
   rename_i op t x e;simp only [Option.map_eq_some_iff,Prod.mk.injEq]at ap;obtain⟨v1,U,rfl,rfl⟩:=ap;exact eQ.gU r cS (Kv (b1 x) U w) (by simp [execOp,e])
 ·
   rename_i s d x e;simp only [Option.map_eq_some_iff,Prod.mk.injEq]at ap;obtain⟨v1,U,rfl,rfl⟩:=ap;exact eQ.gU r cS (Kw bR.ga (b1 x) U w) (by simp [execOp,e])
 ·
   rename_i g fs cs e;simp only [Option.some.injEq,Prod.mk.injEq]at ap;obtain⟨rfl,rfl⟩:=ap;refine eQ.gU (s:=pure (.func (.func g) (fs.map ρ') (cs.map ρ'))) r cS ⟨_,rfl,?_⟩ (by simp [execOp,e,Instr.makeFunc]);simp only [aA];exact⟨_,_,rfl,tV b1 fs,tV b1 cs⟩
 ·
   rename_i t x e;split at ap
   ·rename_i d aM;obtain⟨hZ,u,gR,hu,az, -⟩:=bR.ga.get aM;split at ap
    ·cases ap
    ·rename_i Ax;simp only [Option.some.injEq,Prod.mk.injEq]at ap;obtain⟨rfl,rfl⟩:=ap;refine eQ.gU (s:=Instr.makeInterface t (ρ' x)) r cS ⟨.iface t (ρ' x),?_,by simp only [aA];exact⟨_,rfl,b1 x⟩⟩ (by simp [execOp,e]);rw [az]at Ax;simp only [Instr.makeInterface,Sem.run_bind,run_underlying hu,Result.andThen_ok];cases u<;>first|rfl|exact absurd rfl (Ax _)
   ·cases ap
 ·
   rename_i t l c e;exact eQ.pw (K5 bR.ga r cS bA hid be (b1 l) (b1 c) ap) (by simp [execOp,e])
 ·
   rename_i t x aB ac mx e;simp only [Option.map_eq_some_iff,Prod.mk.injEq]at ap;obtain⟨v1,U,rfl,rfl⟩:=ap;exact eQ.gU r cS (KL bR.ga (b1 x) (lc.of_map b1 aB) (lc.of_map b1 ac) (lc.of_map b1 mx) U w) (by simp [execOp,e])
 ·
   rename_i t x f e;simp only [Option.map_eq_some_iff,Prod.mk.injEq]at ap;obtain⟨v1,U,rfl,rfl⟩:=ap;exact eQ.gU r cS (KG bR.ga (b1 x) U w) (by simp [execOp,e])
 ·
   rename_i t x f e;simp only [Option.map_eq_some_iff,Prod.mk.injEq]at ap;obtain⟨v1,U,rfl,rfl⟩:=ap;exact eQ.gU r cS (KC bR.ga (b1 x) U w) (by simp [execOp,e])
 ·
   rename_i t x i e;simp only [Option.map_eq_some_iff,Prod.mk.injEq]at ap;obtain⟨v1,U,rfl,rfl⟩:=ap;exact eQ.gU r cS (KJ bR.ga (b1 x) (b1 i) U w) (by simp [execOp,e])
 ·
   rename_i t x i e;simp only [Option.map_eq_some_iff,Prod.mk.injEq]at ap;obtain⟨v1,U,rfl,rfl⟩:=ap;exact eQ.gU r cS (KD bR.ga (b1 x) (b1 i) U w) (by simp [execOp,e])
 ·
   rename_i x i e;split at ap
   ·rename_i vs a7;simp only [Option.map_eq_some_iff,Prod.mk.injEq]at ap;obtain⟨v1,U,rfl,rfl⟩:=ap;exact eQ.gU r cS (KF (by have:=b1 x;rw [a7]at this;exact this) U w) (by simp [execOp,e])
   ·cases ap
 ·
   rename_i c e;split at ap
   ·rename_i f aS;unfold l7 at ap;split at ap
    ·rename_i g first captured Ay
     have U:=b1 f;rw [Ay]at U;simp only [aA]at U;obtain⟨bG,eN,U,lI,Lx⟩:=U
     have hd:bd φ (first++c.args.toList.map ρ++captured) (bG++c.args.map ρ'++eN).toList:=by simp only [Array.toList_append];exact(lI.append (tV b1 c.args)).append Lx
     obtain⟨⟨fn,body,o1,xb⟩,dO⟩:=eW _ _ _ _ _ ap φ w _ r cS hd;refine .inr ⟨g,bG++c.args.map ρ'++eN,w,?_,dO.mono ?_⟩
     ·have Ly:¬fn.name= "runtime.NumGoroutine" :=by simpa using bR.names g fn o1
      simp [execOp,e,resolve,aS,U,Deferred.ofValue,invoke,callFunc,o1,Ly,xb]
     ·rintro e' fi ⟨a8,bj,k1,k2,cr,c6,ev,kA⟩;exact⟨a8,bj,k1,⟨k2.le,fun i ac _ lg=>k2.new i ac lg,k2.ro⟩,cr,c6,ev,kA⟩
    ·cases ap
   ·rename_i b aS;have he:∃tY,(execOp ρ' o).run P w=(builtin b c.argTypes o.type tY (c.args.map ρ')).run P w:=⟨_,by simp [execOp,e,resolve,aS,invoke];rfl⟩
    obtain⟨tY,he⟩:=he;rw [he];exact Lt bR r cS bA hid be o.type tY (tV b1 c.args) ap
   ·cases ap
 ·cases ap
theorem E1:∀(h2:List Int)(r:ByteArray),(h2.foldl (fun r n=>r.push (UInt8.ofNat n.toNat)) r).data.toList=r.data.toList++h2.map (fun n=>UInt8.ofNat n.toNat)
 |[],r=>by simp
 |n::l,r=>by simp only [List.foldl_cons,List.map_cons];rw [E1 l];simp [ByteArray.push]
theorem tZ(w:World)(a:Addr)(k:Nat):(w.freeze a 1).heap[k]? =if a.block=k then(w.heap[k]?).map fun o=>match o with
 |.cells c elem (aB,ac)=> .cells c elem (if aB == ac then(a.off,a.off+1)else(min aB a.off,max ac (a.off+1)))
 |o=>o else w.heap[k]? :=by
 unfold World.freeze;rw [if_neg (by decide)];simp only [Array.getElem?_modify];rfl
theorem E2(w:World)(a x:Addr):(w.freeze a 1).cell? x=w.cell? x:=by
 unfold World.cell?;rw [tZ];by_cases h:a.block=x.block
 ·rw [if_pos h];cases ck:w.heap[x.block]? with
  |none=>rfl
  |some o =>
   cases o;case cells c t f=>obtain⟨aB,ac⟩:=f;rfl
   all_goals rfl
 ·rw [if_neg h]
theorem jS.freeze{w:World}{a:Addr}{n:Nat}(be:∃t aB ac,eF w a.block=some (t,n,aB,ac)∧(aB=ac∨n≤aB))(aW:a.off=n){k:Nat}(h:jS w k):jS (w.freeze a 1) k:=by
 by_cases e:a.block=k
 ·subst e;obtain⟨mn,aB,ac,U,ak⟩:=be;unfold jS eF;rw [tZ,if_pos rfl];unfold eF at U;cases ck:w.heap[a.block]? with
  |none=>rw [ck]at U;cases U
  |some o =>
   rw [ck]at U;cases o
   case cells c t f =>
    obtain⟨gS,du⟩:=f;simp only [Option.some.injEq,Prod.mk.injEq]at U;obtain⟨rfl,rfl,rfl,rfl⟩:=U;simp only [Option.map_some];by_cases aF:gS=du
    ·refine⟨t,c.size,a.off,a.off+1,by simp [aF],.inr (by omega)⟩
    ·refine⟨t,c.size,min gS a.off,max du (a.off+1),by simp [aF],.inr ?_⟩;rcases ak with ak|ak
     ·exact absurd ak aF
     ·omega
   all_goals cases U
 ·exact h.of_eq (qp (by rw [tZ,if_neg e]))
theorem jS.free{w:World}{b o:Nat}(h:jS w b)(ar:(w.cell? ⟨b,o,none⟩).isSome=true):w.frozen? ⟨b,o,none⟩=false:=by
 obtain⟨mn,n,aB,ac,U,ak⟩:=h;unfold eF at U;unfold World.cell? at ar;unfold World.frozen?;simp only at ar⊢;cases ck:w.heap[b]? with
 |none=>simp [ck]at U
 |some mj =>
  rw [ck]at U ar;cases mj
  case cells c t f =>
   obtain⟨gS,du⟩:=f;simp only [Option.some.injEq,Prod.mk.injEq]at U;obtain⟨rfl,rfl,rfl,rfl⟩:=U;simp only [Option.isSome_none,Bool.false_eq_true,if_false]at ar
   have ap:o<c.size:=by
    rcases Nat.lt_or_ge o c.size with h|h
    ·exact h
    ·rw [Array.getElem?_eq_none h]at ar;cases ar
   simp;omega
  all_goals cases U
theorem Lz{w:World}{a:Addr}{k:Nat}{t:TypeId}{n aB ac:Nat}(h:eF w k=some (t,n,aB,ac)):∃aB ac,eF (w.freeze a 1) k=some (t,n,aB,ac):=by
 unfold eF at h⊢;rw [tZ];by_cases e:a.block=k
 ·rw [if_pos e];cases ck:w.heap[k]? with
  |none=>rw [ck]at h;cases h
  |some o =>
   rw [ck]at h;cases o
   case cells c e1 f =>
    obtain⟨gS,du⟩:=f;simp only [Option.some.injEq,Prod.mk.injEq]at h;obtain⟨rfl,rfl,rfl,rfl⟩:=h;simp only [Option.map_some];by_cases aF:gS=du
    ·exact⟨a.off,a.off+1,by simp [aF]⟩
    ·exact⟨min gS a.off,max du (a.off+1),by simp [aF]⟩
   all_goals cases h
 ·rw [if_neg e];exact⟨aB,ac,h⟩
theorem ch.freeze{N0:Nat→Prop}{h:I}{w:World}(r:ch φ N0 h w){a:Addr}{n:Nat}(be:∃t aB ac,eF w a.block=some (t,n,aB,ac)∧(aB=ac∨n≤aB))(aW:a.off=n):ch φ N0 h (w.freeze a 1) where
 cO i v p ag:=by
  obtain⟨U,b,ak,aP,bQ,ct,cL,eT,bZ⟩:=r.cO i v p ag;have hm:b.ro=false→jS (w.freeze a 1) p.bD:=fun aC=>(bZ.mark aC).freeze be aW
  have dO:∀o,o<p.tot*p.es→((w.freeze a 1).cell? ⟨p.bD,p.off+o,none⟩).isSome=true:=fun o ap=>by rw [E2];exact bZ.cells o ap
  refine⟨U,b,ak,aP,bQ,ct,cL,eT,⟨?_,bZ.base,dO,fun aC o ap=>(hm aC).free (dO o ap),hm,fun t9 eB=>(by obtain⟨w6,Lg,i9,Aq,Ar,As⟩:=bZ.hW t9 eB;obtain⟨At,i8,tS⟩:=Lz (a:=a) Aq;exact⟨w6,At,i8,tS,Ar,As⟩),fun i e g1 g2 g3=> ?_⟩⟩
  ·have:=bZ.bD;unfold World.freeze;rw [if_neg (by decide)];simpa using this
  ·obtain⟨cC,ci,gI⟩:=bZ.cont i e g1 g2 g3
   exact⟨cC,ci,fun j br ab=>by
    obtain⟨x,gw,gk⟩:=gI j br ab
    exact⟨x,by rw [E2];exact gw,gk⟩⟩
 apart:=r.apart
 same:=r.same
theorem Safe.freeze{S:Nat→Prop}{a w:World}(h:Safe S a w){p:Addr}(ag:¬S p.block):Safe S a (w.freeze p 1) :=
 h.trans ⟨by unfold World.freeze;rw [if_neg (by decide)],by unfold World.freeze;rw [if_neg (by decide)],by unfold World.freeze;rw [if_neg (by decide)],by unfold World.freeze;rw [if_neg (by decide)];simp,fun k az=>by
  have cg:¬p.block=k:=fun e=>ag (by rw [e];exact az)
  rw [tZ,if_neg cg]⟩
theorem LA(w:World)(s e:TypeId)(x:Addr)(n c:Nat)(hs:P.underlying s=some (.slice e))(he:P.underlying e=some (.int .u8)){mn:TypeId}{m aB ac:Nat}(hm:eF w x.block=some (mn,m,aB,ac)) :
 (convert s s (.slice (some x) n c)).run P w=.ok (.slice (some x) n c) (w.freeze ⟨x.block,m,none⟩ 1):=by
 unfold eF at hm;cases ck:w.heap[x.block]? with
 |none=>rw [ck]at hm;cases hm
 |some o =>
  rw [ck]at hm;cases o
  case cells cc t f =>
   obtain⟨gS,du⟩:=f;simp only [Option.some.injEq,Prod.mk.injEq]at hm;obtain⟨rfl,rfl,rfl,rfl⟩:=hm;have Az:w.shape? x.block=some (t,cc.size):=by unfold World.shape?;rw [ck]
   simp [convert,run_underlying hs,run_underlying he,markStringish,Az]
  all_goals cases hm
theorem LB{D:c5}(cp:D.dG P){N0:Nat→Prop}{h h':I}{w0 w:World}(r:ch φ N0 h w)(cS:Safe N0 w0 w)(bA:dW N0 w0.heap.size){nid:Nat}(hid:∀v,φ nid v=none)(be:nid<h.next)
 {s d:TypeId} {x v:J} {br:Value} (ab:aA φ x br) (ap:tr D s d x nid h=some (v,h')):oe P φ N0 w0 h nid v h' (convert s d br) w:=by
 unfold tr at ap;split at ap
 ·rename_i l8 dd lJ AA t';obtain⟨li,LC,AB,r6,pz, -, -⟩:=cp.get AA;obtain⟨gl,w8,w9,ml,nq, -, -⟩:=cp.get t';split at ap
  ·rename_i e eA he;rw [pz]at eA;rw [nq]at he;have:=pf eA;subst this;have:=jU he;subst this;split at ap
   ·rename_i hA n';obtain⟨rW,ph,nk,oa,kv, -, -⟩:=cp.get n';split at ap
    ·rename_i az;rw [kv]at az;have:=tC az;subst this;simp only [Option.some.injEq,Prod.mk.injEq]at ap;obtain⟨rfl,rfl⟩:=ap;simp only [aA]at ab;obtain⟨t,rfl,rfl⟩:=ab;have gT:=Go.run_bytes_of_string (P:=P) w s d e t r6 ml oa;have hh:t.size≤grownCap w t.size 0 e:=grownCap_ge w t.size 0 e;have di:(bytesRow t (grownCap w t.size 0 e)).size=grownCap w t.size 0 e:=by simp [bytesRow];omega
     have hlen:(t.data.toList.map fun b=>J.int .u8 b.toNat).length=t.size:=by rw [List.length_map,Array.length_toList];rfl
     have E3:t.data.toList.length=t.size:=by rw [Array.length_toList];rfl
     have iJ:dW N0 w.heap.size:=bA.le cS.size;refine⟨_,_,φ.add nid 0 ⟨w.heap.size,0,0,1,grownCap w t.size 0 e,false,false⟩,gT,fK.add φ _ (hid 0) _,?_,?_,cS.drew.alloc (by simpa using iJ) _,rfl⟩
     ·rw [E3];exact aA.ii (ex:=false) (Nat.le_refl _) hh (Nat.le_refl _) (by simp)
     ·have LD:flat (t.data.toList.map fun b=>J.int .u8 b.toNat)=t.data.toList.map fun b=>J.int .u8 b.toNat:=by
       generalize t.data.toList=l;induction l with
       |nil=>rfl
       |cons a r ih=>simp only [List.map_cons,flat,List.flatMap_cons,J.cells]at ih⊢; rw [ih];rfl
      have E4:(bytesRow t (grownCap w t.size 0 e)).toList.take ((t.data.toList.map fun b=>J.int .u8 b.toNat).length*1)=t.data.toList.map fun b=>Value.int .u8 b.toNat:=by rw [hlen,Nat.mul_one];simp [bytesRow,List.take_append,E3]
      refine(r.alike (Alike.tN w)).Ke hid be (by simpa using iJ) (Nat.one_pos) ?_ ?_ (by rw [di];simp) (by rw [hlen];exact hh) ?_ ?_ nofun
      ·intro e he;obtain⟨b,_,rfl⟩:=List.mem_map.1 he;rfl
      ·rw [E4,LD];exact bd.map _ _ _ fun b _=>by simp only [aA]
      ·rw [E4];intro u hu;obtain⟨_,_,rfl⟩:=List.mem_map.1 hu;rfl
      ·exact .inr (Nat.le_refl _)
    ·cases ap
   ·cases ap
  ·cases ap
 ·rename_i l8 dd a n c AA t';obtain⟨li,LC,AB,r6,pz, -, -⟩:=cp.get AA;obtain⟨gl,w8,w9,ml,nq, -, -⟩:=cp.get t';split at ap
  ·rename_i e e' qf qF;rw [pz]at qf;rw [nq]at qF;have:=jU qf;subst this;have:=jU qF;subst this;split at ap
   ·rename_i hA qk n';obtain⟨rW,ph,nk,oa,kv, -, -⟩:=cp.get n';split at ap
    ·rename_i b az ao;rw [kv]at az;have:=tC az;subst this;split at ap
     ·rename_i ar;obtain⟨rfl,dD,aS,jA⟩:=ar;simp only [Option.some.injEq,Prod.mk.injEq]at ap;obtain⟨rfl,rfl⟩:=ap;have pr:=ab;simp only [aA]at ab;obtain⟨eP,cH,rfl,dt,bX,f'⟩:=ab;obtain⟨p,ag,h1,ir,hex⟩:=f'.plain aS;obtain⟨g1,fZ,g2,g3,g4,g5,g6,g7,g8⟩:=r.cO _ _ _ ag;rw [ao]at g2;simp at g2;subst g2;have r7:b.ro=false:=dD;rcases ir with bt|⟨dK,rfl,k6⟩
      ·omega
      ·obtain⟨mn,m,aB,ac,m1,m2⟩:=g8.mark r7;exact⟨_,_,φ,LA w s e (p.at qk.idx 0) n cH r6 oa m1,fK.refl _ _ _,pr,r.freeze (a:=⟨p.bD,m,none⟩) ⟨mn,aB,ac,m1,m2⟩ rfl,cS.freeze (g8.base (g6 r7)),rfl⟩
     ·cases ap
    ·cases ap
   ·cases ap
  ·rename_i e qf qF;rw [pz]at qf;rw [nq]at qF;have:=jU qf;subst this;have:=pf qF;subst this;split at ap
   ·rename_i hA n';obtain⟨rW,ph,nk,oa,kv, -, -⟩:=cp.get n';split at ap
    ·rename_i az;rw [kv]at az;have:=tC az;subst this;split at ap
     ·rename_i l aF;cases ao:bytesOf l with
      |none=>rw [ao]at ap;cases ap
      |some q =>
       rw [ao]at ap;simp only [Option.map_some,Option.some.injEq,Prod.mk.injEq]at ap;obtain⟨rfl,rfl⟩:=ap;obtain⟨news,src,oh,eV⟩:=wY (P:=P) (tx:=s) r ab aF (Nat.one_pos) (.inl ⟨e,r6⟩);obtain⟨h2,bo,bO⟩:=EP ao oh;refine oe.pure r cS ?_;cases a with
       |none =>
        simp only [aA]at ab;obtain⟨rfl,_,_⟩:=ab;have bt:=src.cells;refine⟨.string .empty,?_,?_⟩
        ·rw [run_convert_bytes_string w s d e none 0 0 r6 oa ml];rfl
        ·simp only [aA];refine⟨_,rfl,?_⟩
         have pe:l=[]:=by have:=src.len w;simp [Builtin.lenOf]at this;exact List.length_eq_zero_iff.1 this.symm
         subst pe;simp [bytesOf]at ao;subst ao;rfl
       |some a =>
        simp only [aA]at ab;obtain⟨eP,cH,rfl,dt,bX,f'⟩:=ab
        have pk:l.length=n:=by have:=src.len w;simp [Builtin.lenOf]at this;exact this.symm
        have bt:=src.cells;rw [pk]at bt
        have LF:(loadCells eP n).run P w=.ok (h2.map (Value.int .u8)).toArray w:=by rw [bo]at bt;simpa [Builtin.firstCells]using bt
        refine⟨_,by rw [run_convert_bytes_string w s d e (some eP) n cH r6 oa ml];exact run_bytesToString w eP n cH h2 LF,?_⟩;simp only [aA];refine⟨_,rfl,?_⟩;rw [E1,bO];rfl
     ·cases ap
    ·cases ap
   ·cases ap
  ·cases ap
 ·cases ap
theorem LG{k:Nat}{args:List J}{args':Array Value}(aW:bd φ args args'.toList){v:J}(h:zG k args=some v){xc:Array Value→Sem Value}(he:tU k=some xc)(w:World) :
 ∃a8,(xc args').run P w=.ok a8 w∧aA φ v a8:=by
 unfold zG at h;split at h
 ·rename_i s c;obtain⟨l⟩:=args';simp only [bd]at aW;obtain⟨a,t,rfl,oj,b,u,rfl,iI,rfl⟩:=aW;simp only [aA]at oj iI;obtain⟨e1,rfl,rfl⟩:=oj;subst iI;split at h
  ·simp only [Option.some.injEq]at h;subst h;simp only [tU,Option.some.injEq]at he;subst he;exact⟨_,Go.Lib.run_countString e1 c w,by simp only [aA]⟩
  ·simp only [Option.some.injEq]at h;subst h;simp only [tU,Option.some.injEq]at he;subst he;exact⟨_,Go.Lib.run_indexByteString e1 c w,by simp only [aA]⟩
  ·cases h
 ·rename_i s s2;obtain⟨l⟩:=args';simp only [bd]at aW;obtain⟨a,t,rfl,oj,b,u,rfl,iI,rfl⟩:=aW;simp only [aA]at oj iI;obtain⟨e1,rfl,rfl⟩:=oj;obtain⟨qz,rfl,rfl⟩:=iI;split at h
  ·rename_i az;subst az;simp only [Option.some.injEq]at h;subst h;simp only [tU,Option.some.injEq]at he;subst he;exact⟨_,Go.Lib.run_compareString e1 qz w,by simp only [aA]⟩
  ·cases h
 ·cases h
theorem LH(bR:fh P E){N0:Nat→Prop}{h h':I}{w0 w:World}{call:da}(eW:kz P N0 w0 call)(r:ch φ N0 h w)(cS:Safe N0 w0 w)(bA:dW N0 w0.heap.size){nid:Nat}(hid:∀v,φ nid v=none)
 (be:nid<h.next) {ρ:Operand→J} {ρ':Operand→Value} (b1:∀x,aA φ (ρ x) (ρ' x)) {o:Oper} {v:J} (ap:ik E call nid ρ h o.op=some (v,h')) :
 eQ P φ N0 w0 h nid v h' ((execOp ρ' o).run P w):=by
 unfold ik at ap;split at ap
 ·rename_i r0 bt;simp only [Option.some.injEq]at ap;subst ap;exact Lw bR eW r cS bA hid be b1 bt
 ·unfold gD at ap;split at ap
  ·rename_i s d x e;exact eQ.pw (LB bR.ga r cS bA hid be (b1 x) ap) (by simp [execOp,e])
  ·rename_i c e;split at ap
   ·rename_i f aS;split at ap
    ·rename_i g Ay;split at ap
     ·rename_i k az;simp only [Option.map_eq_some_iff,Prod.mk.injEq]at ap;obtain⟨v1,U,rfl,rfl⟩:=ap;obtain⟨fn,xc,cf,cu,hH,xd,dY⟩:=bR.xa g k az;have a7:=b1 f;rw [Ay]at a7;simp only [aA,bd]at a7;obtain⟨bG,eN,kZ,rZ,E5⟩:=a7;have LI:bG= #[]:=by cases bG;simp at rZ;subst rZ;rfl
      have LJ:eN= #[]:=by cases eN;simp at E5;subst E5;rfl
      subst LI;subst LJ;have hd:=tV b1 c.args;have jY:=LG (P:=P) hd U dY w;refine eQ.gU (s:=xc (c.args.map ρ')) r cS jY ?_;have gT:=run_callFunc_extern cf (bR.names g fn cf) cu hH xd (c.args.map ρ') w;rw [←gT];simp [execOp,e,resolve,aS,kZ,Deferred.ofValue,invoke]
     ·cases ap
    ·cases ap
   ·cases ap
  ·cases ap
theorem LK(bR:fh P E){N0:Nat→Prop}{h h':I}{w0 w:World}{call:da}(eW:kz P N0 w0 call)(r:ch φ N0 h w)(cS:Safe N0 w0 w)(bA:dW N0 w0.heap.size){nid:Nat}(hid:∀v,φ nid v=none)
 (be:nid<h.next) {ρ:Operand→J} {a:Act} (b1:∀x,aA φ (ρ x) (a.eval x)) {o:Oper} {v:J} (ap:ik E call nid ρ h o.op=some (v,h')) {next:Act→World→Prop} {Q:Exit→Act→World→Prop}
 (az:∀a8 aN bj,fK φ bj h.next nid→aA bj v a8→ch bj N0 h' aN→Safe N0 w0 aN→h.next≤h'.next→next (a.put o.dst a8) aN):o.wp P a w next Q:=by
 unfold Oper.wp;rcases LH bR eW r cS bA hid be b1 ap with ⟨a8,aN,bj,aC,k2,bT,cr,c6,ev⟩|⟨f,args,aN,aC,ar⟩
 ·rcases aC with aC|⟨aC,rfl⟩
  ·rw [aC];exact az _ _ _ k2 bT cr c6 ev
  ·rw [aC];exact az _ _ _ k2 bT cr c6 ev
 ·rw [aC]
  exact ar.mono fun e fi ⟨a8,bj,k1,k2,bT,cr,c6,ev⟩=>by subst k1;exact az _ _ _ k2 bT cr c6 ev
end
end
end Go.ba
namespace Go.ba
noncomputable section
open Go.RowKit
structure fj(φ:Map)(N0:Nat→Prop)(w0:World)(s:eu)(a:Act)(w:World):Prop where
 ef:bd φ s.ef a.tmps.toList
 heap:ch φ N0 s.heap w
 below:Safe N0 w0 w
 defers:a.defers=[]
section
variable {P:Program}{φ:Map}{E:bh}
theorem bd.AC{l:List J}{t:Array Value}(h:bd φ l t.toList)(i:Nat):aA φ (l.getD i .undef) (t.getD i undef):=by
 have ak:t.getD i undef=t.toList.getD i undef:=by simp [Array.getD_eq_getD_getElem?,List.getD_eq_getElem?_getD]
 rw [ak];exact h.getD i
theorem fj.eval{N0:Nat→Prop}{w0 w:World}{s:eu}{a:Act}(r:fj φ N0 w0 s a w)(x:Operand):aA φ (cK s.ef x) (a.eval x):=by
 cases x with
 |tmp t=>exact r.ef.AC t
 |const v=>exact Eb φ v
 |global g=>simp [cK,aA]
 |func f=>simp only [cK,aA];exact⟨#[],#[],rfl,by simp [bd],by simp [bd]⟩
theorem E6{s:List J}{a:Act}(h:bd φ s a.tmps.toList)(dst:Option Tmp){v:J}{a8:Value}(a7:aA φ v a8):bd φ (gE s dst v) (a.put dst a8).tmps.toList:=by
 cases dst with
 |none=>exact h
 |some d =>
  simp only [gE,Act.put,Array.toList_setIfInBounds];exact h.set d a7
theorem put_defers(a:Act)(dst:Option Tmp)(v:Value):(a.put dst v).defers=a.defers:=by cases dst<;>rfl
theorem E7{s:List J}{a:Act}(h:bd φ s a.tmps.toList){ops:Array Oper}{o:Oper}{b:Bool}(hw:il ops s o=some b):Region.wanted o (yielded ops a.tmps)=b:=by
 unfold il at hw;unfold Region.wanted;split at hw
 ·rename_i e;simp at hw;subst hw;simp [e]
 ·rename_i j want e;rw [e];simp only;split at hw
  ·rename_i d aM;unfold yielded;rw [aM];simp only [Option.bind_some];split at hw
   ·rename_i c ar;simp at hw;subst hw;obtain⟨v,a7,dR⟩:=h.get ar;simp only [aA]at dR;subst dR;have AD:a.tmps[d]? =some (.bool c):=by simpa using a7
    rw [AD];cases c<;>cases want<;>rfl
   ·rename_i ar;simp at hw;subst hw;obtain⟨v,a7,dR⟩:=h.get ar;simp only [aA]at dR;obtain⟨xs,rfl,_⟩:=dR;have AD:a.tmps[d]? =some (.tuple xs):=by simpa using a7
    rw [AD];cases want<;>rfl
   ·cases hw
  ·cases hw
theorem E8(bR:fh P E){N0:Nat→Prop}{w0 w:World}(bA:dW N0 w0.heap.size){call:da}(eW:kz P N0 w0 call){ops:Array Oper}{aD i:Nat}{s bm:eu}{a:Act}(r:fj φ N0 w0 s a w)
 (hid:aD+i<s.heap.next∧∀v,φ (aD+i) v=none) (h:o' E call ops aD i s=some bm) {K:Act→World→Prop} {Q:Exit→Act→World→Prop}
 (az:∀bN aN bj,fK φ bj s.heap.next (aD+i)→fj bj N0 w0 bm bN aN→s.heap.next≤bm.heap.next→K bN aN):wpOp P ops Q i K a w:=by
 unfold o' at h;unfold wpOp;split at h
 ·rename_i ap;simp at h;subst h;rw [ap];exact az a w φ (fK.refl _ _ _) r (Nat.le_refl _)
 ·rename_i o ap;rw [ap];split at h
  ·rename_i hw;have qG:=E7 r.ef hw;split at h
   ·rename_i v ag jz;simp at h;subst h;simp only [qG,if_true];left;refine LK bR eW r.heap r.below bA hid.2 hid.1 r.eval jz fun a8 aN bj U ak aP bQ ct=> ?_
    refine az _ aN bj U ⟨?_,aP,bQ,by rw [put_defers];exact r.defers⟩ ct;exact E6 (r.ef.mono U.le) _ ak
   ·cases h
  ·rename_i hw;have qG:=E7 r.ef hw;simp at h;subst h;simp only [qG,Bool.false_eq_true,if_false];exact az _ w φ (fK.refl _ _ _) ⟨E6 r.ef _ (aA.fq φ),r.heap,r.below,by rw [put_defers];exact r.defers⟩ (Nat.le_refl _)
  ·cases h
theorem E9(bR:fh P E){N0:Nat→Prop}{w0:World}(bA:dW N0 w0.heap.size){call:da}(eW:kz P N0 w0 call){ops:Array Oper}{aD:Nat}{Q:Exit→Act→World→Prop} :
 ∀{l:List Nat}{s bm:eu}{a:Act}{w:World}{φ:Map},ni E call ops aD l s=some bm→fj φ N0 w0 s a w→l.Nodup→(∀j∈l,aD+j<s.heap.next∧∀v,φ (aD+j) v=none) →
  (∀bN aN bj,d' φ bj aD→fj bj N0 w0 bm bN aN→s.heap.next≤bm.heap.next→Q .normal bN aN)→wpOps P ops Q l a w
 |[],s,bm,a,w,φ,h,r,_,_,az=>by simp [ni]at h;subst h;simp only [wpOps];exact az a w φ (d'.refl _ _) r (Nat.le_refl _)
 |i ::rest,s,bm,a,w,φ,h,r,gi,hid,az=>by
  simp only [ni]at h;split at h
  ·rename_i s1 U;rw [wpOps_cons];have E':=List.nodup_cons.1 gi;refine E8 bR bA eW r (hid i (by simp)) U fun bN aN bj ab eZ hle=> ?_
   refine E9 bR bA eW h eZ E'.2 (fun j ay=> ?_) fun qH fi qI AE AF LL=> ?_
   ·have nt : aD + j ≠ aD + i := by intro e;have:j=i:=by omega
                                    subst this;exact E'.1 ay
    obtain⟨g1,g2⟩:=hid j (by simp [ay]);exact⟨by omega,ab.new _ g1 nt g2⟩
   ·refine az _ _ _ (d'.trans ⟨ab.le,fun k r1 lg=>ab.new k ?_ (by omega) lg,ab.ro⟩ AE) AF (by omega);have:=(hid i (by simp)).1;omega
  ·cases h
end
end
end Go.ba
namespace Go.ba
noncomputable section
open Go.RowKit
mutual
theorem J.ua:∀{a b:J},J.same a b=true→a=b:=by
 intro a b h
 cases a<;>cases b<;>simp only [J.same,Bool.false_eq_true,Bool.and_eq_true,beq_iff_eq,decide_eq_true_eq]at h <;>
  first
   |rfl
   |(subst h;rfl)
   |(obtain⟨rfl,rfl⟩:=h;rfl)
   |(obtain⟨⟨rfl,rfl⟩,rfl⟩:=h;rfl)
   |(obtain⟨⟨rfl,U⟩,ak⟩:=h;rw [J.qJ U,J.qJ ak])
   |(obtain⟨rfl,U⟩:=h;rw [J.ua U])
   |(rw [J.qJ h])
theorem J.qJ:∀{a b:List J},J.lC a b=true→a=b:=by
 intro a b h;cases a<;>cases b<;>simp only [J.lC,Bool.false_eq_true,Bool.and_eq_true]at h
 ·rfl
 ·obtain⟨U,ak⟩:=h;rw [J.ua U,J.qJ ak]
end
theorem aJ.ua{a b:aJ}(h:aJ.same a b=true):a=b:=by cases a;cases b;simp only [aJ.same,Bool.and_eq_true,beq_iff_eq]at h;obtain⟨⟨⟨⟨⟨⟨⟨U,ak⟩,aP⟩,bQ⟩,ct⟩,cL⟩,eT⟩,bZ⟩:=h;rw [J.qJ U,ak,aP,bQ,ct,cL,eT,bZ]
mutual
theorem J.xe:∀(a:J),J.same a a=true
 |.undef=>rfl
 |.bool _=>by simp [J.same]
 |.int _ _=>by simp [J.same]
 |.str _=>by simp [J.same]
 |.ptr _=>by simp [J.same]
 |.slice _ _ _=>by simp [J.same]
 |.func _ f c=>by simp [J.same,J.r8 f,J.r8 c]
 |.nilFunc=>rfl
 |.iface _ v=>by simp [J.same,J.xe v]
 |.nilIface=>rfl
 |.agg l=>by simp [J.same,J.r8 l]
 |.tuple l=>by simp [J.same,J.r8 l]
theorem J.r8:∀(l:List J),J.lC l l=true
 |[]=>rfl
 |a::r=>by simp [J.lC,J.xe a,J.r8 r]
end
theorem aJ.xe(a:aJ):aJ.same a a=true:=by simp [aJ.same,J.r8]
theorem Fa{cj:Nat}{h h':I}(k:n6 cj h h'=true){i:Nat}(ac:i<cj):h'.get i=h.get i :=
 aK.zw (fun _ _=>aJ.ua) cj h'.aj h.aj 0 1 k i (by omega)
theorem AG{cj:Nat}{h h':I}(k:∀i,i<cj→h'.get i=h.get i):n6 cj h h'=true :=
 aK.zx aJ.xe cj h'.aj h.aj 0 1 fun i ac=>k i (by omega)
section
variable {E:bh}{call:da}
theorem mo{nid:Nat}{ρ:Operand→J}{h U:I}{o:Op}{v:J}(ar:cX o=.pure)(ap:aV E call nid ρ h o=some (v,U)) :
 U=h∧∀(nu:Nat)(h':I),aV E call nu ρ h' o=some (v,h'):=by
 cases o<;>simp only [cX,reduceCtorEq]at ar<;>simp only [aV]at ap⊢ <;>
  first
   |(simp only [Option.map_eq_some_iff,Prod.mk.injEq,Option.some.injEq]at ap
     obtain⟨v1,a7,rfl,rfl⟩:=ap
     exact⟨rfl,fun _ _=>by rw [a7];rfl⟩)
   |(simp only [Prod.mk.injEq,Option.some.injEq]at ap
     obtain⟨rfl,rfl⟩:=ap
     exact⟨rfl,fun _ _=>rfl⟩)
   |skip
 ·split at ap
  ·rename_i t bl;simp only [Prod.mk.injEq,Option.some.injEq]at ap;obtain⟨rfl,rfl⟩:=ap;exact⟨rfl,fun _ _=>by simp only [bl]⟩
  ·cases ap
 ·split at ap
  ·rename_i a aW;simp only [Prod.mk.injEq,Option.some.injEq]at ap;obtain⟨rfl,rfl⟩:=ap;exact⟨rfl,fun _ _=>by simp only [aW]⟩
  ·rename_i g fs cs aW;simp only [Prod.mk.injEq,Option.some.injEq]at ap;obtain⟨rfl,rfl⟩:=ap;exact⟨rfl,fun _ _=>by simp only [aW]⟩
  ·cases ap
 ·split at ap
  ·rename_i d aM;split at ap
   ·cases ap
   ·rename_i Ax;simp only [Prod.mk.injEq,Option.some.injEq]at ap;obtain⟨rfl,rfl⟩:=ap;refine⟨rfl,fun _ _=> ?_⟩;simp only [aM]
  ·cases ap
 ·rename_i fn fs cs;cases fn<;>simp only [aV]at ap⊢ <;>first|(cases ap;done)|skip
  simp only [Prod.mk.injEq,Option.some.injEq]at ap;obtain⟨rfl,rfl⟩:=ap;exact⟨rfl,fun _ _=>rfl⟩
 ·split at ap
  ·rename_i vs a7;simp only [Option.map_eq_some_iff,Prod.mk.injEq]at ap;obtain⟨v1,U,rfl,rfl⟩:=ap;exact⟨rfl,fun _ _=>by simp only [a7,U,Option.map_some]⟩
  ·cases ap
 ·rename_i c;cases h3:c.callee with
  |value f=>rw [h3]at ar;simp at ar
  |invoke r m=>rw [h3]at ar;simp at ar
  |builtin b =>
   rw [h3]at ar ap;simp only [h3];cases b<;>first|(simp at ar;done)|skip
   all_goals
    simp only [dk]at ap⊢;split at ap
    ·simp only [Option.map_eq_some_iff,Prod.mk.injEq]at ap;obtain⟨v1,U,rfl,rfl⟩:=ap;exact⟨rfl,fun _ _=>by simp only [U,Option.map_some]⟩
    ·cases ap
theorem qK{nid:Nat}{ρ:Operand→J}{h U:I}{o:Op}{v:J}(ar:cX o=.load)(ap:aV E call nid ρ h o=some (v,U)) :
 U=h∧∃b,jv ρ o=some b∧∀(nu:Nat)(h':I),h'.get b=h.get b→aV E call nu ρ h' o=some (v,h'):=by
 cases o<;>simp only [cX,reduceCtorEq]at ar
 ·rename_i t x;simp only [aV]at ap⊢;split at ap
  ·rename_i a aW;simp only [Option.map_eq_some_iff,Prod.mk.injEq]at ap;obtain⟨v1,a7,rfl,rfl⟩:=ap;refine⟨rfl,a.id,by simp [jv,aW],fun nu h' an=> ?_⟩;simp only [aW,aQ,an]at a7⊢;rw [a7];rfl
  ·cases ap
 ·rename_i c;cases h3:c.callee with
  |value f=>rw [h3]at ar;simp at ar
  |invoke r m=>rw [h3]at ar;simp at ar
  |builtin b=>rw [h3]at ar;cases b<;>simp at ar
theorem Fb{nid:Nat}{ρ:Operand→J}{h U:I}{o:Op}{v:J}(ar:cX o=.store)(ap:aV E call nid ρ h o=some (v,U)) :
 ∃s b,l9 ρ o=some s∧U=h.set s b∧True:=by
 cases o<;>simp only [cX,reduceCtorEq]at ar
 ·rename_i t x y;simp only [aV]at ap;split at ap
  ·rename_i a aW;simp only [Option.map_eq_some_iff,Prod.mk.injEq]at ap;obtain⟨ak,a7,rfl,rfl⟩:=ap;unfold e7 at a7;split at a7
   ·split at a7
    ·split at a7
     ·split at a7
      ·simp only [Option.some.injEq]at a7;exact⟨a.id,_,by simp [l9,aW],a7.symm,trivial⟩
      ·cases a7
     ·cases a7
    ·cases a7
   ·cases a7
  ·cases ap
 ·rename_i c;cases h3:c.callee with
  |value f=>rw [h3]at ar;simp at ar
  |invoke r m=>rw [h3]at ar;simp at ar
  |builtin b=>rw [h3]at ar;cases b<;>simp at ar
theorem qL{nid:Nat}{ρ:Operand→J}{h U:I}{o:Op}{v:J}(ar:cX o=.alloc)(ap:aV E call nid ρ h o=some (v,U)) :
 ∃b,U=h.set nid b∧∀(h':I),aV E call nid ρ h' o=some (v,h'.set nid b):=by
 cases o<;>simp only [cX,reduceCtorEq]at ar
 ·rename_i t;simp only [aV]at ap⊢;split at ap
  ·rename_i d aM;split at ap
   ·rename_i z cl;split at ap
    ·rename_i c0;simp only [Prod.mk.injEq,Option.some.injEq]at ap;obtain⟨rfl,rfl⟩:=ap;exact⟨_,rfl,fun h'=>by simp only [c0,if_true]⟩
    ·cases ap
   ·cases ap
  ·cases ap
 ·rename_i t x;simp only [aV]at ap⊢;split at ap
  ·rename_i d aM;split at ap
   ·rename_i c0;simp only [Prod.mk.injEq,Option.some.injEq]at ap;obtain⟨rfl,rfl⟩:=ap;exact⟨_,rfl,fun h'=>by simp only [c0,if_true]⟩
   ·cases ap
  ·cases ap
 ·rename_i t n parts;simp only [aV,tn]at ap⊢;split at ap
  ·rename_i d aM;split at ap
   ·rename_i e he;split at ap
    ·rename_i x ab;split at ap
     ·rename_i z cl;split at ap
      ·rename_i c0;split at ap
       ·rename_i l aF;simp only [Prod.mk.injEq,Option.some.injEq]at ap;obtain⟨rfl,rfl⟩:=ap;refine⟨_,rfl,fun h'=> ?_⟩;simp only [he,ab,cl,c0,aF,and_self,if_true]
       ·cases ap
      ·cases ap
     ·cases ap
    ·cases ap
   ·cases ap
  ·cases ap
 ·rename_i t l c;simp only [aV,n4]at ap⊢;split at ap
  ·rename_i d k1 n k2 m aM aF hm;split at ap
   ·rename_i e he;split at ap
    ·rename_i x ab;split at ap
     ·rename_i z cl;split at ap
      ·rename_i c0;simp only [Prod.mk.injEq,Option.some.injEq]at ap;obtain⟨rfl,rfl⟩:=ap;refine⟨_,rfl,fun h'=> ?_⟩;simp only [he,ab,cl,c0,and_self,if_true]
      ·cases ap
     ·cases ap
    ·cases ap
   ·cases ap
  ·cases ap
 ·rename_i c;cases h3:c.callee with
  |value f=>rw [h3]at ar;simp at ar
  |invoke r m=>rw [h3]at ar;simp at ar
  |builtin b=>rw [h3]at ar;cases b<;>simp at ar
theorem r9{ρ ρ':Operand→J}{xs:Array Operand}(h:∀x∈xs.toList,ρ x=ρ' x):xs.toList.map ρ=xs.toList.map ρ':=List.map_congr_left h
theorem AH{ρ ρ':Operand→J}{o:Option Operand}(h:∀x∈o.toList,ρ x=ρ' x):o.map ρ=o.map ρ':=by
 cases o with
 |none=>rfl
 |some x=>simp [h x (by simp)]
theorem Fc{nid:Nat}{ρ ρ':Operand→J}{h:I}{o:Op}(b1:∀x∈o.operands.toList,ρ x=ρ' x):aV E call nid ρ h o=aV E call nid ρ' h o:=by
 cases o
 case call c =>
  simp only [Op.operands,Call.operands,Array.toList_append,List.mem_append]at b1;simp only [aV];have aW:=r9 (xs:=c.args) (fun x ab=>b1 x (.inr ab));cases h3:c.callee with
  |value f =>
   rw [h3]at b1;simp only [aW,b1 f (.inl (by simp))]
  |invoke r m=>rfl
  |builtin b=>simp only [aW]
 case makeFunc fn fs cs =>
  simp only [Op.operands,Array.toList_append,List.mem_append]at b1;cases fn<;>simp only [aV];rw [r9 (xs:=fs) (fun x ab=>b1 x (.inl ab)),r9 (xs:=cs) (fun x ab=>b1 x (.inr ab))]
 case slice t x aB ac mx =>
  simp only [Op.operands,Array.toList_append,List.mem_append]at b1;simp only [aV];rw [b1 x (by simp),AH (o:=aB) (fun y bi=>b1 y (by simp_all)),AH (o:=ac) (fun y bi=>b1 y (by simp_all)),AH (o:=mx) (fun y bi=>b1 y (by simp_all))]
 case build t parts =>
  have ag:(parts.toList.map fun p=>(p.1,ρ p.2))=parts.toList.map fun p=>(p.1,ρ' p.2):=by
   refine List.map_congr_left fun p ag=> ?_
   rw [b1 p.2 (by simp only [Op.operands];exact List.mem_map.2 ⟨p,ag,rfl⟩)]
  simp only [aV,ag]
 case buildSlice t n parts =>
  have ag:(parts.toList.map fun p=>(p.1,ρ p.2))=parts.toList.map fun p=>(p.1,ρ' p.2):=by
   refine List.map_congr_left fun p ag=> ?_
   rw [b1 p.2 (by simp only [Op.operands];exact List.mem_map.2 ⟨p,ag,rfl⟩)]
  simp only [aV,ag]
 all_goals first
  |rfl
  |(simp only [aV,Op.operands]at b1⊢; simp_all)
def lj(acc:Array Nat)(o:Oper):Nat:=o.after.toList.foldl (fun s e=>if hC e then s ||| 2^e.on ||| acc.getD e.on 0 else s) 0
theorem AI:∀(l:List Oper)(acc:Array Nat)(k:Nat),k<acc.size→(l.foldl (fun acc o=>acc.push (lj acc o)) acc).getD k 0=acc.getD k 0
 |[],acc,k,h=>rfl
 |o::r,acc,k,h=>by simp only [List.foldl_cons];rw [AI r _ k (by simp;omega)];simp [Array.getD_eq_getD_getElem?,Array.getElem?_push,Nat.ne_of_lt h]
theorem LM{a b:Array Nat}{o:Oper}(h:∀e∈o.after.toList,hC e=true→a.getD e.on 0=b.getD e.on 0):lj a o=lj b o:=by
 unfold lj
 have key:∀(l:List Edge)(s:Nat),(∀e∈l,hC e=true→a.getD e.on 0=b.getD e.on 0) →
  l.foldl (fun s e=>if hC e then s ||| 2^e.on ||| a.getD e.on 0 else s) s=l.foldl (fun s e=>if hC e then s ||| 2^e.on ||| b.getD e.on 0 else s) s:=by
  intro l;induction l with
  |nil=>intro s _;rfl
  |cons e r ih =>
   intro s aF;simp only [List.foldl_cons]
   have:(if hC e then s ||| 2^e.on ||| a.getD e.on 0 else s)=(if hC e then s ||| 2^e.on ||| b.getD e.on 0 else s):=by
    cases ao:hC e
    ·rfl
    ·simp only [if_true];rw [aF e (by simp) ao]
   rw [this,ih _ (fun e he=>aF e (by simp [he]))]
 exact key _ 0 h
theorem Fe:∀(l:List Oper)(acc:Array Nat)(m:Nat)(o:Oper),l[m]? =some o→(∀e∈o.after.toList,hC e=true→e.on<acc.size+m) →
 (l.foldl (fun acc o=>acc.push (lj acc o)) acc).getD (acc.size+m) 0=lj (l.foldl (fun acc o=>acc.push (lj acc o)) acc) o
 |[],acc,m,o,h,_=>by simp at h
 |a::r,acc,0,o,h,he=>by
  simp at h;subst h;simp only [List.foldl_cons,Nat.add_zero];rw [AI r _ acc.size (by simp)];have:(acc.push (lj acc a)).getD acc.size 0=lj acc a:=by simp [Array.getD_eq_getD_getElem?]
  rw [this];refine LM fun e hm ao=> ?_
  have bH:=he e hm ao;rw [AI r _ e.on (by simp;omega)];simp [Array.getD_eq_getD_getElem?,Array.getElem?_push];rw [if_neg (by omega)]
 |a::r,acc,m+1,o,h,he=>by simp at h;simp only [List.foldl_cons];have:=Fe r (acc.push (lj acc a)) m o h (fun e hm ao=>by have:=he e hm ao;simp;omega);simp only [Array.size_push]at this;rw [show acc.size+(m+1)=acc.size+1+m by omega];exact this
theorem Ff{acc:Array Nat}{i:Nat} :∀(l:List Edge)(s:Nat),(l.foldl (fun s e=>if hC e then s ||| 2^e.on ||| acc.getD e.on 0 else s) s).testBit i=true →
 s.testBit i=true∨ ∃e∈l,hC e=true∧(e.on=i∨(acc.getD e.on 0).testBit i=true)
 |[],s,h=> .inl h
 |e ::r,s,h=>by
  simp only [List.foldl_cons]at h;rcases Ff r _ h with U|⟨e',U,ak⟩
  ·cases ao:hC e
   ·rw [ao]at U;exact .inl (by simpa using U)
   ·rw [ao]at U;simp only [if_true,Nat.testBit_or,Bool.or_eq_true]at U;rcases U with (U|U)|U
    ·exact .inl U
    ·right;rw [Nat.testBit_two_pow]at U;exact⟨e,by simp,ao,.inl (by simpa using U)⟩
    ·exact .inr ⟨e,by simp,ao,.inr U⟩
  ·exact .inr ⟨e',by simp [U],ak⟩
def lk(ops:Array Oper):Prop:= ∀(j:Nat)(o:Oper),ops[j]? =some o→ ∀e∈o.after.toList,hC e=true→e.on<j
theorem Fg{ops:Array Oper}(aF:lk ops){i j:Nat}{o:Oper}(ap:ops[j]? =some o)(h:ordered (c7 ops) i j=true) :
 ∃e∈o.after.toList,hC e=true∧(e.on=i∨ordered (c7 ops) i e.on=true):=by
 unfold ordered at h;have:=Fe ops.toList #[] j o (by simpa using ap) (fun e he ao=>by have:=aF j o ap e he ao;simp;omega);simp only [List.size_toArray,List.length_nil,Nat.zero_add]at this;have bo:c7 ops=ops.toList.foldl (fun acc o=>acc.push (lj acc o)) #[]:=rfl;rw [bo,this]at h;rcases Ff _ _ h with U|U
 ·simp at U
 ·exact U
theorem Fh{ops:Array Oper}{i j:Nat}(ap:ops[j]? =none):ordered (c7 ops) i j=false:=by
 have di:∀(l:List Oper)(acc:Array Nat),(l.foldl (fun acc o=>acc.push (lj acc o)) acc).size=acc.size+l.length:=by
  intro l;induction l with
  |nil=>intro acc;rfl
  |cons a r ih=>intro acc;simp only [List.foldl_cons,ih,Array.size_push,List.length_cons];omega
 have bo:c7 ops=ops.toList.foldl (fun acc o=>acc.push (lj acc o)) #[]:=rfl;have ay:ops.size≤j:=by simpa using ap
 unfold ordered;rw [bo,Array.getD_eq_getD_getElem?,Array.getElem?_eq_none (by rw [di];simpa using ay)];simp
theorem LN{ops:Array Oper}(aF:lk ops):∀(j:Nat){i:Nat},ordered (c7 ops) i j=true→i<j:=by
 intro j;induction j using Nat.strongRecOn with
 |_ j ih =>
  intro i h;cases ap:ops[j]? with
  |none=>rw [Fh ap]at h;cases h
  |some o =>
   obtain⟨e,he,ao,ar⟩:=Fg aF ap h;have:=aF j o ap e he ao;rcases ar with rfl|ar
   ·exact this
   ·have:=ih e.on this ar;omega
def Fi(ops:Array Oper)(listed:Array Bool):Prop:= ∀(j:Nat)(o:Oper),listed.getD j false=true→ops[j]? =some o→ ∀e∈o.after.toList,hC e=true→listed.getD e.on false=true
theorem LO{ops:Array Oper}(aF:lk ops){listed:Array Bool}(ar:Fi ops listed):∀(j:Nat)(o:Oper),ops[j]? =some o→(∀e∈o.after.toList,hC e=true→listed.getD e.on false=true) →
 ∀{i:Nat},ordered (c7 ops) i j=true→listed.getD i false=true:=by
 intro j;induction j using Nat.strongRecOn with
 |_ j ih =>
  intro o ap ag i h;obtain⟨e,he,ao,ub⟩:=Fg aF ap h;have bH:=aF j o ap e he ao;have hle:=ag e he ao;rcases ub with rfl|ub
  ·exact hle
  ·cases AJ:ops[e.on]? with
   |none=>rw [Fh AJ]at ub;cases ub
   |some Fj=>exact ih e.on bH Fj AJ (ar e.on Fj hle AJ) ub
def lK(E:bh)(call:da)(ops:Array Oper)(aD j:Nat)(o:Oper)(σ:List J)(h:I):Option (J×I) :=
 match il ops σ o with
 |some true=>eE E call ops aD j (cK σ) h o.op
 |some false=>some (fq,h)
 |none=>none
theorem xf{ops:Array Oper}{aD j:Nat}{o:Oper}(ap:ops[j]? =some o)(s:eu) :
 k5 E call ops aD j s=(lK E call ops aD j o s.ef s.heap).map fun p=>⟨gE s.ef o.dst p.1,p.2⟩:=by
 unfold k5 lK;rw [ap];simp only;cases il ops s.ef o with
 |none=>rfl
 |some b =>
  cases b with
  |false=>rfl
  |true =>
   simp only;cases eE E call ops aD j (cK s.ef) s.heap o.op with
   |none=>rfl
   |some p=>rfl
theorem uc{ops:Array Oper}{aD j:Nat}{ρ:Operand→J}{h:I}{o:Op}{v:J}{h':I}(aM:eE E call ops aD j ρ h o=some (v,h')) :
 aV E call (aD+j) ρ h o=some (v,h')∨(cX o=.pure∧gG o=true∧(kn ops j=true∨hg ops aD j ρ o=true)∧aV E call (aD+j) ρ h o=none):=by
 unfold eE at aM;split at aM
 ·split at aM
  ·split at aM
   ·exact .inl aM
   ·cases aM
  ·cases aM
 ·split at aM
  ·split at aM
   ·cases aM
   ·exact .inl aM
  ·cases aM
 ·split at aM
  ·rename_i v1 U he;split at aM
   ·split at aM
    ·rw [he];exact .inl aM
    ·cases aM
   ·rw [he];exact .inl aM
  ·cases aM
 ·split at aM
  ·exact .inl aM
  ·cases aM
 ·rename_i ar;split at aM
  ·rename_i r he;rw [he];exact .inl aM
  ·rename_i he;split at aM
   ·rename_i c0;exact .inr ⟨ar,c0.1,c0.2,he⟩
   ·cases aM
 ·exact .inl aM
theorem xg{ops:Array Oper}{aD j:Nat}{ρ:Operand→J}{h:I}{o:Op}{v:J}{h':I}(aM:eE E call ops aD j ρ h o=some (v,h')):ik E call (aD+j) ρ h o=some (v,h'):=by
 rcases uc aM with U|⟨U,ak,aP,bQ⟩
 ·unfold ik;rw [U]
 ·unfold eE at aM;rw [U]at aM;simp only [bQ]at aM;rw [if_pos ⟨ak,aP⟩]at aM;unfold ik;rw [bQ];exact aM
theorem AK{ops:Array Oper}{i j:Nat}(hs:kn ops j=true)(ac:i<ops.size)(cg:i≠j)(U:ordered (c7 ops) i j=false)(ak:ordered (c7 ops) j i=false){o:Oper}(ap:ops[i]? =some o):cX o.op=.pure∧gG o.op=false:=by
 unfold kn at hs;have:=List.all_eq_true.1 hs i (List.mem_range.2 ac);simp only [U,ak,ap,Bool.or_false]at this;simp only [Bool.or_eq_true,beq_iff_eq,Bool.and_eq_true,decide_eq_true_eq,Bool.not_eq_true']at this;rcases this with h|h
 ·exact absurd h cg
 ·exact h
theorem AL{es:Nat}{x:J}{h h':I}(ab:∀k∈gF x,h'.get k=h.get k):gj es x h'=gj es x h:=by
 unfold gj;split
 ·rfl
 ·rename_i a len c;have e:h'.get a.id=h.get a.id:=ab a.id (by simp [gF]);rw [e]
 ·rfl
 ·rfl
theorem r'{D :c5}{t:TypeId}{s x:J}{nid:Nat}{h U:I}{v:J}(aW:hB D t s x nid h=some (v,U)) :
 (U=h∧∀h',(∀k∈gF s++gF x,h'.get k=h.get k)→hB D t s x nid h'=some (v,h')) ∨
 ∃id b,(id=nid∨id∈gF s++gF x)∧U=h.set id b∧∀h',(∀k∈gF s++gF x,h'.get k=h.get k)→hB D t s x nid h'=some (v,h'.set id b):=by
 have cP:∀{h'},(∀k∈gF s++gF x,h'.get k=h.get k)→(∀es,gj es s h'=gj es s h)∧(∀es,gj es x h'=gj es x h):=fun {h'} ck =>
  ⟨fun es=>AL fun k az=>ck k (List.mem_append_left _ az),fun es=>AL fun k az=>ck k (List.mem_append_right _ az)⟩
 unfold hB at aW;split at aW
 ·rename_i d base len cap aM;split at aW
  ·rename_i e az;split at aW
   ·rename_i b' eU;split at aW
    ·rename_i new fg;simp only at aW;split at aW
     ·rename_i ar;split at aW
      ·split at aW
       ·rename_i bt;simp only [Option.some.injEq,Prod.mk.injEq]at aW;obtain⟨rfl,rfl⟩:=aW;refine .inl ⟨rfl,fun h' ck=> ?_⟩;have:=(cP ck).2 b'.size;unfold hB;simp only [aM,az,eU,this,fg];rw [if_pos ar,if_pos bt]
       ·rename_i bt;split at aW
        ·rename_i ak;simp only [Option.some.injEq,Prod.mk.injEq]at aW;obtain⟨rfl,rfl⟩:=aW;refine .inr ⟨nid,_,.inl rfl,rfl,fun h' ck=> ?_⟩;have:=(cP ck).2 b'.size;unfold hB;simp only [aM,az,eU,this,fg];rw [if_pos ar,if_neg bt,if_pos ak]
        ·cases aW
      ·rename_i a;split at aW
       ·rename_i ob;split at aW
        ·rename_i b ao;have an:∀{h':I},(∀k∈gF (.slice (some a) len cap)++gF x,h'.get k=h.get k)→h'.get a.id=some b:=fun {h'} ck=>by rw [ck a.id (by simp [gF]),ao]
         split at aW
         ·rename_i me;split at aW
          ·rename_i bt;simp only [Option.some.injEq,Prod.mk.injEq]at aW;obtain⟨rfl,rfl⟩:=aW;refine .inl ⟨rfl,fun h' ck=> ?_⟩;have:=(cP ck).2 b'.size;unfold hB;simp only [aM,az,eU,this,fg,an ck];rw [if_pos ar,if_pos ob,if_pos me,if_pos bt]
          ·rename_i bt;split at aW
           ·rename_i c0;simp only [Option.some.injEq,Prod.mk.injEq]at aW;obtain⟨rfl,rfl⟩:=aW;refine .inr ⟨a.id,_,.inr (by simp [gF]),rfl,fun h' ck=> ?_⟩;have:=(cP ck).2 b'.size;unfold hB;simp only [aM,az,eU,this,fg,an ck];rw [if_pos ar,if_pos ob,if_pos me,if_neg bt,if_pos c0]
           ·cases aW
         ·rename_i me;split at aW
          ·rename_i hex;split at aW
           ·rename_i old hold;simp only [Option.some.injEq,Prod.mk.injEq]at aW;obtain⟨rfl,rfl⟩:=aW;refine .inr ⟨nid,_,.inl rfl,rfl,fun h' ck=> ?_⟩;have bo:=(cP ck).2 b'.size;have bO:=(cP ck).1 b'.size;unfold hB;simp only [aM,az,eU,bo,fg,an ck];rw [if_pos ar,if_pos ob,if_neg me,if_pos hex];simp only [bO,hold]
           ·cases aW
          ·rename_i hex;split at aW
           ·rename_i c0;simp only [Option.some.injEq,Prod.mk.injEq]at aW;obtain⟨rfl,rfl⟩:=aW;refine .inr ⟨a.id,_,.inr (by simp [gF]),rfl,fun h' ck=> ?_⟩;have:=(cP ck).2 b'.size;unfold hB;simp only [aM,az,eU,this,fg,an ck];rw [if_pos ar,if_pos ob,if_neg me,if_neg hex,if_pos c0]
           ·cases aW
        ·cases aW
       ·cases aW
     ·cases aW
    ·cases aW
   ·cases aW
  ·cases aW
 ·cases aW
theorem Fk{nid:Nat}{ρ:Operand→J}{h U:I}{o:Op}{v:J}(ar:cX o=.hV)(ap:aV E call nid ρ h o=some (v,U)) :
 (U=h∧∀h',(∀k∈gr ρ o,h'.get k=h.get k)→aV E call nid ρ h' o=some (v,h')) ∨
 ∃id b,(id=nid∨id∈gr ρ o)∧U=h.set id b∧∀h',(∀k∈gr ρ o,h'.get k=h.get k)→aV E call nid ρ h' o=some (v,h'.set id b):=by
 cases o<;>simp only [cX,reduceCtorEq]at ar;rename_i c;obtain⟨callee,args,ts⟩:=c;cases callee<;>simp only [reduceCtorEq]at ar;rename_i b;cases b<;>simp only [reduceCtorEq]at ar;simp only [aV,dk]at ap⊢;split at ap
 ·rename_i s x t u hd bl hu;have nv:gr ρ (.call ⟨.builtin .append,args,ts⟩)=gF s++gF x:=by simp [gr,hd]
  rw [nv];split at ap
  ·rename_i kl qE;split at ap
   ·rename_i e he;first|exact r' ap|(rw [he];exact r' ap)|(have:=r' ap;simpa [he]using this)
   ·rename_i he;first|exact r' ap|(rw [he];exact r' ap)|(have:=r' ap;simpa [he]using this)
   ·cases ap
  ·cases ap
 ·cases ap
theorem LP{σ:List J}{d:Tmp}{v:J}{x:Operand}(h:∀t,x=.tmp t→t≠d):cK (σ.set d v) x=cK σ x:=by
 cases x with
 |tmp t =>
  have:d≠t:=fun e=>h t rfl e.symm
  simp [cK,List.getD_eq_getElem?_getD,List.getElem?_set_ne this]
 |const v=>rfl
 |global g=>rfl
 |func f=>rfl
theorem LQ{xs:List Operand}{t:Tmp}(h:Operand.tmp t∈xs):t∈tmpsOf xs:=by unfold tmpsOf;exact List.mem_filterMap.2 ⟨_,h,rfl⟩
theorem LR{ops:Array Oper}{aD j:Nat}{o:Oper}{σ:List J}{d:Tmp}{v:J}{h:I}(aM:d ∉ qm ops o) :
 lK E call ops aD j o (σ.set d v) h=lK E call ops aD j o σ h:=by
 unfold qm at aM;simp only [List.mem_append,not_or]at aM;obtain⟨AM,ol⟩:=aM
 have b1:∀x∈o.op.operands.toList,cK (σ.set d v) x=cK σ x:=fun x ab=>LP fun t bl e=>by subst bl e;exact AM (LQ ab)
 have hw:il ops (σ.set d v) o=il ops σ o:=by
  unfold il;split
  ·rfl
  ·rename_i g want an;rw [an]at ol;split
   ·rename_i dd t';simp only [t',Option.toList_some,List.mem_singleton]at ol;rw [List.getElem?_set_ne (fun e=>ol e)]
   ·rfl
 unfold lK;rw [hw];have jz:∀nid,aV E call nid (cK (σ.set d v)) h o.op=aV E call nid (cK σ) h o.op:=fun nid=>Fc b1
 have dK:jv (cK (σ.set d v)) o.op=jv (cK σ) o.op:=by cases iL:o.op<;>simp only [jv];rename_i t x;rw [iL]at b1;rw [b1 x (by simp [Op.operands])]
 have f':l9 (cK (σ.set d v)) o.op=l9 (cK σ) o.op:=by cases iL:o.op<;>simp only [l9];rename_i t x y;rw [iL]at b1;rw [b1 x (by simp [Op.operands])]
 have LS:eE E call ops aD j (cK (σ.set d v)) h o.op=eE E call ops aD j (cK σ) h o.op:=by
  have Fl:gr (cK (σ.set d v)) o.op=gr (cK σ) o.op:=by cases iL:o.op<;>simp only [gr];rename_i c;rw [iL]at b1;rw [r9 (ρ:=cK (σ.set d v)) (ρ':=cK σ) fun x ab=>b1 x (by simp only [Op.operands,Call.operands];cases c.callee<;>simp [ab])]
  have tW:gG o.op=true→gD E (aD+j) (cK (σ.set d v)) h o.op=gD E (aD+j) (cK σ) h o.op:=by intro ud;cases iL:o.op<;>rw [iL]at ud<;>simp only [gG,reduceCtorEq]at ud;simp only [gD];rename_i a b x;rw [iL]at b1;rw [b1 x (by simp [Op.operands])]
  have AN:hg ops aD j (cK (σ.set d v)) o.op=hg ops aD j (cK σ) o.op:=by
   have:l' (cK (σ.set d v)) o.op=l' (cK σ) o.op:=by cases iL:o.op<;>simp only [l'];rename_i a b x;rw [iL]at b1;rw [b1 x (by simp [Op.operands])]
   unfold hg;rw [this]
  unfold eE;rw [jz,dK,f',Fl,AN];by_cases ud:gG o.op=true
  ·rw [tW ud]
  ·simp only [ud,Bool.false_eq_true,false_and,if_false]
 rw [LS]
theorem Fm{ops:Array Oper}{aD j:Nat}{o x:Oper}{σ:List J}{v:J}{h:I}(aM:∀d,x.dst=some d→d ∉ qm ops o) :
 lK E call ops aD j o (gE σ x.dst v) h=lK E call ops aD j o σ h:=by
 cases ab:x.dst with
 |none=>rfl
 |some d=>exact LR (aM d ab)
theorem LU{σ:List J}{x y:Oper}{v u:J}(h:∀d,x.dst=some d→y.dst≠some d):gE (gE σ x.dst v) y.dst u=gE (gE σ y.dst u) x.dst v:=by
 cases ab:x.dst with
 |none=>rfl
 |some d =>
  cases bi:y.dst with
  |none=>rfl
  |some e =>
   have cg:d≠e:=fun he=>h d ab (by rw [bi,he])
   simp only [gE];exact List.set_comm _ _ cg
theorem set_comm{a b:Nat}(k3:a≠b)(h:I)(x y:aJ):(h.set a x).set b y=(h.set b y).set a x:=by unfold I.set;simp only [aK.set_comm x y h.aj a b k3]
def ue(call:da):Prop:= ∀f args h v h',call f args h=some (v,h')→h'=h∧∀ak,call f args ak=some (v,ak)
def AO:tt→tt→Bool
 |.call,.alloc|.alloc,.call=>true
 |_,_=>false
theorem Fo{nid:Nat}{ρ:Operand→J}{h U:I}{o:Op}{v:J}(aS:ue call)(ar:cX o=.call)(ap:aV E call nid ρ h o=some (v,U)):U=h∧∀ak,aV E call nid ρ ak o=some (v,ak):=by
 cases o<;>simp only [cX,reduceCtorEq]at ar;rename_i c;obtain⟨callee,args,ts⟩:=c;cases callee with
 |value f =>
  simp only [aV,l7]at ap⊢;split at ap
  ·exact aS _ _ _ _ _ ap
  ·cases ap
 |builtin b=>cases b<;>simp only [reduceCtorEq]at ar
 |_=>simp only [reduceCtorEq]at ar
structure pA(call:da)(ops:Array Oper)(x i:Nat):Prop where
 lt:x<i
 ac:i<ops.size
 no:ordered (c7 ops) x i=false
 pair:∀fT eX,ops[x]? =some fT→ops[i]? =some eX→(zH (cX fT.op) (cX eX.op)=true∨ue call∧AO (cX fT.op) (cX eX.op)=true)∧tu ops fT eX=true
theorem apart_spec{ops:Array Oper}{x y:Oper}(h:tu ops x y=true):(∀d,x.dst=some d→d ∉ qm ops y)∧(∀d,y.dst=some d→d ∉ qm ops x)∧(∀d,x.dst=some d→y.dst≠some d):=by
 unfold tu at h;simp only [Bool.and_eq_true]at h;obtain⟨U,ak⟩:=h;refine⟨fun d aM=> ?_,fun d aM=> ?_,fun d aM=> ?_⟩
 ·rw [aM]at U;simp at U;exact U.1
 ·rw [aM]at ak;simp at ak;exact ak
 ·rw [aM]at U;simp at U;exact U.2
theorem uf{ops:Array Oper}{x i:Nat}{eX:Oper}(h:pa ops x=true)(gJ:ops[i]? =some eX)(ac:i<ops.size)(ne:i≠x)(ug:ordered (c7 ops) x i=false)(uh:ordered (c7 ops) i x=false)(bU:cX eX.op≠ .pure)(b8:cX eX.op≠ .load):False:=by
 have:=List.all_eq_true.1 h i (List.mem_range.2 ac);simp only [ug,uh,gJ,Bool.or_false,Bool.or_eq_true,beq_iff_eq,decide_eq_true_eq]at this;rcases this with h|h|h
 ·exact ne h
 ·exact bU h
 ·exact b8 h
theorem Fp{ops:Array Oper}{aD x i:Nat}{fT eX:Oper}(hI:ops[x]? =some fT)(gJ:ops[i]? =some eX)(dl:cX fT.op=.load)(cD:cX eX.op=.store)(ug:ordered (c7 ops) x i=false)(uh:ordered (c7 ops) i x=false)(ab:x<ops.size)(ac:i<ops.size)
 {ρ:Operand→J} {h ak:I} {pB:J} {b s0:Nat} (aF:∃b,jv ρ fT.op=some b∧(pa ops x=true∨b<aD∨(b<aD+ops.size∧ordered (c7 ops) (b-aD) x=true∧n7 ops (c7 ops) x=false))) (ao:jv ρ fT.op=some b)
 (aM:eE E call ops aD i ρ h eX.op=some (pB,ak)) (hs:l9 ρ eX.op=some s0):b<aD∧aD≤s0:=by
 have dt:n7 ops (c7 ops) x=true:=by unfold n7;rw [List.any_eq_true];refine⟨i,List.mem_range.2 ac,?_⟩;rw [gJ];simp [cD,ug,uh]
 have bX:k4 ops (c7 ops) i=true:=by unfold k4;rw [List.any_eq_true];refine⟨x,List.mem_range.2 ab,?_⟩;rw [hI];simp [dl,ug,uh]
 refine⟨?_,?_⟩
 ·obtain⟨fZ,fr,ar⟩:=aF;rw [ao]at fr;simp only [Option.some.injEq]at fr;subst fr;rcases ar with ar|ar|⟨_,_,ar⟩
  ·exact(uf ar gJ ac (fun e=>by subst e;rw [hI]at gJ;cases gJ;rw [dl]at cD;cases cD) ug uh (by rw [cD];decide) (by rw [cD];decide)).elim
  ·exact ar
  ·rw [dt]at ar;cases ar
 ·unfold eE at aM;rw [cD]at aM;simp only [hs]at aM;split at aM
  ·cases aM
  ·rename_i ar;rcases Nat.lt_or_ge s0 aD with bH|hh
   ·exact absurd ⟨bX,bH⟩ ar
   ·exact hh
theorem AP{ops:Array Oper}{aD j:Nat}{ρ:Operand→J}{o:Op}(h:hg ops aD j ρ o=true):∃x,l' ρ o=some x∧(∀b∈gF x,∀k,ordered (c7 ops) k j=false→b≠aD+k) ∧
 ∀i y,i<ops.size→i≠j→ordered (c7 ops) i j=false→ordered (c7 ops) j i=false→ops[i]? =some y→cX y.op=.pure∨cX y.op=.load∨cX y.op=.alloc:=by
 unfold hg at h;split at h
 ·rename_i x ab;simp only [Bool.and_eq_true]at h;refine⟨x,ab,fun b ao k az e=> ?_,fun i y ac cg U ak bi=> ?_⟩
  ·have:=List.all_eq_true.1 h.1 b ao;simp only [Bool.or_eq_true,Bool.and_eq_true,decide_eq_true_eq]at this;subst e;rcases this with h|⟨_,h⟩
   ·omega
   ·rw [show aD+k-aD=k by omega,az]at h;cases h
  ·have:=List.all_eq_true.1 h.2 i (List.mem_range.2 ac);simp only [U,ak,bi,Bool.or_false,Bool.or_eq_true,beq_iff_eq,decide_eq_true_eq]at this;rcases this with h|(h|h)|h
   ·exact absurd h cg
   ·exact .inl h
   ·exact .inr (.inl h)
   ·exact .inr (.inr h)
 ·cases h
theorem AQ{nid:Nat}{ρ:Operand→J}{h U:I}{o:Op}{v x:J}(ab:l' ρ o=some x)(ap:gD E nid ρ h o=some (v,U)) :
 U=h∧∀(nu:Nat)(h':I),(∀k∈gF x,h'.get k=h.get k)→gD E nu ρ h' o=some (v,h'):=by
 cases o<;>simp only [l',reduceCtorEq]at ab;rename_i s d y;split at ab
 ·rename_i a n c bi;simp only [Option.some.injEq]at ab;subst ab;simp only [gD,bi,tr]at ap⊢;cases hs:E.D s with
  |none=>rw [hs]at ap;simp at ap
  |some l8 =>
   cases aM:E.D d with
   |none=>rw [hs,aM]at ap;simp at ap
   |some dd =>
    simp only [hs,aM]at ap⊢;cases fL:l8.kind<;>cases fM:dd.kind<;>simp only [fL,fM,reduceCtorEq]at ap⊢
    ·
      rename_i e;cases he:E.D e with
      |none=>rw [he]at ap;simp at ap
      |some hA =>
       simp only [he]at ap⊢;cases kv:hA.kind<;>simp only [kv,reduceCtorEq]at ap⊢;rename_i la;cases la<;>simp only [reduceCtorEq]at ap⊢;split at ap
       ·rename_i l aF;simp only [Option.map_eq_some_iff,Prod.mk.injEq]at ap;obtain⟨u,hu,rfl,rfl⟩:=ap;refine⟨rfl,fun nu h' ck=> ?_⟩;rw [AL ck,aF];simp only [hu,Option.map_some]
       ·cases ap
    ·
      rename_i e bO;cases he:E.D e with
      |none=>rw [he]at ap;simp at ap
      |some hA =>
       cases a with
       |none=>rw [he]at ap;simp at ap
       |some qk =>
        simp only [he]at ap⊢;split at ap
        ·rename_i b kv an;split at ap
         ·rename_i ar;simp only [Option.some.injEq,Prod.mk.injEq]at ap;obtain⟨rfl,rfl⟩:=ap;refine⟨rfl,fun nu h' ck=> ?_⟩;rw [ck qk.id (by simp [gF]),kv,an];simp only;rw [if_pos ar]
         ·cases ap
        ·cases ap
 ·cases ab
theorem LV{nid:Nat}{ρ:Operand→J}{h:I}{o:Op}(ar:gG o=true)(aW:aV E call nid ρ h o=none)(nu:Nat)(h':I):aV E call nu ρ h' o=none:=by cases o<;>simp only [gG,reduceCtorEq]at ar;simp only [aV,Option.map_eq_none_iff]at aW⊢;exact aW
theorem LW{ops:Array Oper}(aF:lk ops){aD x i:Nat}(m:pA call ops x i){fT eX:Oper}(hI:ops[x]? =some fT)(gJ:ops[i]? =some eX){σ:List J}{h ab ak:I}{mf pB:J}
 (U:lK E call ops aD x fT σ h=some (mf,ab)) (ac:lK E call ops aD i eX σ ab=some (pB,ak)) :
 ∃hk,lK E call ops aD i eX σ h=some (pB,hk)∧lK E call ops aD x fT σ hk=some (mf,ak):=by
 obtain⟨dB,xh⟩:=m.pair fT eX hI gJ
 have jC:ordered (c7 ops) i x=false:=by
  cases ao:ordered (c7 ops) i x with
  |false=>rfl
  |true=>have:=LN aF x ao;have:=m.lt;omega
 unfold lK at U ac⊢;cases Fq:il ops σ fT with
 |none=>rw [Fq]at U;cases U
 |some lB =>
  cases qM:il ops σ eX with
  |none=>rw [qM]at ac;cases ac
  |some Fs =>
   rw [Fq]at U;rw [qM]at ac;cases lB with
   |false =>
    simp only [Option.some.injEq,Prod.mk.injEq]at U;obtain⟨rfl,rfl⟩:=U;exact⟨ak,ac,rfl⟩
   |true =>
    cases Fs with
    |false =>
     simp only [Option.some.injEq,Prod.mk.injEq]at ac;obtain⟨rfl,rfl⟩:=ac;exact⟨h,rfl,U⟩
    |true =>
     simp only at U ac⊢;have ee:x<ops.size:=by have:=m.lt;have:=m.ac;omega
     have pC:∀{j:Nat}{o:Oper}{h:I}{r:J×I},cX o.op=.pure→aV E call (aD+j) (cK σ) h o.op=some r→eE E call ops aD j (cK σ) h o.op=some r:=by intro j o h r ar aW;unfold eE;rw [ar];simp only [aW]
     have Ft:∀{j:Nat}{o:Oper}{h bt:I}{r:J×I},cX o.op=.pure→gG o.op=true→(kn ops j=true∨hg ops aD j (cK σ) o.op=true)→aV E call (aD+j) (cK σ) bt o.op=none→gD E (aD+j) (cK σ) h o.op=some r→eE E call ops aD j (cK σ) h o.op=some r:=by intro j o h bt r ar ac hs aW ab;unfold eE;rw [ar];simp only [LV ac aW (aD+j) h];rw [if_pos ⟨ac,hs⟩];exact ab
     rcases uc U with gq|⟨LX,AR,sa,Fu⟩
     rotate_left
     ·
       have EV:gD E (aD+x) (cK σ) h fT.op=some (mf,ab):=by have:=xg U;unfold ik at this;rw [Fu]at this;exact this
       rcases sa with sa|sa
       ·obtain⟨cv,bu⟩:=AK sa m.ac (by have:=m.lt;omega) jC m.no gJ;rcases uc ac with gV|⟨_,ci,_,_⟩
        ·obtain⟨rfl,aw⟩:=mo cv gV;refine⟨h,pC cv (aw _ _),U⟩
        ·rw [bu]at ci;cases ci
       ·obtain⟨y,bi,nv,AS⟩:=AP sa;obtain⟨rfl,aw⟩:=AQ bi EV;have LY:=AS i eX m.ac (by have:=m.lt;omega) jC m.no gJ;have back:∀ak:I,(∀k∈gF y,ak.get k=ab.get k)→eE E call ops aD x (cK σ) ak fT.op=some (mf,ak):=fun ak an=>Ft LX AR (.inr sa) Fu (aw _ ak an)
        rcases uc ac with gV|⟨Fv,Fw,lL,xi⟩
        ·rcases LY with c|c|c
         ·obtain⟨rfl,_⟩:=mo c gV;exact⟨_,ac,back _ fun _ _=>rfl⟩
         ·obtain⟨rfl,_⟩:=qK c gV;exact⟨_,ac,back _ fun _ _=>rfl⟩
         ·obtain⟨b,rfl,_⟩:=qL c gV;exact⟨_,ac,back _ fun k az=>I.hX _ _ fun e=>nv k az i jC e.symm⟩
        ·have AT:gD E (aD+i) (cK σ) ab eX.op=some (pB,ak):=by have:=xg ac;unfold ik at this;rw [xi]at this;exact this
         rcases lL with lL|lL
         ·obtain⟨_,bu⟩:=AK lL ee (by have:=m.lt;omega) m.no jC hI;rw [bu]at AR;cases AR
         ·obtain⟨z,cl,_,_⟩:=AP lL;obtain⟨rfl,_⟩:=AQ cl AT;exact⟨_,ac,back _ fun _ _=>rfl⟩
     rcases uc ac with gV|⟨Fv,Fw,lL,xi⟩
     rotate_left
     ·rcases lL with lL|lL
      ·obtain⟨cv,bu⟩:=AK lL ee (by have:=m.lt;omega) m.no jC hI;obtain⟨rfl,ag⟩:=mo cv gq;exact⟨ak,ac,pC cv (ag _ _)⟩
      ·have AT:gD E (aD+i) (cK σ) ab eX.op=some (pB,ak):=by have:=xg ac;unfold ik at this;rw [xi]at this;exact this
       obtain⟨y,bi,nv,AS⟩:=AP lL;obtain⟨rfl,aw⟩:=AQ bi AT;rcases AS x fT ee (by have:=m.lt;omega) m.no jC hI with c|c|c
       ·obtain⟨rfl,_⟩:=mo c gq;exact⟨_,ac,U⟩
       ·obtain⟨rfl,_⟩:=qK c gq;exact⟨_,ac,U⟩
       ·obtain⟨b,rfl,_⟩:=qL c gq;exact⟨h,Ft Fv Fw (.inr lL) xi (aw _ h fun k az=>(I.hX _ _ fun e=>nv k az x m.no e.symm).symm),U⟩
     have sb:cX fT.op=.load→ ∃b,jv (cK σ) fT.op=some b∧(pa ops x=true∨b<aD∨(b<aD+ops.size∧ordered (c7 ops) (b-aD) x=true∧n7 ops (c7 ops) x=false)):=by
      intro ar;unfold eE at U;rw [ar]at U;simp only at U;split at U
      ·rename_i b ao;split at U
       ·rename_i c0;exact⟨b,ao,c0⟩
       ·cases U
      ·cases U
     have sd:cX eX.op=.load→ ∃b,jv (cK σ) eX.op=some b∧(pa ops i=true∨b<aD∨(b<aD+ops.size∧ordered (c7 ops) (b-aD) i=true∧n7 ops (c7 ops) i=false)):=by
      intro ar;unfold eE at ac;rw [ar]at ac;simp only at ac;split at ac
      ·rename_i b ao;split at ac
       ·rename_i c0;exact⟨b,ao,c0⟩
       ·cases ac
      ·cases ac
     have se:∀{j:Nat}{o:Oper}{h h':I}{v:J},cX o.op=.load→(∃b,jv (cK σ) o.op=some b∧(pa ops j=true∨b<aD∨(b<aD+ops.size∧ordered (c7 ops) (b-aD) j=true∧n7 ops (c7 ops) j=false))) →
      aV E call (aD+j) (cK σ) h o.op=some (v,h')→eE E call ops aD j (cK σ) h o.op=some (v,h'):=by
      intro j o h h' v ar ⟨b,ao,c0⟩ aW;unfold eE;rw [ar];simp only [ao];rw [if_pos c0];exact aW
     have xj:∀{j:Nat}{o:Oper}{h:I},cX o.op=.alloc→eE E call ops aD j (cK σ) h o.op=aV E call (aD+j) (cK σ) h o.op:=by intro j o h ar;unfold eE;rw [ar]
     have LZ:cX fT.op=.hV→ma ops aD x (gr (cK σ) fT.op)=true:=by
      intro ar;unfold eE at U;rw [ar]at U;simp only at U;split at U
      ·assumption
      ·cases U
     have L0:cX eX.op=.hV→ma ops aD i (gr (cK σ) eX.op)=true:=by
      intro ar;unfold eE at ac;rw [ar]at ac;simp only at ac;split at ac
      ·assumption
      ·cases ac
     have AU:∀{j:Nat}{o:Oper}{h:I},cX o.op=.hV→ma ops aD j (gr (cK σ) o.op)=true→eE E call ops aD j (cK σ) h o.op=aV E call (aD+j) (cK σ) h o.op:=by intro j o h ar az;unfold eE;rw [ar];simp only;rw [if_pos az]
     have Fx:∀{j k b:Nat}{ids:List Nat},k<ops.size→ma ops aD j ids=true→b∈ids→ordered (c7 ops) k j=false→b≠aD+k:=by
      intro j k b ids pD az ao h0 e;subst e;have:=List.all_eq_true.1 az _ ao;simp only [Bool.or_eq_true,Bool.and_eq_true,decide_eq_true_eq]at this;rcases this with (h|⟨_,h⟩)|h
      ·omega
      ·rw [show aD+k-aD=k by omega,h0]at h;cases h
      ·omega
     rcases dB with dB|⟨Fy,Fz⟩
     rotate_left
     ·have FA:∀{j:Nat}{o:Oper}{h:I}{v:J},cX o.op=.call→aV E call (aD+j) (cK σ) h o.op=some (v,h)→eE E call ops aD j (cK σ) h o.op=some (v,h):=by
       intro j o h v ar aW;unfold eE;rw [ar];simp only [aW];have aC:n6 (aD+ops.size) h h=true:=AG fun _ _=>rfl
       cases k4 ops (c7 ops) j<;>simp [aC]
      cases dl:cX fT.op<;>cases cD:cX eX.op<;>rw [dl,cD]at Fz<;>simp only [AO,Bool.false_eq_true]at Fz
      ·obtain⟨bD,rfl,ag⟩:=qL dl gq;obtain⟨rfl,aw⟩:=Fo Fy cD gV;exact⟨h,FA cD (aw _),U⟩
      ·obtain⟨rfl,aw⟩:=Fo Fy dl gq;exact⟨ak,ac,FA dl (aw _)⟩
     cases dl:cX fT.op with
     |pure =>
      obtain⟨rfl,ag⟩:=mo dl gq;exact⟨ak,ac,pC dl (ag _ _)⟩
     |load =>
      obtain⟨rfl,b,ao,ag⟩:=qK dl gq;cases cD:cX eX.op with
      |pure =>
       obtain⟨rfl,aw⟩:=mo cD gV;exact⟨_,ac,U⟩
      |load =>
       obtain⟨rfl,fZ,fr,aw⟩:=qK cD gV;exact⟨_,ac,U⟩
      |alloc =>
       obtain⟨bD,rfl,aw⟩:=qL cD gV;refine⟨_,ac,se dl (sb dl) (ag _ _ ?_)⟩;refine I.hX _ _ ?_;rintro rfl;obtain⟨AV,jZ,c0⟩:=sb dl;rw [ao]at jZ;simp at jZ;subst jZ;rcases c0 with c0|c0|⟨_,c0,_⟩
       ·exact(uf c0 gJ m.ac (by have:=m.lt;omega) m.no jC (by rw [cD];decide) (by rw [cD];decide)).elim
       ·omega
       ·rw [show aD+i-aD=i by omega,jC]at c0;cases c0
      |call =>
       refine⟨_,ac,se dl (sb dl) (ag _ _ ?_)⟩;unfold eE at ac;rw [cD]at ac;simp only [gV]at ac
       have AW:k4 ops (c7 ops) i=true:=by unfold k4;rw [List.any_eq_true];refine⟨x,List.mem_range.2 (by have:=m.lt;have:=m.ac;omega),?_⟩;rw [hI];simp [dl,m.no,jC]
       rw [if_pos AW]at ac;split at ac
       ·rename_i hs;obtain⟨AV,jZ,c0⟩:=sb dl;rw [ao]at jZ;simp at jZ;subst jZ;rcases c0 with c0|c0
        ·exact(uf c0 gJ m.ac (by have:=m.lt;omega) m.no jC (by rw [cD];decide) (by rw [cD];decide)).elim
        exact Fa hs (by rcases c0 with c0|⟨c0,_,_⟩<;>omega)
       ·cases ac
      |store =>
       obtain⟨s0,bD,lh,rfl,aw⟩:=Fb cD gV;refine⟨_,ac,se dl (sb dl) (ag _ _ ?_)⟩;refine I.hX _ _ ?_;rintro rfl;have L1:=Fp hI gJ dl cD m.no jC (by have:=m.lt;have:=m.ac;omega) m.ac (sb dl) ao ac lh;omega
      |hV=>rw [dl,cD]at dB;cases dB
      |other=>rw [dl,cD]at dB;cases dB
     |store =>
      obtain⟨s0,bD,lh,rfl,aw⟩:=Fb dl gq;cases cD:cX eX.op with
      |pure =>
       obtain⟨rfl,aw⟩:=mo cD gV;exact⟨h,pC cD (aw _ _),U⟩
      |load =>
       obtain⟨rfl,fZ,fr,aw⟩:=qK cD gV;refine⟨h,se cD (sd cD) (aw _ _ ?_),U⟩;refine(I.hX _ _ ?_).symm;rintro rfl;have L1:=Fp gJ hI cD dl jC m.no m.ac (by have:=m.lt;have:=m.ac;omega) (sd cD) fr U lh;omega
      |alloc=>rw [dl,cD]at dB;cases dB
      |store=>rw [dl,cD]at dB;cases dB
      |call=>rw [dl,cD]at dB;cases dB
      |hV=>rw [dl,cD]at dB;cases dB
      |other=>rw [dl,cD]at dB;cases dB
     |alloc =>
      obtain⟨bD,rfl,ag⟩:=qL dl gq;cases cD:cX eX.op with
      |pure =>
       obtain⟨rfl,aw⟩:=mo cD gV;exact⟨h,pC cD (aw _ _),U⟩
      |load =>
       obtain⟨rfl,fZ,fr,aw⟩:=qK cD gV;refine⟨h,se cD (sd cD) (aw _ _ ?_),U⟩;refine(I.hX _ _ ?_).symm;rintro rfl;obtain⟨AV,jZ,c0⟩:=sd cD;rw [fr]at jZ;simp at jZ;subst jZ;rcases c0 with c0|c0|⟨_,c0,_⟩
       ·exact(uf c0 hI (by have:=m.lt;have:=m.ac;omega) (by have:=m.lt;omega) jC m.no (by rw [dl];decide) (by rw [dl];decide)).elim
       ·omega
       ·rw [show aD+x-aD=x by omega,m.no]at c0;cases c0
      |alloc =>
       obtain⟨L2,rfl,aw⟩:=qL cD gV;refine⟨h.set (aD+i) L2,by rw [xj cD];exact aw _,?_⟩;rw [xj dl,ag,set_comm (by have:=m.lt;omega)]
      |store=>rw [dl,cD]at dB;cases dB
      |call=>rw [dl,cD]at dB;cases dB
      |hV =>
       have az:=L0 cD;have pE:∀k∈gr (cK σ) eX.op,k≠aD+x:=fun k om=>Fx (by have:=m.lt;have:=m.ac;omega) az om m.no
       have agree:∀k∈gr (cK σ) eX.op,h.get k=(h.set (aD+x) bD).get k:=fun k om=>(I.hX _ _ (fun e=>pE k om e.symm)).symm
       rcases Fk cD gV with ⟨k1,k2⟩|⟨id,fZ,k1,k2,bT⟩
       ·subst k1;exact⟨h,by rw [AU cD az];exact k2 h agree,U⟩
       ·subst k2;refine⟨h.set id fZ,by rw [AU cD az];exact bT h agree,?_⟩
        have cg:aD+x≠id:=by
         rcases k1 with rfl|k1
         ·have:=m.lt;omega
         ·exact fun e=>pE id k1 e.symm
        rw [xj dl,ag,set_comm cg]
      |other=>rw [dl,cD]at dB;cases dB
     |call =>
      cases cD:cX eX.op with
      |pure =>
       obtain⟨rfl,aw⟩:=mo cD gV;exact⟨h,pC cD (aw _ _),U⟩
      |load =>
       obtain⟨rfl,fZ,fr,aw⟩:=qK cD gV;refine⟨h,se cD (sd cD) (aw _ _ ?_),U⟩;unfold eE at U;rw [dl]at U;simp only [gq]at U
       have AW:k4 ops (c7 ops) x=true:=by unfold k4;rw [List.any_eq_true];refine⟨i,List.mem_range.2 m.ac,?_⟩;rw [gJ];simp [cD,m.no,jC]
       rw [if_pos AW]at U;split at U
       ·rename_i hs;obtain⟨AV,jZ,c0⟩:=sd cD;rw [fr]at jZ;simp at jZ;subst jZ;rcases c0 with c0|c0
        ·exact(uf c0 hI (by have:=m.lt;have:=m.ac;omega) (by have:=m.lt;omega) jC m.no (by rw [dl];decide) (by rw [dl];decide)).elim
        exact(Fa hs (by rcases c0 with c0|⟨c0,_,_⟩<;>omega)).symm
       ·cases U
      |alloc=>rw [dl,cD]at dB;cases dB
      |store=>rw [dl,cD]at dB;cases dB
      |call=>rw [dl,cD]at dB;cases dB
      |hV=>rw [dl,cD]at dB;cases dB
      |other=>rw [dl,cD]at dB;cases dB
     |hV =>
      cases cD:cX eX.op with
      |pure =>
       obtain⟨rfl,aw⟩:=mo cD gV;exact⟨h,pC cD (aw _ _),U⟩
      |alloc =>
       obtain⟨bD,rfl,aw⟩:=qL cD gV;have az:=LZ dl;have pE:∀k∈gr (cK σ) fT.op,k≠aD+i:=fun k om=>Fx m.ac az om jC
       have agree:∀k∈gr (cK σ) fT.op,(h.set (aD+i) bD).get k=h.get k:=fun k om=>I.hX _ _ (fun e=>pE k om e.symm)
       refine⟨h.set (aD+i) bD,by rw [xj cD];exact aw _,?_⟩;rw [AU dl az];rcases Fk dl gq with ⟨k1,k2⟩|⟨id,fZ,k1,k2,bT⟩
       ·subst k1;exact k2 _ agree
       ·subst k2
        have cg:aD+i≠id:=by
         rcases k1 with rfl|k1
         ·have:=m.lt;omega
         ·exact fun e=>pE id k1 e.symm
        rw [bT _ agree,set_comm cg]
      |load=>rw [dl,cD]at dB;cases dB
      |store=>rw [dl,cD]at dB;cases dB
      |call=>rw [dl,cD]at dB;cases dB
      |hV=>rw [dl,cD]at dB;cases dB
      |other=>rw [dl,cD]at dB;cases dB
     |other =>
      cases cD:cX eX.op with
      |pure =>
       obtain⟨rfl,aw⟩:=mo cD gV;exact⟨h,pC cD (aw _ _),U⟩
      |load=>rw [dl,cD]at dB;cases dB
      |alloc=>rw [dl,cD]at dB;cases dB
      |store=>rw [dl,cD]at dB;cases dB
      |call=>rw [dl,cD]at dB;cases dB
      |hV=>rw [dl,cD]at dB;cases dB
      |other=>rw [dl,cD]at dB;cases dB
theorem L3{ops:Array Oper}(aF:lk ops){aD x i:Nat}(m:pA call ops x i){s s1 s2:eu}(U:k5 E call ops aD x s=some s1)(ak:k5 E call ops aD i s1=some s2) :
 ∃t,k5 E call ops aD i s=some t∧k5 E call ops aD x t=some s2:=by
 have mq:x<ops.size:=by have:=m.lt;have:=m.ac;omega
 have hI:ops[x]? =some ops[x]:=Array.getElem?_eq_getElem mq;have gJ:ops[i]? =some (ops[i]'m.ac):=Array.getElem?_eq_getElem m.ac;obtain⟨dB,xh⟩:=m.pair _ _ hI gJ;obtain⟨cM,a2,a3⟩:=apart_spec xh;rw [xf hI,Option.map_eq_some_iff]at U;obtain⟨⟨mf,ab⟩,k1,rfl⟩:=U;rw [xf gJ,Option.map_eq_some_iff]at ak;obtain⟨⟨pB,Wg⟩,k2,rfl⟩:=ak;simp only at k2;rw [Fm cM]at k2;obtain⟨hk,g1,g2⟩:=LW aF m hI gJ k1 k2;refine⟨⟨gE s.ef (ops[i]'m.ac).dst pB,hk⟩,?_,?_⟩
 ·rw [xf gJ,g1];rfl
 ·rw [xf hI];simp only;rw [Fm a2,g2];simp only [Option.map_some];rw [LU a3]
theorem front{ops:Array Oper}(aF:lk ops){aD i:Nat}{q:List Nat} :∀{p:List Nat}{s bm:eu},(∀x∈p,pA call ops x i)→iH E call ops aD (p++i::q) s=some bm →
 ∃t,k5 E call ops aD i s=some t∧iH E call ops aD (p++q) t=some bm
 |[],s,bm,_,h=>by
  simp only [List.nil_append,iH]at h⊢;split at h
  ·rename_i t bl;exact⟨t,bl,h⟩
  ·cases h
 |x ::p,s,bm,hm,h=>by
  simp only [List.cons_append,iH]at h;split at h
  ·rename_i s1 c';obtain⟨t,U,ak⟩:=front aF (fun y bi=>hm y (by simp [bi])) h;obtain⟨u,g1,g2⟩:=L3 aF (hm x (by simp)) c' U;refine⟨u,g1,?_⟩;simp only [List.cons_append,iH,g2];exact ak
  ·cases h
theorem L4{ops:Array Oper}{aD j:Nat}{s bm:eu}(h:k5 E call ops aD j s=some bm):o' E call ops aD j s=some bm:=by
 unfold k5 at h;unfold o';split at h
 ·rename_i e;simp [e];simpa using h
 ·rename_i o e;split at h
  ·rename_i hw;split at h
   ·rename_i v ag aM;rw [show ik E call (aD+j) (cK s.ef) s.heap o.op=some (v,ag)from xg aM];exact h
   ·cases h
  ·exact h
  ·cases h
end
section
variable {P:Program}{φ:Map}{E:bh}
theorem L5{ops:Array Oper}(call:da)(h:n5 ops=true):lk ops∧∀x i,x<i→i<ops.size→ordered (c7 ops) x i=false→pA call ops x i:=by
 unfold n5 at h;simp only [List.all_eq_true,List.mem_range]at h
 have kB:lk ops:=by
  intro j o ap e he ao
  have ay:j<ops.size:=by
   rcases Nat.lt_or_ge j ops.size with h' | h'
   ·exact h'
   ·rw [Array.getElem?_eq_none h']at ap;cases ap
  have:=h j ay;rw [ap]at this;simp only [Bool.and_eq_true,List.all_eq_true]at this;have:=this.1 e he;simpa [ao]using this
 refine⟨kB,fun x i eI ac h0=>⟨eI,ac,h0,fun fT eX hI gJ=> ?_⟩⟩;have:=h i ac;rw [gJ]at this;simp only [Bool.and_eq_true,List.all_eq_true,List.mem_range]at this;have:=this.2 x eI;rw [h0,hI]at this;simp only [Bool.false_or,Bool.and_eq_true]at this;exact⟨.inl this.1,this.2⟩
def ui(ops:Array Oper):Bool :=
 let km:=c7 ops
 (List.range ops.size).all fun j =>
  match ops[j]? with
  |none=>true
  |some y =>
   (y.after.toList.all fun e=> !hC e || decide (e.on<j)) &&
   (List.range j).all fun i =>
    ordered km i j ||
    match ops[i]? with
    |none=>true
    |some x=>(zH (cX x.op) (cX y.op) || AO (cX x.op) (cX y.op))&&tu ops x y
theorem L6{ops:Array Oper}(call:da)(aS:ue call)(h:ui ops=true):lk ops∧∀x i,x<i→i<ops.size→ordered (c7 ops) x i=false→pA call ops x i:=by
 unfold ui at h;simp only [List.all_eq_true,List.mem_range]at h
 have kB:lk ops:=by
  intro j o ap e he ao
  have ay:j<ops.size:=by
   rcases Nat.lt_or_ge j ops.size with h' | h'
   ·exact h'
   ·rw [Array.getElem?_eq_none h']at ap;cases ap
  have:=h j ay;rw [ap]at this;simp only [Bool.and_eq_true,List.all_eq_true]at this;have:=this.1 e he;simpa [ao]using this
 refine⟨kB,fun x i eI ac h0=>⟨eI,ac,h0,fun fT eX hI gJ=> ?_⟩⟩;have:=h i ac;rw [gJ]at this;simp only [Bool.and_eq_true,List.all_eq_true,List.mem_range]at this;have:=this.2 x eI;rw [h0,hI]at this;simp only [Bool.false_or,Bool.and_eq_true,Bool.or_eq_true]at this;exact⟨this.1.imp id fun q=>⟨aS,q⟩,this.2⟩
def ft(ops:Array Oper)(listed:Array Bool):List Nat:=(List.range ops.size).filter fun i=> !listed.getD i true
theorem FB{ops:Array Oper}{listed:Array Bool}{i:Nat}(h:i∈Region.ready .any ops listed) :
 i<ops.size∧listed.getD i true=false∧∃o,ops[i]? =some o∧∀e∈o.after.toList,hC e=true→listed.getD e.on false=true:=by
 unfold Region.ready at h;simp only [List.mem_filter,List.mem_range,Bool.and_eq_true,Bool.not_eq_true']at h;obtain⟨U,ak,aP⟩:=h;refine⟨U,ak,ops[i],Array.getElem?_eq_getElem U,fun e he ao=> ?_⟩;rw [Array.getElem?_eq_getElem U]at aP;simp only [Option.map_some,Option.getD_some,Array.all_eq_true_iff_forall_mem]at aP;have:=aP e (by simpa using he);unfold hC at ao;simpa [ao]using this
theorem L7{ops:Array Oper}(aF:lk ops){listed:Array Bool}(di:listed.size=ops.size){i:Nat}{r:List Nat}(h:ft ops listed=i::r):i∈Region.ready .any ops listed:=by
 have ac:i∈ft ops listed:=by rw [h];simp
 have du:=ac;unfold ft at ac;simp only [List.mem_filter,List.mem_range,Bool.not_eq_true']at ac;unfold Region.ready;simp only [List.mem_filter,List.mem_range,Bool.and_eq_true,Bool.not_eq_true'];refine⟨ac.1,ac.2,?_⟩;rw [Array.getElem?_eq_getElem ac.1];simp only [Option.map_some,Option.getD_some,Array.all_eq_true_iff_forall_mem];intro e he;cases ao:Region.binds .any e with
 |false=>rfl
 |true =>
  simp only [Bool.not_true,Bool.false_or];have bH:=aF i _ (Array.getElem?_eq_getElem ac.1) e (by simpa using he) ao;cases hle:listed.getD e.on false with
  |true=>rfl
  |false =>
   exfalso
   have fN:e.on∈ft ops listed:=by
    unfold ft;simp only [List.mem_filter,List.mem_range,Bool.not_eq_true'];refine⟨by omega,?_⟩;have n8:e.on<listed.size:=by omega
    rw [Array.getD_eq_getD_getElem?,Array.getElem?_eq_getElem n8]at hle⊢;simpa using hle
   have uj:(ft ops listed).Pairwise (· < ·):=List.Pairwise.filter _ List.pairwise_lt_range;rw [h]at uj fN;rcases List.mem_cons.1 fN with iq|iq
   ·omega
   ·have:=(List.pairwise_cons.1 uj).1 _ iq;omega
theorem L8{ops:Array Oper}{listed:Array Bool}(di:listed.size=ops.size){i:Nat}{p q:List Nat}(h:ft ops listed=p++i::q):ft ops (listed.setIfInBounds i true)=p++q:=by
 have gi:(ft ops listed).Nodup:=List.Pairwise.filter _ List.nodup_range;have ac:i∈ft ops listed:=by rw [h];simp
 have AX:i<ops.size:=by unfold ft at ac;simp only [List.mem_filter,List.mem_range]at ac;exact ac.1
 have bo:ft ops (listed.setIfInBounds i true)=(ft ops listed).filter fun j=>decide (j≠i):=by
  unfold ft;rw [List.filter_filter];refine List.filter_congr fun j ay=> ?_
  have Wh:=List.mem_range.1 ay;by_cases nt:j=i
  ·subst nt;simp [Array.getD_eq_getD_getElem?,di,AX]
  ·have eO:¬i=j:=fun e=>nt e.symm
   simp [Array.getD_eq_getD_getElem?,Array.getElem?_setIfInBounds,nt,eO]
 rw [bo,h];rw [h]at gi
 have ag:∀j∈p,j≠i:=fun j ay e=>by subst e;exact(List.nodup_append.1 gi).2.2 j ay j (by simp) rfl
 have aw:∀j∈q,j≠i:=fun j ay e=>by subst e;have:=(List.nodup_append.1 gi).2.1;exact(List.nodup_cons.1 this).1 ay
 rw [List.filter_append,List.filter_cons];simp only [ne_eq,not_true_eq_false,decide_false,Bool.false_eq_true,if_false];rw [List.filter_eq_self.2 (fun j ay=>by simpa using ag j ay),List.filter_eq_self.2 (fun j ay=>by simpa using aw j ay)]
theorem L9(bR:fh P E){N0:Nat→Prop}{w0:World}(bA:dW N0 w0.heap.size){call:da}(eW:kz P N0 w0 call){ops:Array Oper}(oq:lk ops∧∀x i,x<i→i<ops.size→ordered (c7 ops) x i=false→pA call ops x i){aD:Nat}{Q:Exit→Act→World→Prop} :
 ∀{dv:Nat}{listed:Array Bool}{s bm:eu}{a:Act}{w:World}{φ:Map},listed.size=ops.size→Fi ops listed→(ft ops listed).length≤dv→iH E call ops aD (ft ops listed) s=some bm →
  fj φ N0 w0 s a w→(∀j∈ft ops listed,aD+j<s.heap.next∧∀v,φ (aD+j) v=none) →
  (∀bN aN bj,d' φ bj aD→fj bj N0 w0 bm bN aN→s.heap.next≤bm.heap.next→Q .normal bN aN)→wpAny P .any ops Q dv listed a w:=by
 intro dv;obtain⟨kB,L'⟩:=oq
 have r3:∀{listed:Array Bool}{s bm:eu}{a:Act}{w:World}{φ:Map},listed.size=ops.size→iH E call ops aD (ft ops listed) s=some bm→fj φ N0 w0 s a w →
  (∀bN aN bj,d' φ bj aD→fj bj N0 w0 bm bN aN→s.heap.next≤bm.heap.next→Q .normal bN aN)→Region.ready .any ops listed=[]→Q .normal a w:=by
  intro listed s bm a w φ di h r az aC;cases hu:ft ops listed with
  |nil =>
   rw [hu]at h;simp [iH]at h;subst h;exact az a w φ (d'.refl _ _) r (Nat.le_refl _)
  |cons i q =>
   exfalso;have:=L7 kB di hu;rw [aC]at this;cases this
 induction dv with
 |zero =>
  intro listed s bm a w φ di dO hlen h r hid az;have hu:ft ops listed=[]:=List.length_eq_zero_iff.1 (by omega);simp only [wpAny]
  have FC:Region.ready .any ops listed=[]:=by
   cases aC:Region.ready .any ops listed with
   |nil=>rfl
   |cons i q =>
    exfalso;obtain⟨U,ak,_⟩:=FB (by rw [aC];exact List.mem_cons_self);have:i∈ft ops listed:=by unfold ft;simp only [List.mem_filter,List.mem_range,Bool.not_eq_true'];exact⟨U,ak⟩
    rw [hu]at this;cases this
  exact⟨FC,r3 di h r az FC⟩
 |succ dv ih =>
  intro listed s bm a w φ di dO hlen h r hid az;simp only [wpAny];refine⟨r3 di h r az,fun i ac=> ?_⟩;obtain⟨U,ak,o,ap,FD⟩:=FB ac;have AY:i∈ft ops listed:=by unfold ft;simp only [List.mem_filter,List.mem_range,Bool.not_eq_true'];exact⟨U,ak⟩
  obtain⟨p,q,qN⟩:=List.append_of_mem AY;have uj:(ft ops listed).Pairwise (· < ·):=List.Pairwise.filter _ List.pairwise_lt_range
  have hm:∀x∈p,pA call ops x i:=by
   intro x ab;rw [qN]at uj;have bH:x<i:=(List.pairwise_append.1 uj).2.2 x ab i (by simp);refine L' x i bH U ?_;cases ao:ordered (c7 ops) x i with
   |false=>rfl
   |true =>
    exfalso;have mq:=LO kB dO i o ap FD ao;have AZ:x∈ft ops listed:=by rw [qN];simp [ab]
    unfold ft at AZ;simp only [List.mem_filter,List.mem_range,Bool.not_eq_true']at AZ;have n8:x<listed.size:=by omega
    rw [Array.getD_eq_getD_getElem?,Array.getElem?_eq_getElem n8]at mq;have aP:=AZ.2;rw [Array.getD_eq_getD_getElem?,Array.getElem?_eq_getElem n8]at aP;simp at mq aP;rw [mq]at aP;cases aP
  rw [qN]at h;obtain⟨t,g1,g2⟩:=front kB hm h;refine E8 bR bA eW r (hid i AY) (L4 g1) fun bN aN bj ab eZ hle=> ?_
  have A0:=L8 di qN;refine ih (listed:=listed.setIfInBounds i true) (by simpa using di) ?_ ?_ (by rw [A0];exact g2) eZ (fun j ay=> ?_) fun qH fi qI AE AF LL=> ?_
  ·intro j Ma ay xk e he ao;by_cases nk:e.on=i
   ·rw [nk];simp [Array.getD_eq_getD_getElem?,di,U]
   ·have hold:listed.getD e.on false=true:=by
     by_cases nt:j=i
     ·subst nt;rw [ap]at xk;simp at xk;subst xk;exact FD e he ao
     ·refine dO j Ma ?_ xk e he ao;have eO:¬i=j:=fun e=>nt e.symm
      simpa [Array.getD_eq_getD_getElem?,Array.getElem?_setIfInBounds,eO]using ay
    have xl:¬i=e.on:=fun e'=>nk e'.symm
    simpa [Array.getD_eq_getD_getElem?,Array.getElem?_setIfInBounds,xl]using hold
  ·rw [A0];rw [qN]at hlen;simp at hlen⊢; omega
  ·rw [A0]at ay;have sf:j∈ft ops listed:=by rw [qN];rcases List.mem_append.1 ay with ay|ay<;>simp [ay]
   have gi:(ft ops listed).Nodup:=List.Pairwise.filter _ List.nodup_range
   have nt:j≠i:=by
    rintro rfl;rw [qN]at gi;rcases List.mem_append.1 ay with ay|ay
    ·exact(List.nodup_append.1 gi).2.2 j ay j (by simp) rfl
    ·exact(List.nodup_cons.1 (List.nodup_append.1 gi).2.1).1 ay
   obtain⟨k1,k2⟩:=hid j sf;exact⟨by omega,ab.new _ k1 (by omega) k2⟩
  ·refine az _ _ _ (d'.trans ⟨ab.le,fun k r1 lg=>ab.new k ?_ (by omega) lg,ab.ro⟩ AE) AF (by omega);have:=(hid i AY).1;omega
theorem FE(bR:fh P E){N0:Nat→Prop}{w0:World}(bA:dW N0 w0.heap.size){call:da}(eW:kz P N0 w0 call){ops:Array Oper}(oq:lk ops∧∀x i,x<i→i<ops.size→ordered (c7 ops) x i=false→pA call ops x i){aD:Nat}{s bm:eu}{a:Act}{w:World}{φ:Map}
 {Q:Exit→Act→World→Prop} (h:iH E call ops aD (List.range ops.size) s=some bm) (r:fj φ N0 w0 s a w) (hid:∀j,j<ops.size→aD+j<s.heap.next∧∀v,φ (aD+j) v=none)
 (az:∀bN aN bj,d' φ bj aD→fj bj N0 w0 bm bN aN→s.heap.next≤bm.heap.next→Q .normal bN aN):wpAny P .any ops Q ops.size (Array.replicate ops.size false) a w:=by
 have hu:ft ops (Array.replicate ops.size false)=List.range ops.size:=by
  unfold ft;refine List.filter_eq_self.2 fun i ac=> ?_
  have:=List.mem_range.1 ac;simp [Array.getD_eq_getD_getElem?,Array.getElem?_replicate,this]
 refine L9 bR bA eW oq (by simp) ?_ (by rw [hu];simp) (by rw [hu];exact h) r (fun j ay=>by rw [hu]at ay;exact hid j (List.mem_range.1 ay)) az;intro j o ay;simp [Array.getD_eq_getD_getElem?,Array.getElem?_replicate]at ay;split at ay<;>simp at ay
theorem Mb(bR:fh P E){N0:Nat→Prop}{w0:World}(bA:dW N0 w0.heap.size){call:da}(eW:kz P N0 w0 call){ops:Array Oper}(oq:n5 ops=true){aD:Nat}{s bm:eu}{a:Act}{w:World}{φ:Map}
 {Q:Exit→Act→World→Prop} (h:iH E call ops aD (List.range ops.size) s=some bm) (r:fj φ N0 w0 s a w) (hid:∀j,j<ops.size→aD+j<s.heap.next∧∀v,φ (aD+j) v=none)
 (az:∀bN aN bj,d' φ bj aD→fj bj N0 w0 bm bN aN→s.heap.next≤bm.heap.next→Q .normal bN aN):wpAny P .any ops Q ops.size (Array.replicate ops.size false) a w :=
 FE bR bA eW (L5 call oq) h r hid az
end
end
end Go.ba
namespace Go.ba
noncomputable section
open Go.RowKit
section
variable {P:Program}{φ:Map}{E:bh}
def uk:bx→Exit
 |.normal=> .normal
 |.exit id=> .exit id
 |.goto l=> .goto l
 |.ret=> .ret
theorem fj.bump{N0:Nat→Prop}{w0 w:World}{s:eu}{a:Act}(r:fj φ N0 w0 s a w)(n:Nat):fj φ N0 w0 ⟨s.ef,{s.heap with next:=s.heap.next+n}⟩ a w :=
 ⟨r.ef,r.heap.next (by omega),r.below,r.defers⟩
theorem fj.drew{N0:Nat→Prop}{w0 w:World}{s:eu}{a:Act}(r:fj φ N0 w0 s a w):fj φ N0 w0 s a w.drew :=
 ⟨r.ef,r.heap.alike (Alike.tN w),r.below.drew,r.defers⟩
theorem FF{N0:Nat→Prop}{w:World}{h:I}(r:ch φ N0 h w){i:Nat}(ac:h.next≤i):∀v,φ i v=none:=by
 intro v;cases aw:φ i v with
 |none=>rfl
 |some p=>have:=(r.cO i v p aw).1;omega
theorem FG(bR:fh P E){N0:Nat→Prop}{w0 w:World}(bA:dW N0 w0.heap.size){call:da}(eW:kz P N0 w0 call)(dI:P.follows .mixedOrders=true){id:Nat}{ops:Array Oper}{draw:Bool}{s bm:eu}{a:Act}(r:fj φ N0 w0 s a w)(h:qn E call ops draw s=some bm)
 {Q:Exit→Act→World→Prop} (az:∀bN aN bj,d' φ bj s.heap.next→fj bj N0 w0 bm bN aN→s.heap.next≤bm.heap.next→Q .normal bN aN):(Code.region id ops draw).wp P Q a w:=by
 have nv:∀j,j<ops.size→s.heap.next+j<s.heap.next+ops.size∧∀v,φ (s.heap.next+j) v=none:=fun j ay=>⟨by omega,FF r.heap (by omega)⟩
 unfold qn at h;cases draw with
 |false =>
  simp only [Bool.false_eq_true,if_false]at h;refine wp_region ?_;refine E9 bR bA eW h (r.bump _) List.nodup_range (fun j ay=>nv j (List.mem_range.1 ay)) fun bN aN bj U ak aP=>az bN aN bj U ak ?_
  simp only at aP;omega
 |true =>
  simp only [if_true]at h;split at h
  ·rename_i oq;refine wp_region_any dI ?_;refine Mb bR bA eW oq h (r.bump _).drew nv fun bN aN bj U ak aP=>az bN aN bj U ak ?_
   simp only at aP;omega
  ·cases h
theorem Mc(bR:fh P E){N0:Nat→Prop}{w0 w:World}(bA:dW N0 w0.heap.size){call:da}(eW:kz P N0 w0 call)(aS:ue call)(dI:P.follows .mixedOrders=true){id:Nat}{ops:Array Oper}{s bm:eu}{a:Act}(r:fj φ N0 w0 s a w)
 (oq:ui ops=true) (h:iH E call ops s.heap.next (List.range ops.size) ⟨s.ef,{s.heap with next:=s.heap.next+ops.size}⟩=some bm)
 {Q:Exit→Act→World→Prop} (az:∀bN aN bj,d' φ bj s.heap.next→fj bj N0 w0 bm bN aN→s.heap.next≤bm.heap.next→Q .normal bN aN):(Code.region id ops true).wp P Q a w:=by
 have nv:∀j,j<ops.size→s.heap.next+j<s.heap.next+ops.size∧∀v,φ (s.heap.next+j) v=none:=fun j ay=>⟨by omega,FF r.heap (by omega)⟩
 refine wp_region_any dI ?_;refine FE bR bA eW (L6 call aS oq) h (r.bump _).drew nv fun bN aN bj U ak aP=>az bN aN bj U ak ?_
 simp only at aP;omega
def qO(P:Program)(c:Code)(Q:Exit→Act→World→Prop)(a:Act)(w:World):Prop :=
 ∀(b:Frame)(k:List Item)(cs:List Frame),∃e bN aN,Q e bN aN∧Arrives P (lone (b.at a (.code c:: .inLoop c::k)) cs w) b k cs e bN aN
theorem FH{c:Code}{Q:Exit→Act→World→Prop}{a:Act}{w:World}(h:qO P c Q a w):(Code.loop c).wp P Q a w:=fun b k cs =>
 let ⟨e,bN,aN,q,r⟩:=h b k cs;⟨e,bN,aN,q,.of_steps (.one step_loop) r⟩
theorem A1{c:Code}{Q:Exit→Act→World→Prop}{a:Act}{w:World}(h:c.wp P (Exit.then (qO P c Q) Q) a w):qO P c Q a w:=by
 intro b k cs;obtain⟨e,lM,lN,aw,kC⟩:=h b (.inLoop c::k) cs;cases e with
 |normal =>
  obtain⟨A2,A3,A4,A5,A6⟩:=aw b k cs;exact⟨A2,A3,A4,A5,.of_steps (Steps.trans kC (.one step_inLoop)) A6⟩
 |exit id=>exact⟨_,lM,lN,aw,.pass (x:= .inLoop c) rfl (fun _ _=> .inl (by simp)) kC⟩
 |goto l=>exact⟨_,lM,lN,aw,.pass (x:= .inLoop c) rfl (fun _ _=> .inl (by simp)) kC⟩
 |ret=>exact⟨_,lM,lN,aw,.pass (x:= .inLoop c) rfl (fun _ _=> .inl (by simp)) kC⟩
 |panic FI=>exact⟨_,lM,lN,aw,.pass (x:= .inLoop c) rfl (fun _ _=> .inl (by simp)) kC⟩
 |outgrown=>exact⟨_,lM,lN,aw,.pass (x:= .inLoop c) rfl (fun _ _=> .inl (by simp)) kC⟩
def sg(P:Program)(body c:Code)(Q:Exit→Act→World→Prop)(a:Act)(w:World):Prop :=
 ∀(b:Frame)(k:List Item)(cs:List Frame),∃e bN aN,Q e bN aN∧Arrives P (lone (b.at a (.code c:: .inScope body::k)) cs w) b k cs e bN aN
theorem FJ{c:Code}{Q:Exit→Act→World→Prop}{a:Act}{w:World}(h:sg P c c Q a w):(Code.scope c).wp P Q a w:=fun b k cs =>
 let ⟨e,bN,aN,q,r⟩:=h b k cs;⟨e,bN,aN,q,.of_steps (.one step_scope) r⟩
def pF(P:Program)(body:Code)(Q:Exit→Act→World→Prop):Exit→Act→World→Prop
 |.goto l,a,w =>
  match findLabel body l with
  |some rest=>sg P body rest Q a w
  |none=>Q (.goto l) a w
 |e,a,w=>Q e a w
theorem xm{body c:Code}{Q:Exit→Act→World→Prop}{a:Act}{w:World}(h:c.wp P (pF P body Q) a w):sg P body c Q a w:=by
 intro b k cs;obtain⟨e,lM,lN,aw,kC⟩:=h b (.inScope body::k) cs;cases e with
 |normal=>exact⟨.normal,lM,lN,aw,Steps.trans kC (.one step_inScope)⟩
 |exit id=>exact⟨.exit id,lM,lN,aw,fun k' az=>kC k' (by simp [exitTo,az])⟩
 |goto l =>
  simp only [pF]at aw;cases aS:findLabel body l with
  |some rest =>
   rw [aS]at aw;obtain⟨A2,A3,A4,A5,A6⟩:=aw b k cs;exact⟨A2,A3,A4,A5,.of_steps (kC _ (by simp [gotoIn,aS])) A6⟩
  |none =>
   rw [aS]at aw;exact⟨.goto l,lM,lN,aw,fun k' az=>kC k' (by simp [gotoIn,aS,az])⟩
 |ret=>exact⟨.ret,lM,lN,aw,kC⟩
 |panic FI=>exact⟨.panic FI,lM,lN,aw,kC⟩
 |outgrown=>exact⟨.outgrown,lM,lN,aw,kC⟩
def ul(P:Program)(E:bh)(N0:Nat→Prop)(w0:World)(s bm:eu)(e:bx)(a:Act)(w:World)(ot:(Exit→Act→World→Prop)→Prop):Prop :=
 ∀{φ:Map}{Q:Exit→Act→World→Prop},fj φ N0 w0 s a w→(∀bN aN bj,d' φ bj s.heap.next→fj bj N0 w0 bm bN aN→s.heap.next≤bm.heap.next→Q (uk e) bN aN)→ot Q
theorem Md(bR:fh P E){N0:Nat→Prop}{w0:World}(bA:dW N0 w0.heap.size){call:da}(eW:kz P N0 w0 call)(dI:P.follows .mixedOrders=true):∀(n:Nat),
 (∀{c:Code}{s bm:eu}{e:bx}{a:Act}{w:World},ek E call n none c s=some (e,bm)→ul P E N0 w0 s bm e a w fun Q=>c.wp P Q a w) ∧
 (∀{c:Code}{s bm:eu}{e:bx}{a:Act}{w:World},ek E call n none (.loop c) s=some (e,bm)→ul P E N0 w0 s bm e a w fun Q=>qO P c Q a w) ∧
 (∀{b c:Code}{s bm:eu}{e:bx}{a:Act}{w:World},ek E call n (some b) c s=some (e,bm)→ul P E N0 w0 s bm e a w fun Q=>sg P b c Q a w):=by
 intro n;induction n with
 |zero=>refine⟨?_,?_,?_⟩<;>(intros;simp_all [ek])
 |succ n ih =>
  obtain⟨qP,um,FK⟩:=ih
  have sh:∀{c:Code}{s bm:eu}{e:bx}{a:Act}{w:World},ek E call (n+1) none (.loop c) s=some (e,bm)→ul P E N0 w0 s bm e a w fun Q=>qO P c Q a w:=by
   intro c s bm e a w h φ Q r az;simp only [ek]at h;refine A1 ?_;cases U:ek E call n none c s with
   |none=>simp [U]at h
   |some p =>
    obtain⟨bo,s1⟩:=p;rw [U]at h;refine qP U r fun bN aN bj g1 g2 g3=> ?_
    cases bo with
    |normal =>
     simp only at h;show qO P c Q bN aN;exact um h g2 fun qH fi qI k1 k2 bT=>az qH fi qI (g1.trans (k1.mono g3)) k2 (by omega)
    |exit id=>simp at h;obtain⟨rfl,rfl⟩:=h;exact az bN aN bj g1 g2 g3
    |goto id=>simp at h;obtain⟨rfl,rfl⟩:=h;exact az bN aN bj g1 g2 g3
    |ret=>simp at h;obtain⟨rfl,rfl⟩:=h;exact az bN aN bj g1 g2 g3
  have Me:∀{b c:Code}{s bm:eu}{e:bx}{a:Act}{w:World},ek E call (n+1) (some b) c s=some (e,bm)→ul P E N0 w0 s bm e a w fun Q=>sg P b c Q a w:=by
   intro b c s bm e a w h φ Q r az;simp only [ek]at h;refine xm ?_;cases U:ek E call n none c s with
   |none=>simp [U]at h
   |some p =>
    obtain⟨bo,s1⟩:=p;rw [U]at h;refine qP U r fun bN aN bj g1 g2 g3=> ?_
    cases bo with
    |normal=>simp at h;obtain⟨rfl,rfl⟩:=h;exact az bN aN bj g1 g2 g3
    |exit id=>simp at h;obtain⟨rfl,rfl⟩:=h;exact az bN aN bj g1 g2 g3
    |goto l =>
     simp only at h;show pF P b Q (.goto l) bN aN;simp only [pF];cases aS:findLabel b l with
     |some rest =>
      rw [aS]at h;exact FK h g2 fun qH fi qI k1 k2 bT=>az qH fi qI (g1.trans (k1.mono g3)) k2 (by omega)
     |none =>
      rw [aS]at h;simp at h;obtain⟨rfl,rfl⟩:=h;exact az bN aN bj g1 g2 g3
    |ret=>simp at h;obtain⟨rfl,rfl⟩:=h;exact az bN aN bj g1 g2 g3
  refine⟨?_,sh,Me⟩;intro c s bm e a w h φ Q r az;cases c with
  |skip=>simp [ek]at h;obtain⟨rfl,rfl⟩:=h;exact wp_skip (az a w φ (d'.refl _ _) r (Nat.le_refl _))
  |label l=>simp [ek]at h;obtain⟨rfl,rfl⟩:=h;exact wp_label (az a w φ (d'.refl _ _) r (Nat.le_refl _))
  |region id ops draw =>
   simp only [ek,Option.map_eq_some_iff,Prod.mk.injEq]at h;obtain⟨s1,U,rfl,rfl⟩:=h;exact FG bR bA eW dI r U az
  |seq x y =>
   simp only [ek]at h;refine wp_seq ?_;cases U:ek E call n none x s with
   |none=>simp [U]at h
   |some p =>
    obtain⟨bo,s1⟩:=p;rw [U]at h;refine qP U r fun bN aN bj g1 g2 g3=> ?_
    cases bo with
    |normal =>
     simp only at h;show y.wp P Q bN aN;exact qP h g2 fun qH fi qI k1 k2 bT=>az qH fi qI (g1.trans (k1.mono g3)) k2 (by omega)
    |exit id=>simp at h;obtain⟨rfl,rfl⟩:=h;exact az bN aN bj g1 g2 g3
    |goto id=>simp at h;obtain⟨rfl,rfl⟩:=h;exact az bN aN bj g1 g2 g3
    |ret=>simp at h;obtain⟨rfl,rfl⟩:=h;exact az bN aN bj g1 g2 g3
  |cond x y z =>
   simp only [ek]at h;have ab:=r.eval x;split at h
   ·rename_i ao;rw [ao]at ab;simp only [aA]at ab;exact wp_cond_true ab (qP h r az)
   ·rename_i ao;rw [ao]at ab;simp only [aA]at ab;exact wp_cond_false ab (qP h r az)
   ·cases h
  |block id c =>
   simp only [ek]at h;refine wp_block ?_;cases U:ek E call n none c s with
   |none=>simp [U]at h
   |some p =>
    obtain⟨bo,s1⟩:=p;rw [U]at h;refine qP U r fun bN aN bj g1 g2 g3=> ?_
    cases bo with
    |normal=>simp at h;obtain⟨rfl,rfl⟩:=h;exact az bN aN bj g1 g2 g3
    |exit j =>
     simp at h;obtain⟨rfl,rfl⟩:=h;simp only [uk,Exit.inBlock];by_cases ay:j=id
     ·rw [if_pos ay]at az⊢; exact az bN aN bj g1 g2 g3
     ·rw [if_neg ay]at az⊢; exact az bN aN bj g1 g2 g3
    |goto l=>simp at h;obtain⟨rfl,rfl⟩:=h;exact az bN aN bj g1 g2 g3
    |ret=>simp at h;obtain⟨rfl,rfl⟩:=h;exact az bN aN bj g1 g2 g3
  |loop c=>exact FH (sh h r az)
  |scope c =>
   simp only [ek]at h;exact FJ (FK h r az)
  |goto l=>simp [ek]at h;obtain⟨rfl,rfl⟩:=h;exact wp_goto (az a w φ (d'.refl _ _) r (Nat.le_refl _))
  |exit id=>simp [ek]at h;obtain⟨rfl,rfl⟩:=h;exact wp_exit (az a w φ (d'.refl _ _) r (Nat.le_refl _))
  |ret=>simp [ek]at h;obtain⟨rfl,rfl⟩:=h;exact wp_ret (az a w φ (d'.refl _ _) r (Nat.le_refl _))
  |rangeFunc f ps x y=>simp [ek]at h
  |refuse w=>simp [ek]at h
theorem A7(cp:E.D.dG P){N0:Nat→Prop}{w0 w:World}{s:eu}{a:Act}(r:fj φ N0 w0 s a w):∀{rs:List ResultVar}{l:List J},im E.D rs s=some l →
 ∃vs,(rs.mapM (fun(x:ResultVar)=>(match x with|.tmp t=>pure (a.tmps.getD t undef)|.cell b t=>do loadVar t (←asAddr (a.tmps.getD b undef)):Sem Value))).run P w=.ok vs w∧bd φ l vs
 |[],l,h=>by simp [im]at h;subst h;exact⟨[],rfl,by simp [bd]⟩
 |.tmp t::rs,l,h=>by
  simp only [im,Option.map_eq_some_iff]at h;obtain⟨m,U,rfl⟩:=h;obtain⟨vs,k1,k2⟩:=A7 cp r U;refine⟨a.tmps.getD t undef::vs,?_,?_⟩
  ·simp only [List.mapM_cons,Sem.run_bind,Sem.run_pure,Result.andThen_ok,k1]
  ·simp only [bd];exact⟨_,_,rfl,r.ef.AC t,k2⟩
 |.cell b t::rs,l,h=>by
  simp only [im]at h;split at h
  ·rename_i p ag;split at h
   ·rename_i v m U ak;simp at h;subst h;obtain⟨vs,k1,k2⟩:=A7 cp r ak;have ao:=r.ef.AC b;rw [ag]at ao;obtain⟨a8,g1,g2⟩:=EA cp r.heap ao U;simp only [aA]at ao;obtain⟨eP,FL,wU⟩:=ao;rw [FL]at g1;simp only [Instr.loadAt,Instr.sureAddr,Sem.run_bind,Sem.run_pure,Result.andThen_ok]at g1;refine⟨a8::vs,?_,?_⟩
    ·have dy:(asAddr (a.tmps.getD b undef)).run P w=.ok eP w:=by rw [FL];rfl
     simp only [List.mapM_cons,Sem.run_bind,dy,Sem.run_pure,Result.andThen_ok,g1,k1]
    ·simp only [bd];exact⟨_,_,rfl,g2,k2⟩
   ·cases h
  ·cases h
theorem FM(cp:E.D.dG P){N0:Nat→Prop}{w0 w:World}{s:eu}{a:Act}(r:fj φ N0 w0 s a w){fn:Func}{l:List J}(h:im E.D fn.results.toList s=some l) :
 ∃a8,(results fn a.tmps).run P w=.ok a8 w∧aA φ (lD l) a8:=by
 obtain⟨vs,U,ak⟩:=A7 cp r h
 have hm:(fn.results.mapM (fun(x:ResultVar)=>(match x with|.tmp t=>pure (a.tmps.getD t undef)|.cell b t=>do loadVar t (←asAddr (a.tmps.getD b undef)):Sem Value))).run P w=.ok vs.toArray w:=by rw [←Array.toArray_toList (xs:=fn.results)];simp only [List.mapM_toArray,Sem.run_map,U,Result.andThen_ok]
 have hlen:=ak.length;by_cases A8:l.length=1
 ·obtain⟨x,rfl⟩:=List.length_eq_one_iff.1 A8;obtain⟨y,rfl⟩:=List.length_eq_one_iff.1 (by rw [hlen,A8]);refine⟨y,?_,?_⟩
  ·unfold results;rw [Sem.run_bind]
   erw [hm]
   rfl
  ·simp only [bd]at ak;obtain⟨v,t,e,aP,bQ⟩:=ak;simp at e;obtain⟨rfl,rfl⟩:=e;exact aP
 ·refine⟨.tuple vs.toArray,?_,?_⟩
  ·unfold results;rw [Sem.run_bind]
   erw [hm]
   simp only [Result.andThen_ok,Sem.run_pure];rw [dif_neg (by simp;omega)]
  ·have:lD l=.tuple l:=by
    unfold lD;split
    ·simp at A8
    ·rfl
   rw [this];simp only [aA];exact⟨_,rfl,by simpa using ak⟩
theorem xn(bR:fh P E){N0:Nat→Prop}{w0:World}(bA:dW N0 w0.heap.size)(dV:E.cond N0 w0)(dI:P.follows .mixedOrders=true):∀n,kz P N0 w0 (jR P E n):=by
 intro n;induction n with
 |zero=>intro f args h v h' ar;simp [jR]at ar
 |succ n ih =>
  intro f args h v h' ar φ w args' dw aX dy;simp only [jR]at ar;split at ar
  ·rename_i g an;exact bR.w' f g an N0 w0 bA dV args h v h' ar φ w args' dw aX dy
  ·rename_i jT;split at ar
   ·rename_i fn o1;split at ar
    ·rename_i c xb;refine⟨⟨fn,c,o1,xb⟩,?_⟩;refine calls_of_wp o1 xb ?_;have hlen:args'.size=args.length:=by have:=dy.length;rwa [Array.length_toList]at this
     have r:fj φ N0 w0 ⟨args++List.replicate (fn.ntmps-args.length) fq,h⟩ {tmps:=args'++Array.replicate (fn.ntmps-args'.size) undef,defers:=[]} w:=by refine⟨?_,dw,aX,rfl⟩;simp only [Array.toList_append,Array.toList_replicate,hlen];exact dy.append (bd.replicate (aA.fq φ) _)
     cases ab:ek E (jR P E n) n none c ⟨args++List.replicate (fn.ntmps-args.length) fq,h⟩with
     |none=>simp [ab]at ar
     |some p =>
      obtain⟨e,s⟩:=p;rw [ab]at ar
      have fin:∀bN aN bj,d' φ bj h.next→fj bj N0 w0 s bN aN→h.next≤s.heap.next→ ∀{l},im E.D fn.results.toList s=some l→v=lD l→h'=s.heap →
       bN.defers=[]∧∃FN,(results fn bN.tmps).run P aN=.ok FN aN∧∃a8 bj,Ending.returned FN=.returned a8∧d' φ bj h.next∧aA bj v a8∧ch bj N0 h' aN∧Safe N0 w0 aN∧h.next≤h'.next:=by
       intro bN aN bj g1 g2 g3 l aF a7 ck;subst a7 ck;obtain⟨a8,k1,k2⟩:=FM bR.ga g2 aF;exact⟨g2.defers,a8,k1,a8,bj,rfl,g1,k2,g2.heap,g2.below,g3⟩
      refine(Md bR bA ih dI n).1 ab r fun bN aN bj g1 g2 g3=> ?_
      cases e with
      |normal =>
       simp only [Option.map_eq_some_iff,Prod.mk.injEq]at ar;obtain⟨l,aF,U,ak⟩:=ar;exact fin bN aN bj g1 g2 g3 aF U.symm ak.symm
      |ret =>
       simp only [Option.map_eq_some_iff,Prod.mk.injEq]at ar;obtain⟨l,aF,U,ak⟩:=ar;exact fin bN aN bj g1 g2 g3 aF U.symm ak.symm
      |exit id=>simp at ar
      |goto id=>simp at ar
    ·cases ar
   ·cases ar
end
end
end Go.ba
namespace Go.ba
noncomputable section
open Go.RowKit
section
variable {P:Program}{E:bh}
def xo:Option (J×I)→Bool
 |some (.bool true,_)=>true
 |_=>false
theorem Mf{r:Option (J×I)}(h:xo r=true):∃h',r=some (.bool true,h'):=by
 unfold xo at h;split at h
 ·exact⟨_,rfl⟩
 ·cases h
def nw:Map:=fun _ _=>none
theorem ch.empty(N0:Nat→Prop)(w:World)(n:Nat):ch nw N0 ⟨n,.nil⟩ w where
 cO i v p h:=by cases h
 apart i v p j u q h:=by cases h
 same i v p u q h:=by cases h
theorem c5.A9(P:Program):c5.dG (rK P) P:=fun _ _ h=>h
theorem Mg{P:Program}(h:(P.funcs.toList.all fun fn=> !(fn.name == "runtime.NumGoroutine"))=true):∀(f:Nat) fn,P.funcs[f]? =some fn→(fn.name == "runtime.NumGoroutine")=false:=by
 intro f fn aS
 have hm:fn∈P.funcs.toList:=by rw [←Array.getElem?_toList]at aS;exact List.mem_of_getElem? aS
 have:=List.all_eq_true.1 h fn hm;simpa using this
theorem Mh{P:Program}{E:bh}(h:(E.eqs.all fun t=>zT P t)=true):∀t,E.gB t=true→pg P t:=by intro t bl;exact List.all_eq_true.1 h t (by simpa [bh.gB]using bl)
end
end
end Go.ba
namespace Go.ba
noncomputable section
open Go.RowKit Go.Shelf
section
variable {P:Program}{φ:Map}
theorem Mi{w aN:World}{a:Addr}(e:aN.heap[a.block]? =w.heap[a.block]?):aN.frozen? a=w.frozen? a:=by unfold World.frozen?;rw [e]
theorem Alike.below{w aN:World}(k:Below w.heap.size w aN):Alike w aN where
 size:=k.size
 cell a aW:=k.cell aW
 frozen a aW:=Mi (k.block _ aW)
 mark b ao:=qp (k.block _ ao)
theorem Safe.xp{N0:Nat→Prop}{w0 w aN:World}(h:Safe N0 w0 w)(bA:dW N0 w0.heap.size)(k:Below w.heap.size w aN):Safe N0 w0 aN :=
 h.trans ⟨k.os,k.tape,k.output,k.size,fun i ac=>k.block i (Nat.lt_of_lt_of_le (bA i ac) h.size)⟩
theorem FO{N0:Nat→Prop}{w0 w:World}{h:I}{f:FuncId}{args':Array Value}{s:List UInt8}(bA:dW N0 w0.heap.size)(dw:ch φ N0 h w)(aX:Safe N0 w0 w)
 (ar:Calls P f args' w fun e aN=>e=.returned (.string ⟨s.toArray⟩)∧Below w.heap.size w aN) :
 Calls P f args' w fun e aN=> ∃a8 bj,e=.returned a8∧d' φ bj h.next∧aA bj (.str s) a8∧ch bj N0 h aN∧Safe N0 w0 aN∧h.next≤h.next :=
 ar.mono fun e aN ⟨he,ao⟩=>⟨_,φ,he,d'.refl _ _,by simp only [aA];exact⟨_,rfl,by simp⟩,dw.alike (Alike.below ao),aX.xp bA ao,Nat.le_refl _⟩
def A':o8:=fun args h =>
 match args with
 |[.str s,.int .i64 c]=>if 0≤c∧c≤2^20∧s.length≤2^20 then some (.str (Lib.repeatL s c.toNat),h)else none
 |_=>none
theorem Mj{ρ:Ren}(L:Go.Proofs.Lays.n105 P ρ)(X:Go.Proofs.Builder.Extra P ρ){C:(Nat→Prop)→World→Prop}(ao:∃fn c,P.funcs[ρ.f 105]? =some fn∧fn.body=some c):pv P C (ρ.f 105) A':=by
 intro N0 w0 bA dV args h v h' an φ w args' dw aX dy;unfold A' at an;split at an
 ·rename_i s c;split at an
  ·rename_i ar;simp only [Option.some.injEq,Prod.mk.injEq]at an;obtain⟨rfl,rfl⟩:=an;obtain⟨l⟩:=args';simp only [bd,aA]at dy;obtain⟨a,t,rfl,⟨u,rfl,rfl⟩,b,t2,rfl,rfl,rfl⟩:=dy;refine⟨ao,FO bA dw aX ?_⟩;have di:u.size≤2^20:=by have:=ar.2.2;simpa using this
   have Mk:c.toNat≤2^20:=by omega
   have hm:u.size*c.toNat≤2^20*2^20:=Nat.mul_le_mul di Mk;have k:=Go.Proofs.Any.strings_Repeat L X u c.toNat w (by omega) (by omega)
   rwa [Int.toNat_of_nonneg ar.1]at k
  ·cases an
 ·cases an
def si:List J→Option (List (List UInt8))
 |[]=>some []
 |.str s::r=>(si r).map fun l=>s::l
 |_=>none
def Ba:o8:=fun args h =>
 match args with
 |[.slice (some a) n c,.str sep] =>
  if a.fld=0∧a.es=1∧0<n∧n≤2^20 then
   match h.get a.id with
   |some b =>
    if a.idx+n≤b.cj a.ver∧a.idx+n≤b.a'.length then
     match si ((b.a'.drop a.idx).take n)with
     |some xs=>if(Lib.join xs sep).length≤2^20 then some (.str (Lib.join xs sep),h)else none
     |none=>none
    else none
   |none=>none
  else none
 |_=>none
theorem FP:∀{l:List J} {xs:List (List UInt8)} {news:List Value},si l=some xs→bd φ (flat l) news→ ∃lJ:List ByteArray,news=lJ.map Value.string∧xs=lJ.map (·.data.toList)
 |[],xs,news,h,k=>by simp only [si,Option.some.injEq]at h;subst h;simp only [flat,List.flatMap_nil,bd]at k;subst k;exact⟨[],rfl,rfl⟩
 |a ::r,xs,news,h,k=>by
  unfold si at h;split at h
  ·rename_i bt;cases bt
  ·rename_i s eZ e;simp only [List.cons.injEq]at e;obtain⟨rfl,rfl⟩:=e;cases ao:si r with
   |none=>rw [ao]at h;cases h
   |some q =>
    rw [ao]at h;simp only [Option.map_some,Option.some.injEq]at h;subst h;simp only [flat,List.flatMap_cons,J.cells,List.cons_append,List.nil_append,bd]at k;obtain⟨v,t,rfl,k1,k2⟩:=k;simp only [aA]at k1;obtain⟨u,rfl,rfl⟩:=k1;obtain⟨lJ,bo,bO⟩:=FP ao k2;exact⟨u::lJ,by rw [bo];rfl,by rw [bO];rfl⟩
  ·cases h
theorem Ml{ρ:Ren}(L:Go.Proofs.Lays.n156 P ρ)(X:Go.Proofs.Builder.Extra P ρ){C:(Nat→Prop)→World→Prop}(ao:∃fn c,P.funcs[ρ.f 156]? =some fn∧fn.body=some c):pv P C (ρ.f 156) Ba:=by
 intro N0 w0 bA dV args h v h' an φ w args' dw aX dy;unfold Ba at an;split at an
 ·rename_i a n c sep;split at an
  ·rename_i ar;obtain⟨aS,eA,bt,be⟩:=ar;split at an
   ·rename_i b px;split at an
    ·rename_i aF;split at an
     ·rename_i xs ee;split at an
      ·rename_i hlen;simp only [Option.some.injEq,Prod.mk.injEq]at an;obtain⟨rfl,rfl⟩:=an;obtain⟨l⟩:=args';simp only [bd]at dy;obtain⟨x,t,rfl,ab,y,t2,rfl,bi,rfl⟩:=dy;simp only [aA]at ab bi;obtain⟨u,rfl,rfl⟩:=bi;obtain⟨eP,cH,rfl,dt,bX,f'⟩:=ab;obtain⟨p,ag,h1,ir,hex⟩:=f'.plain aS;rcases ir with cl|⟨dK,rfl,k6⟩
       ·omega
       ·obtain⟨g1,fZ,g2,g3,g4,g5,g6,g7,g8⟩:=dw.cO _ _ _ ag;obtain⟨news,bK,n2,b2,cY,cU⟩:=dw.wX ag px dK aF.1 aF.2;obtain⟨lJ,bo,bO⟩:=FP ee bK;have hG:p.es=1:=by omega
        have uo:lJ.length=n:=by have:=cU;rw [bo,List.length_map,hG,Nat.mul_one]at this;exact this
        refine⟨ao,FO bA dw aX ?_⟩;rw [bO];rw [bO]at hlen;subst uo;exact Go.Proofs.Any.strings_Join L X p.bD (p.off+(a.idx-p.aB)*p.es) cH lJ u w (fun j z cl=>n2 j _ (by rw [bo,List.getElem?_map,cl];rfl)) g8.bD (by omega) (by omega) (by omega)
      ·cases an
     ·cases an
    ·cases an
   ·cases an
  ·cases an
 ·cases an
def Bb(T:TypeId):o8:=fun args h =>
 match args with
 |[.ptr (some a)] =>
  if a.idx=0∧a.fld=0 then
   match h.get a.id with
   |some b =>
    match b.a' with
    |[.agg [q,s]] =>
     if b.ro=false∧a.ver=b.ver∧b.ty=some (T,2)then
      match q with
      |.ptr none=>some (.tuple [],h.set a.id {b with a':=[.agg [.ptr (some a),s]],eD:=b.ver})
      |.ptr (some bN)=>if bN=a then some (.tuple [],h)else none
      |_=>none
     else none
    |_=>none
   |none=>none
  else none
 |_=>none
theorem Mm{ρ:Ren}(L:Go.Proofs.Lays.n240 P ρ)(X:Go.Proofs.Builder.X72 P ρ){C:(Nat→Prop)→World→Prop}(sj:∃fn c,P.funcs[ρ.f 240]? =some fn∧fn.body=some c):pv P C (ρ.f 240) (Bb (ρ.t 72)):=by
 intro N0 w0 bA dV args h v h' an φ w args' dw aX dy;unfold Bb at an;split at an
 ·rename_i a;split at an
  ·rename_i ar;obtain⟨ac,aS⟩:=ar;split at an
   ·rename_i b ao;split at an
    ·rename_i q s eV;split at an
     ·rename_i c0;obtain⟨dD,ld,hY⟩:=c0;obtain⟨l⟩:=args';simp only [bd]at dy;obtain⟨x,t,rfl,ab,rfl⟩:=dy;have pr:=ab;simp only [aA]at ab;obtain⟨x,rfl,p,ag,hG,dK,rfl⟩:=ab;obtain⟨g1,fZ,g2,g3,g4,g5,g6,g7,g8⟩:=dw.cO _ _ _ ag;rw [ao]at g2;simp at g2;subst g2;obtain⟨m,aB,du,k1,k2,bT⟩:=g8.hW _ hY;have hm:m=2:=k2 (show(2:Nat)≠0 by decide);subst hm;have Wi:p.aB=0:=by omega
      have r5:p.at a.idx a.fld=⟨p.bD,0,none⟩:=by simp [Place.at,ac,aS,bT]
      have FQ:b.a'[0]? =some (.agg [q,s]):=by rw [eV];rfl
      obtain⟨bU,b8,dj⟩:=g8.cont 0 _ (by omega) (by rw [ld];simp [aJ.cj,eV]) FQ;obtain⟨u,gw,gk,qQ⟩:=dj 0 q rfl;have Mn:p.at 0 0=⟨p.bD,0,none⟩:=by simp [Place.at,bT]
      rw [Mn]at gw;have Az:=ER k1;have FR:p.es=2:=by rw [←bU];rfl
      split at an
      ·simp only [Option.some.injEq,Prod.mk.injEq]at an;obtain⟨rfl,rfl⟩:=an;simp only [aA]at gk;subst gk
       have D4:w.frozen? ⟨p.bD,0,none⟩=false:=by have:=g8.free dD 0 (by rw [FR];omega);rw [bT]at this;simpa using this
       rw [ld]at ag
       obtain⟨jc,z2⟩:=dw.store ag ao dD (idx:=0) (fld:=0) (e:= .agg [.ptr none,s]) (e':= .agg [.ptr (some a),s]) (cs:=[.ptr (some a)]) (vs:=[.pointer (some ⟨p.bD,0,none⟩)]) (by omega) FQ
        (by simp only [bd];exact⟨_,_,rfl,by rw [←r5];exact pr,rfl⟩) (by intro x ab;simp at ab;subst ab;rfl) (by rw [FR];simp) rfl
       rw [eV]at jc;have bo:p.off+(0-p.aB)*p.es+0=0:=by rw [bT];simp
       rw [bo]at jc;refine⟨sj,?_⟩;rw [r5]
       exact(Go.Proofs.Any.Builder_copyCheck_fresh L X p.bD w gw Az D4).mono fun e aN ⟨he,hw⟩=>by subst hw;exact⟨_,φ,he,d'.refl _ _,by simp only [aA];exact⟨_,rfl,by simp only [bd]⟩,jc,aX.setCell (p:=⟨p.bD,0,none⟩) (g8.base (g6 dD)) _,Nat.le_refl _⟩
      ·rename_i bN;split at an
       ·rename_i Mo;subst Mo;simp only [Option.some.injEq,Prod.mk.injEq]at an;obtain⟨rfl,rfl⟩:=an;simp only [aA]at gk;obtain⟨qz,rfl,iv,dX,_,_,rfl⟩:=gk;rw [ag]at dX;simp at dX;subst dX;rw [r5]at gw;refine⟨sj,?_⟩;rw [r5]
        exact(Go.Proofs.Any.Builder_copyCheck_used L X p.bD w gw).mono fun e aN ⟨he,hw⟩=>by subst hw;exact⟨_,φ,he,d'.refl _ _,by simp only [aA];exact⟨_,rfl,by simp only [bd]⟩,dw,aX,Nat.le_refl _⟩
       ·cases an
      ·cases an
     ·cases an
    ·cases an
   ·cases an
  ·cases an
 ·cases an
end
end
end Go.ba
namespace Go.ba
noncomputable section
open Go.RowKit
section
variable {P:Program}{E:bh}
def J.j0:J→Bool
 |.bool _=>true
 |.int _ _=>true
 |.str _=>true
 |_=>false
theorem aA.j0{φ cm:Map}{v:J}{x:Value}(hs:v.j0=true)(h:aA φ v x):aA cm v x:=by cases v<;>simp only [J.j0,Bool.false_eq_true]at hs<;>simp only [aA]at h⊢ <;>exact h
theorem bd.j0{φ cm:Map} :∀{l:List J}{xs:List Value},l.all J.j0=true→bd φ l xs→bd cm l xs
 |[],xs,_,h=>by simpa only [bd]using h
 |a::r,xs,hs,h=>by simp only [List.all_cons,Bool.and_eq_true]at hs;simp only [bd]at h⊢;obtain⟨v,t,e,U,ak⟩:=h;exact⟨v,t,e,U.j0 hs.1,ak.j0 hs.2⟩
def uq:List (List J×J)→List J→Option J
 |[],_=>none
 |x::r,args=>if J.lC x.1 args then some x.2 else uq r args
def ur(t:List (List J×J)):o8:=fun args h=>(uq t args).map fun v=>(v,h)
theorem FT:∀{t:List (List J×J)} {args:List J} {v:J},uq t args=some v→(args,v)∈t
 |[],args,v,h=>by simp [uq]at h
 |x ::r,args,v,h=>by
  unfold uq at h;split at h
  ·rename_i hs;simp only [Option.some.injEq]at h;subst h;have:=J.qJ hs;subst this;exact List.mem_cons_self
  ·exact List.mem_cons_of_mem _ (FT h)
def Shown(P:Program)(E:bh)(f:FuncId)(x:List J×J):Prop:=x.1.all J.j0=true∧x.2.j0=true∧∃n h',jR P E n f x.1 ⟨0,.nil⟩=some (x.2,h')
theorem Mq(bR:fh P E)(dI:P.follows .mixedOrders=true)(Mr:∀N0 w0 w,dW N0 w0.heap.size→E.cond N0 w0→Safe N0 w0 w→E.cond (fun k=>k<w.heap.size) w){f:FuncId}{t:List (List J×J)}(bl:∀x∈t,Shown P E f x):pv P E.cond f (ur t):=by intro N0 w0 bA dV args h v h' an φ w args' dw aX dy;unfold ur at an;simp only [Option.map_eq_some_iff,Prod.mk.injEq]at an;obtain⟨v1,aS,rfl,rfl⟩:=an;obtain⟨s1,s2,n,U,gT⟩:=bl _ (FT aS);simp only at s1 s2 gT;have hs:=xn bR (N0:=fun k=>k<w.heap.size) (w0:=w) (fun _ h=>h) (Mr N0 w0 w bA dV aX) dI n f args ⟨0,.nil⟩ _ _ gT nw w args' (ch.empty _ _ _) (Safe.refl _ _) (dy.j0 s1);refine⟨hs.1,hs.2.mono fun e aN ⟨a8,bj,k1,k2,cr,c6,ev,kA⟩=> ?_⟩;exact⟨a8,φ,k1,d'.refl _ _,cr.j0 s2,dw.alike (Alike.below ev.below),aX.trans (ev.less fun i ac=>Nat.lt_of_lt_of_le (bA i ac) aX.size),Nat.le_refl _⟩
end
end
end Go.ba
namespace Go.ba
noncomputable section
open Go.RowKit
section
variable {P:Program}{E:bh}
def J.pG:J→Bool
 |.tuple l=>l.all J.j0
 |v=>v.j0
theorem aA.pG{φ cm:Map}{v:J}{x:Value}(hs:v.pG=true)(h:aA φ v x):aA cm v x:=by
 cases v with
 |tuple l =>
  simp only [J.pG]at hs;simp only [aA]at h⊢;obtain⟨xs,e,k⟩:=h;exact⟨xs,e,k.j0 hs⟩
 |_=>exact aA.j0 (by simpa [J.pG]using hs) h
structure fC(W:World)(g off C:Nat)(rs:List Int):Prop where
 bD:g<W.heap.size
 len:rs.length≤C
 cells:∀o,o<C→(W.cell? ⟨g,off+o,none⟩).isSome=true
 cont:∀i r,rs[i]? =some r→W.cell? ⟨g,off+i,none⟩=some (.int .i32 r)
theorem fC.below{W c4:World}{g off C n:Nat}{rs:List Int}(h:fC W g off C rs)(k:Below n W c4)(an:g<n):fC c4 g off C rs where
 bD:=Nat.lt_of_lt_of_le h.bD k.size
 len:=h.len
 cells o ap:=by rw [k.cell (p:=⟨g,off+o,none⟩) an];exact h.cells o ap
 cont i r aC:=by rw [k.cell (p:=⟨g,off+i,none⟩) an];exact h.cont i r aC
def pH(rs:List Int):List J:=rs.map fun r=>J.int .i32 r
def jD(rs:List Int):I:=(⟨1,.nil⟩:I).set 0 {a':=pH rs,es:=1,exact:=false,ro:=true,ver:=0,eD:=0,hU:=0,ty:=none}
def nx(g off C:Nat):Map:=fun i v=>if i=0∧v=0 then some ⟨g,off,0,1,C,false,true⟩else none
theorem fC.rel{W:World}{g off C:Nat}{rs:List Int}(h:fC W g off C rs)(N0:Nat→Prop):ch (nx g off C) N0 (jD rs) W where
 cO i v p ag:=by
  simp only [nx]at ag;split at ag
  ·rename_i e;obtain⟨rfl,rfl⟩:=e;simp at ag;subst ag;refine⟨by simp [jD],_,I.eG _ _ _,Nat.le_refl _,rfl,rfl,fun h=>by simp at h,by simp,?_⟩;constructor
   ·exact h.bD
   ·intro h;simp at h
   ·intro o ap;simp only at ap⊢; exact h.cells o (by omega)
   ·intro h;simp at h
   ·intro h;simp at h
   ·intro q aw;simp at aw
   ·intro i e _ ac he;simp only [pH,List.getElem?_map,Option.map_eq_some_iff]at he;obtain⟨r,aC,rfl⟩:=he;have aF:=(List.getElem?_eq_some_iff.1 aC).1;refine⟨rfl,by simp only;have:=h.len;omega,fun j br ab=> ?_⟩;cases j with
    |zero =>
     simp [J.cells]at ab;subst ab;refine⟨.int .i32 r,?_,by simp [aA],rfl⟩;simp only [Place.at,Nat.sub_zero,Nat.mul_one,Nat.add_zero];exact h.cont i r aC
    |succ j=>simp [J.cells]at ab
  ·cases ag
 apart i v p j u q ag aw ao eO:=by
  simp only [nx]at ag aw;split at ag<;>split at aw
  ·rename_i bo bO;exact absurd (bo.1.trans bO.1.symm) eO
  all_goals simp_all
 same i v p u q ag aw ao:=by
  simp only [nx]at ag aw;split at ag<;>split at aw
  ·simp at ag aw;subst ag aw;exact⟨rfl,rfl⟩
  all_goals simp_all
theorem fC.slice{g off C p n c eN:Nat}(U:n≤c)(ak:c≤eN)(aP:p+eN≤C):aA (nx g off C) (.slice (some ⟨0,0,p,0,1⟩) n c) (.slice (some ⟨g,off+p,none⟩) n eN):=by simp only [aA];refine⟨_,_,rfl,U,ak,.inl ⟨rfl,_,rfl,rfl,.inr ⟨Nat.zero_le _,?_,by simpa using aP⟩,fun h=>by simp at h⟩⟩;simp [Place.at]
theorem fC.FU{φ:Map}{N0:Nat→Prop}{h:I}{W:World}(r:ch φ N0 h W){a:aO}{n c:Nat}{x:Value}{b:aJ}{rs:List Int}(ab:aA φ (.slice (some a) n c) x)(aS:a.fld=0)(eA:a.es=1)(be:0<n)(ao:h.get a.id=some b)(aF:a.idx+n≤b.cj a.ver)(he:(b.a'.drop a.idx).take n=pH rs)(hle:a.idx+n≤b.a'.length) :
 ∃g off C,x=.slice (some ⟨g,off,none⟩) rs.length C∧n=rs.length∧fC W g off C rs∧(∃p,φ a.id a.ver=some p∧p.bD=g∧(p.ro=false→ ¬N0 g)):=by
 simp only [aA]at ab;obtain⟨eP,cH,rfl,dt,bX,f'⟩:=ab;obtain⟨p,ag,h1,ir,hex⟩:=f'.plain aS
 have tR:n=rs.length:=by have:=congrArg List.length he;simp [pH]at this;omega
 rcases ir with cl|⟨dK,rfl,k6⟩
 ·omega
 ·obtain⟨g1,fZ,g2,g3,g4,g5,g6,g7,g8⟩:=r.cO _ _ _ ag;rw [ao]at g2;simp at g2;subst g2;have hG:p.es=1:=by omega
  subst tR;refine⟨p.bD,p.off+(a.idx-p.aB),cH,by simp [Place.at,hG],rfl,⟨g8.bD,by omega,fun o ap=> ?_,fun i q aw=> ?_⟩,p,ag,rfl,g8.base⟩
  ·have:=g8.cells (a.idx-p.aB+o) (by rw [hG];omega)
   rwa [←Nat.add_assoc]at this
  ·have ac:=(List.getElem?_eq_some_iff.1 aw).1
   have bo:b.a'[a.idx+i]? =some (.int .i32 q):=by
    have:=congrArg (fun l=>l[i]?) he;simp only [List.getElem?_take,List.getElem?_drop,pH,List.getElem?_map,aw,Option.map_some]at this
    rwa [if_pos ac]at this
   obtain⟨k1,k2,bT⟩:=g8.cont (a.idx+i) _ (by omega) (by omega) bo;obtain⟨y,gw,gk,qQ⟩:=bT 0 _ rfl;simp only [aA]at gk;subst gk;rw [←gw];simp only [Place.at,hG,Nat.mul_one,Nat.add_zero]
   congr 2;omega
theorem ch.FV{φ:Map}{N0:Nat→Prop}{h:I}{w:World}(r:ch φ N0 h w){nid g:Nat}(hid:∀v,φ nid v=none)(be:nid<h.next)(bA:¬N0 g)(an:∀i v p,φ i v=some p→p.bD≠g)
 {l:List J} {es:Nat} (eA:0<es) (aF:∀e∈l,e.cells.length=es) {c:Array Value} {t:TypeId} {tot:Nat} {ex:Bool} (ao:w.heap[g]? =some (.cells c t (0,0)))
 (ar:bd φ (flat l) (c.toList.take (l.length*es))) (di:tot*es≤c.size) (k6:l.length≤tot) (hD:∀x∈c.toList.take (l.length*es),x.oneCell'=true) {ty:Option (TypeId×Nat)} (hY:∀q,ty=some q→q.1=t∧(q.2≠0→c.size=q.2)) :
 ch (φ.add nid 0 ⟨g,0,0,es,tot,ex,false⟩) N0 (h.set nid (.made l es ex ty)) w:=by
 have hle:=φ.pb (id:=nid) (v:=0) ⟨g,0,0,es,tot,ex,false⟩ (hid 0);have jw:∀o,w.cell? ⟨g,o,none⟩=c[o]? :=fun o=>by simp [World.cell?,ao]
 have lI:∀o,w.frozen? ⟨g,o,none⟩=false:=fun o=>by simp [World.frozen?,ao]
 constructor
 ·intro i v p ag;simp only [Map.add]at ag;split at ag
  ·rename_i e;obtain⟨rfl,rfl⟩:=e;simp at ag;subst ag;refine⟨be,.made l es ex ty,I.eG _ _ _,Nat.le_refl _,rfl,rfl,fun _=>rfl,eA,?_⟩;constructor
   ·exact(Array.getElem?_eq_some_iff.1 ao).1
   ·intro _;exact bA
   ·intro o ap;simp only at ap⊢;rw [jw,Nat.zero_add,Array.getElem?_eq_getElem (by omega)];rfl
   ·intro _ o ap;exact lI _
   ·intro _;exact⟨t,c.size,0,0,by simp [eF,ao],.inl rfl⟩
   ·intro e1 bl;exact⟨c.size,0,0,by rw [(hY e1 bl).1];simp [eF,ao],(hY e1 bl).2,rfl⟩
   ·intro i e _ ac he;rw [aJ.zJ]at ac;simp at ac;have iq:l[i]? =some e:=he;have hm:e∈l:=List.mem_of_getElem? iq;refine⟨aF e hm,by simp only;omega,fun j br ab=> ?_⟩;have aS:=mb aF iq ab;obtain⟨x,c3,eH⟩:=ar.get aS;refine⟨x,?_,eH.mono hle,hD x (List.mem_of_getElem? c3)⟩;simp only [Place.at,Nat.sub_zero,Nat.zero_add];rw [jw];rw [List.getElem?_take]at c3;split at c3
    ·simpa using c3
    ·simp at c3
  ·obtain⟨U,b,ak,aP,bQ,ct,cL,eT,bZ⟩:=r.cO i v p ag;have cg:nid≠i:=by intro e;subst e;rw [hid v]at ag;cases ag
   exact⟨U,b,by rw [I.hX _ _ cg];exact ak,aP,bQ,ct,cL,eT,bZ.mono hle⟩
 ·intro i v p j u q ag aw ao eO;simp only [Map.add]at ag aw;split at ag<;>split at aw
  ·rename_i bo bO;exact absurd (bo.1.trans bO.1.symm) eO
  ·simp at ag;subst ag;exact absurd ao.symm (an _ _ _ aw)
  ·simp at aw;subst aw;exact absurd ao (an _ _ _ ag)
  ·exact r.apart i v p j u q ag aw ao eO
 ·intro i v p u q ag aw ao;simp only [Map.add]at ag aw;split at ag<;>split at aw
  ·simp at ag aw;subst ag aw;exact⟨rfl,rfl⟩
  ·simp at ag;subst ag;exact absurd ao.symm (an _ _ _ aw)
  ·simp at aw;subst aw;exact absurd ao (an _ _ _ ag)
  ·exact r.same i v p u q ag aw ao
theorem fC.calls(bR:fh P E)(dI:P.follows .mixedOrders=true){W:World}{g off C:Nat}{rs:List Int}(h:fC W g off C rs)(dV:E.cond (fun k=>k<W.heap.size) W){n:Nat}{f:FuncId}{args:List J}{v:J}{h':I}(hs:v.pG=true)(gT:jR P E n f args (jD rs)=some (v,h')){args':Array Value}(dy:bd (nx g off C) args args'.toList) :
 Calls P f args' W fun e c4=> ∃a8,e=.returned a8∧aA nw v a8∧Below W.heap.size W c4 :=
 (xn bR (N0:=fun k=>k<W.heap.size) (w0:=W) (fun _ h=>h) dV dI n f args (jD rs) _ _ gT (nx g off C) W args' (h.rel _) (Safe.refl _ _) dy).2.mono
  fun e aN ⟨a8,bj,k1,k2,cr,c6,ev,kA⟩=>⟨a8,k1,cr.pG hs,ev.below⟩
end
end
end Go.ba
namespace Go.Proofs.YtjpfnbihopoeeaaGreatDoor
open Go.RowKit Go.Shelf Go.ba
attribute [local go_sem] Oper.semAt_some
structure h4 where
 n:Nat
 t:List UInt8
 w:Int
abbrev qR:=Int×List UInt8×Int
def xq(x:qR):Array Value:= #[.int .i64 x.1,.agg #[.string ⟨x.2.1.toArray⟩,.int .i64 x.2.2]]
def jd:Int→List h4→List qR
 |_,[]=> []
 |a,s::r=>(a,s.t,s.w)::jd (wrap64 (a+(s.t.length:Nat))) r
def Bc(Q:World→Prop)(rs:List Int)(p:Nat)(s:h4):Prop :=
 0 <s.n∧p+s.n≤rs.length∧s.t.length<2^62∧∀(W:World)(g off C:Nat),fC W g off C rs→Q W →
   (Calls Tryz.prog 125 #[.slice (some ⟨g,off+p,none⟩) (rs.length-p) (C-p)] W fun e c4=>e=.returned (.tuple #[.int .i64 s.n,.int .i64 s.w])∧Below W.heap.size W c4) ∧
   (Calls Tryz.prog 126 #[.slice (some ⟨g,off+p,none⟩) s.n (C-p)] W fun e c4=>e=.returned (.string ⟨s.t.toArray⟩)∧Below W.heap.size W c4)
def qS(Q:World→Prop)(rs:List Int):Nat→List h4→Prop
 |p,[]=>p=rs.length
 |p,s::r=>Bc Q rs p s∧qS Q rs (p+s.n) r
theorem Bd{S:Nat→Prop}{W c4:World}{g off C:Nat}{rs:List Int}(h:fC W g off C rs)(k:Go.ba.Safe S W c4)(an:S g):fC c4 g off C rs where
 bD:=Nat.lt_of_lt_of_le h.bD k.size
 len:=h.len
 cells o ap:=by rw [World.cell?_of_block (a:=⟨g,off+o,none⟩) (k.block g an)];exact h.cells o ap
 cont i r aC:=by rw [World.cell?_of_block (a:=⟨g,off+i,none⟩) (k.block g an)];exact h.cont i r aC
theorem Be{S:Nat→Prop}{m:Nat}{W c4:World}(k:Below m W c4)(cb:∀i,S i→i<m):Go.ba.Safe S W c4:=⟨k.os,k.tape,k.output,k.size,fun i ac=>k.block i (cb i ac)⟩
set_option maxRecDepth 100000 in
set_option maxHeartbeats 1000000 in
theorem Ms(n:Nat)(be:1≤n)(l jE g off C:Nat)(S:Nat→Prop)(Q:World→Prop)(rs:List Int)(c8:List h4)(ou xr:List qR→World→Prop)
 (xt:∀s W c4,ou s W→Below W.heap.size W c4→ou s c4)
 (dZ:∀W c4,Q W→Go.ba.Safe S W c4→Q c4)
 (us:∀pre x W,ou pre W→pre.length<c8.length→YieldAt Fence.wide (n-1) Tryz.prog l (xq x) W fun e c4 =>
  (e=.returned (.bool true)∧ou (pre++[x]) c4∧Go.ba.Safe S W c4)∨(e=.returned (.bool false)∧xr (pre++[x]) c4))
 (W:World) (cb:∀i,S i→i<W.heap.size) (v:Value) (xu:W.cell? ⟨jE,0,none⟩=some v) (a7:(∃x c,v=.slice x rs.length c)∧(0<rs.length→v=.slice (some ⟨g,off,none⟩) rs.length C)) (e2:0<rs.length→fC W g off C rs∧S g) (aw:Q W) (Bf:qS Q rs 0 c8) (bt:ou [] W) :
 CallsIn Fence.wide n Tryz.prog 124 #[.func (.yield l) #[] #[],.pointer (some ⟨jE,0,none⟩)] W fun e c4=>(∃v,e=.returned v) ∧
  ((∃ys,ys=jd 0 c8∧ou ys c4)∨(∃pre,pre <+: jd 0 c8∧xr pre c4)):=by
 obtain⟨⟨kD,jO,tQ⟩,kZ⟩:=a7;refine callsIn_of_wp Tryz.func124 rfl trivial ?_ rfl;simp only [Tryz.ntmps124,List.size_toArray,List.length_cons,List.length_nil,Nat.reduceAdd,Nat.reduceSub,Array.replicate_succ,Array.replicate_zero,List.push_toArray,List.append_toArray,List.nil_append,List.cons_append]
 gi_wp2
 subst tQ
 gi_loopw [3,4] (fun pl pI wr=> ∃(pre:List qR)(rest:List h4)(a:Int)(q:Nat),pl=.int .i64 a∧jd 0 c8=pre++jd a rest∧pre.length+rest.length=c8.length∧qS Q rs q rest∧q≤rs.length∧(∃x c,pI=.slice x (rs.length-q) c)∧(q<rs.length→pI=.slice (some ⟨g,off+q,none⟩) (rs.length-q) (C-q))∧ou pre wr∧Go.ba.Safe S W wr)
  (fun _ pI _=>match pI with|.slice _ k _=>k|_=>0)
 case atStart =>
  exact⟨[],c8,0,0,rfl,rfl,by simp,Bf,Nat.zero_le _,⟨kD,jO,rfl⟩,fun h=>by simpa using kZ h,bt,Go.ba.Safe.refl _ _⟩
 case round =>
  obtain⟨pre,rest,a,q,rfl,lH,hlen,ar,Wj,⟨x,c,rfl⟩,Mt,FW,hs⟩:=hrel;have FX:∀i,S i→i<wr.heap.size:=fun i ac=>Nat.lt_of_lt_of_le (cb i ac) hs.size
  have qT:=dZ _ _ aw hs;cases rest with
  |nil =>
   obtain rfl:q=rs.length:=ar;have cl:¬(0:Int)<((rs.length-rs.length:Nat):Int):=by omega
   gi_wp2
   go_end0
   exact⟨⟨_,rfl⟩,.inl (by simpa [jd]using FW)⟩
  |cons s rest =>
   obtain⟨⟨Wk,hle,kx,FY⟩,nr⟩:=ar;have bH:q<rs.length:=by omega
   obtain⟨e2,an⟩:=e2 (by omega);have FZ:=Bd e2 hs an;have e:=Mt bH;simp only [Value.slice.injEq,true_and]at e;obtain⟨rfl,rfl⟩:=e;have cl:(0:Int)<((rs.length-q:Nat):Int):=by omega
   obtain⟨dO,_⟩:=FY wr g off C FZ qT;have f1:Fence.wide.fn 125:=trivial;have f2:Fence.wide.fn 126:=trivial;have jX:s.n≤C-q:=by have:=e2.len;omega
   have kB:s.n≤rs.length-q:=by omega
   gi_wp2_with (gi_at_call 125;refine(callsIn_wide.2 dO).mono ?_;rintro e b9 ⟨rfl,iI⟩)
   have c':Go.ba.Safe S wr b9:=Be iI FX;have Mu:=Bd FZ c' an;obtain⟨_,Mv⟩:=FY b9 g off C Mu (dZ _ _ qT c')
   gi_wp2_with (gi_at_call 126;refine(callsIn_wide.2 Mv).mono ?_;rintro e cJ ⟨rfl,kw⟩)
   have mr:Go.ba.Safe S b9 cJ:=Be kw fun i ac=>Nat.lt_of_lt_of_le (FX i ac) iI.size
   have Mw:=xt _ _ _ (xt _ _ _ FW iI) kw;obtain⟨fn,tmps,assign,body,bi,Mx⟩:=us pre (a,s.t,s.w) cJ Mw (by simp at hlen;omega);simp only [xq]at bi
   gi_wp2
   simp only [go_sem,bi];refine⟨fun _=>be,Mx.mono ?_⟩;rintro e fb (⟨rfl,My,Mz⟩|⟨rfl,MA⟩)
   ·gi_wp2
    go_roundw
    case rel =>
     refine⟨pre++[(a,s.t,s.w)],rest,_,q+s.n,rfl,by rw [lH];simp [jd],by simp at hlen⊢; omega,nr,hle,?_,?_,My,((hs.trans c').trans mr).trans Mz⟩
     ·exact⟨_,_,by rw [Nat.sub_sub]⟩
     ·intro h;have Wl:=e2.len;rw [if_neg (by omega)];simp only [Value.slice.injEq,Option.some.injEq,Addr.mk.injEq,true_and,and_true];omega
    case measure =>
     show rs.length-q-s.n<rs.length-q;omega
   ·gi_wp2
    refine bodyPost_ret (results_none rfl _ _ _) rfl ?_;exact⟨⟨_,rfl⟩,.inr ⟨pre++[(a,s.t,s.w)],by rw [lH];simp [jd],MA⟩⟩
theorem MB(n:Nat)(be:1≤n)(jE g off C:Nat)(S:Nat→Prop)(Q:World→Prop)(rs:List Int)(c8:List h4)(w:World)
 (dZ:∀W c4,Q W→Go.ba.Safe S W c4→Q c4) (cb:∀i,S i→i<w.heap.size) (Bg:jE<w.heap.size)
 (v:Value) (xu:w.cell? ⟨jE,0,none⟩=some v) (a7:(∃x c,v=.slice x rs.length c)∧(0<rs.length→v=.slice (some ⟨g,off,none⟩) rs.length C)) (e2:0<rs.length→fC w g off C rs∧S g) (aw:Q w) (Bf:qS Q rs 0 c8) :
 SeqStopsK Fence.wide n Tryz.prog 124 #[.pointer (some ⟨jE,0,none⟩)] xq (Go.ba.Safe S) (fun ys=>ys=jd 0 c8) (fun pre=>pre <+: jd 0 c8) c8.length w:=by
 intro l ou xr W jt dy _ us bt;have sk:Go.ba.Safe S w W:=Be jt cb;refine Ms n be l jE g off C S Q rs c8 ou xr (fun s A B xt ao=> ?_) dZ us W (fun i ac=>Nat.lt_of_lt_of_le (cb i ac) jt.size) v ((jt.cell (p:=⟨jE,0,none⟩) Bg).trans xu) a7 (fun h=>⟨Bd (e2 h).1 sk (e2 h).2,(e2 h).2⟩) (dZ _ _ aw sk) Bf bt;exact dy s A B none xt ⟨ao.os,ao.tape,ao.output,ao.size,fun k az _=>ao.block k az⟩ fun r e=>by cases e
end Go.Proofs.YtjpfnbihopoeeaaGreatDoor
namespace Go.Proofs.YtjpfnbihopoeeaaGreatDoor
open Go.RowKit Go.Shelf Go.ba
attribute [local go_sem] Oper.semAt_some
theorem MC:(Tryz.prog.info? 92).map (fun i=>(i.zero,i.size,i.bytes))=some (some (.agg #[.string .empty,.int .i64 0]),2,24):=by kernel_rfl
def ms(xs:List qR):List Value:=xs.flatMap fun x=> [Value.string ⟨x.2.1.toArray⟩,Value.int .i64 x.2.2]
theorem MD(xs:List qR)(x:qR):ms (xs++[x])=ms xs++[Value.string ⟨x.2.1.toArray⟩,Value.int .i64 x.2.2]:=by simp [ms]
theorem F0:∀(a:Int)(c8:List h4),(jd a c8).length=c8.length
 |_,[]=>rfl
 |a,s::r=>by simp only [jd,List.length_cons,F0 _ r]
structure sl(Q:World→Prop)(s:ByteArray)(rs:List Int)(c8:List h4):Prop where
 qU:c8.length≤2^30
 ew:∀W,Q W→Calls Tryz.prog 123 #[.string s] W fun e c4=>Below W.heap.size W c4 ∧
  ∃v g off C,e=.returned v∧((∃x c,v=.slice x rs.length c)∧(0<rs.length→v=.slice (some ⟨g,off,none⟩) rs.length C))∧(0<rs.length→fC c4 g off C rs∧W.heap.size≤g)
 chain:qS Q rs 0 c8
set_option maxRecDepth 100000 in
set_option maxHeartbeats 2000000 in
theorem ME(Q:World→Prop)(dZ:∀W c4,Q W→Below W.heap.size W c4→Q c4)(s:ByteArray)(rs:List Int)(c8:List h4)(bl:sl Q s rs c8)(w:World)(aw:Q w) :
 Calls Tryz.prog 74 #[.string s] w fun e c4=>Below w.heap.size w c4∧∃jE v g off C,e=.returned (.func (.func 124) #[] #[.pointer (some ⟨jE,0,none⟩)])∧jE<c4.heap.size∧c4.cell? ⟨jE,0,none⟩=some v ∧
  ((∃x c,v=.slice x rs.length c)∧(0<rs.length→v=.slice (some ⟨g,off,none⟩) rs.length C))∧(0<rs.length→fC c4 g off C rs∧w.heap.size≤g):=by
 refine(callsIn_wide (n:=5)).1 ?_;refine callsIn_of_wp Tryz.func74 rfl trivial ?_ rfl;have f1:Fence.wide.fn 123:=trivial;simp only [Tryz.ntmps74,List.size_toArray,List.length_cons,List.length_nil,Nat.reduceAdd,Nat.reduceSub,Array.replicate_succ,Array.replicate_zero,List.push_toArray,List.append_toArray,List.nil_append,List.cons_append]
 gi_wp2_with (gi_at_call 123;refine(callsIn_wide.2 (bl.ew w aw)).mono ?_;rintro e b9 ⟨ao,v,g,off,C,rfl,⟨⟨kD,jO,rfl⟩,a7⟩,e2⟩)
 go_ret
 have kw:Below b9.heap.size b9 (b9.alloc (.cells #[.slice kD rs.length jO] 139)):=(Below.refl _ _).alloc (Nat.le_refl _) _;refine⟨ao.trans (kw.mono ao.size),b9.heap.size,_,g,off,C,rfl,by simp,(Boxed.new b9 _ _).cell,⟨⟨kD,jO,rfl⟩,a7⟩,fun h=>⟨(e2 h).1.below kw (e2 h).1.bD,(e2 h).2⟩⟩
structure uu(N:Nat→Prop)(Q:World→Prop):Prop where
 low:∀W,Q W→ ∀i,N i→i<W.heap.size
 keep:∀S W c4,(∀i,N i→S i)→Q W→Go.ba.Safe S W c4→Q c4
theorem uu.below{N:Nat→Prop}{Q:World→Prop}(h:uu N Q){W c4:World}(q:Q W)(k:Below W.heap.size W c4):Q c4 :=
 h.keep (fun i=>i<W.heap.size) W c4 (h.low W q) q ⟨k.os,k.tape,k.output,k.size,k.block⟩
theorem MF{S:Nat→Prop}{m:Nat}(cb:∀i,S i→i<m)(W:World)(l:Nat)(o hE:Obj)(aF:m≤l)(h:W.heap[l]? =some o)(_:o.isCells=false)(_:o.isWalk=false):Go.ba.Safe S W (W.putObj l hE) :=
 ⟨rfl,rfl,rfl,by simp,fun k az=>World.putObj_heap_other (by have:=cb k az;omega)⟩
theorem cell_two_new(W:World)(a b:Value)(t:TypeId)(j:Nat)(u:Value)(h: [a,b][j]? =some u):(W.alloc (.cells #[a,b] t)).cell? ((⟨W.heap.size,0,none⟩:Addr).add j)=some u:=by
 have e:(⟨W.heap.size,0,none⟩:Addr).add j=⟨W.heap.size,j,none⟩:=by simp [Addr.add];intro h;exact h.symm
 rw [e,qq];simpa using h
theorem Bh{W:World}{b fZ:Nat}{e:TypeId}{size:Nat}{v:Value}{k:Nat}{xs:List Value}(h:W.ownsRow b e size v k xs)(ao:fZ≤b):W.ownsRow fZ e size v k xs:=by
 refine⟨h.1,?_⟩;rcases h.2 with U|⟨g,cap,sm,U,ak,aP⟩
 ·exact .inl U
 ·exact .inr ⟨g,cap,sm,U,Nat.le_trans ao ak,aP⟩
set_option maxRecDepth 100000 in
set_option maxHeartbeats 2000000 in
theorem F1(N:Nat→Prop)(Q:World→Prop)(dZ:uu N Q)(s:ByteArray)(rs:List Int)(c8:List h4)(bl:sl Q s rs c8)(w:World)(aw:Q w) :
 Calls Tryz.prog 141 #[.string s] w fun e c4=>Below w.heap.size w c4∧∃v,e=.returned v∧c4.ownsRow w.heap.size 92 2 v c8.length (ms (jd 0 c8))∧(c8=[]→v=.slice none 0 0):=by
 obtain⟨i0,ac,EY,jb,gv⟩:=info_parts MC;refine(callsIn_wide (n:=5)).1 ?_;refine callsIn_of_wp_marks Tryz.func141 rfl trivial ?_ rfl;have f1:Fence.wide.fn 74:=trivial;simp only [Tryz.ntmps141,List.size_toArray,List.length_cons,List.length_nil,Nat.reduceAdd,Nat.reduceSub,Array.replicate_succ,Array.replicate_zero,List.push_toArray,List.append_toArray,List.nil_append,List.cons_append];have cS:Below w.heap.size w (w.alloc (.cells #[.slice none 0 0] 115)):=(Below.refl _ _).alloc (Nat.le_refl _) _;have F2:=dZ.below aw cS
 gi_wp2_with (gi_at_call 74;refine(callsIn_wide.2 (ME Q (fun _ _ q k=>dZ.below q k) s rs c8 bl _ F2)).mono ?_;rintro e b9 ⟨ao,jE,v,g,off,C,rfl,Bg,xu,a7,e2⟩)
 have di:w.heap.size+1≤b9.heap.size:=by have:=ao.size;rwa [World.size_alloc]at this
 have MG:Below w.heap.size w b9:=cS.trans (ao.mono (by rw [World.size_alloc];omega));have MH:Boxed b9 w.heap.size 115 (.slice none 0 0):=(ao.block _ (by rw [World.size_alloc];omega)).trans (Boxed.new w _ _);have Em:=dZ.below F2 ao;obtain⟨S,xv⟩:∃S:Nat→Prop,S=fun k=>k<b9.heap.size∧k≠w.heap.size:=⟨_,rfl⟩
 have Bi:∀i,S i→i<b9.heap.size:=fun i h=>by rw [xv]at h;exact h.1
 have MI:∀i,N i→S i:=fun i h=>by rw [xv];have:=dZ.low w aw i h;exact⟨by omega,by omega⟩
 refine wpIn_rangeFunc_ownH rfl (by omega) (gf:=124) (lb:= #[.pointer (some ⟨jE,0,none⟩)]) rfl trivial (enters_of Tryz.func124 (by kernel_rfl) rfl)
  (MB (5-1) (by omega) jE g off C S Q rs c8 b9 (fun W c4 q k=>dZ.keep S W c4 MI q k) Bi Bg v xu a7 (fun h=>⟨(e2 h).1,by rw [xv];exact⟨(e2 h).1.bD,by have:=(e2 h).2;rw [World.size_alloc]at this;omega⟩⟩) Em bl.chain)
  (fun h k=>h.trans k) (MF Bi) (Below.refl _ _) (fun _=>rfl)
  (fun pre W=>(∃v,Boxed W w.heap.size 115 v∧W.ownsRow b9.heap.size 92 2 v pre.length (ms pre)∧(pre=[]→v=.slice none 0 0))∧(Below w.heap.size w W∧b9.heap.size≤W.heap.size))
  (fun _ _ _=>False)
  (OwnFrom.and (Own.from (holdsRow_own b9.heap.size w.heap.size 115 92 2 (fun pre=>pre.length) (fun pre=>ms pre) (fun pre v=>pre=[]→v=.slice none 0 0)) _) (fun s A B row hs an aC=>⟨(ownFrom_below (Nat.le_refl _) (by omega)) s A B row hs.1 an aC,Nat.le_trans hs.2 an.size⟩))
  (fun _ _ _ _ _ hs _ _=>hs)
  ⟨⟨_,MH,World.ownsRow_nil _ _ _ _,fun _=>rfl⟩,MG,Nat.le_refl _⟩
  (fun x bN W=> ∃B,b9.heap.size≤B∧W.heap[B]? =some (.cells #[.string ⟨x.2.1.toArray⟩,.int .i64 x.2.2] 92 (0,0)) ∧
   bN= {tmps:= #[.string s,undef,.slice none 0 0,.pointer (some ⟨w.heap.size,0,none⟩),undef,.pointer (some ⟨B,0,none⟩),.string s,.func (.func 124) #[] #[.pointer (some ⟨jE,0,none⟩)],.int .i64 x.1,.agg #[.string ⟨x.2.1.toArray⟩,.int .i64 x.2.2],undef,undef,undef,undef,undef],defers:=[]})
  (fun x bN s A B row hs an aC=>by
   obtain⟨b,U,ak,aP⟩:=hs
   exact⟨b,U,(grownBy_keeps_cells an (fun r e=>(aC r e).2) ak rfl).trans ak,aP⟩)
  ?assign ?body ?done ?stop
 case assign =>
  rintro l pre x W K ⟨⟨v,a7,hn,qV⟩,aX,hm⟩ dL;simp only [xq]
  gi_wp2
  have an:=World.grownBy_alloc W (.cells #[.string ⟨x.2.1.toArray⟩,.int .i64 x.2.2] 92) none
  exact dL _ _ ((KeepsOthers.alloc W _).from _) ((Go.ba.Safe.refl S W).alloc (fun i ac=>Nat.lt_of_lt_of_le (Bi i ac) hm) _)
   ⟨⟨v,a7.alloc _,hn.alloc _,qV⟩,(aX.alloc (Nat.le_trans aX.size (Nat.le_refl _)) _),by rw [World.size_alloc];omega⟩
   ⟨_,hm,World.alloc_heap_new W _,rfl⟩
 case body =>
  rintro l pre x bN W aF Wm ⟨⟨v,a7,hn,_⟩,aX,hm⟩ ⟨b,iI,kw,rfl⟩ bH;have ar:=a7.cell;have pr:W.cell? ⟨b,0,none⟩=some (.string ⟨x.2.1.toArray⟩):=by simp [World.cell?,kw]
  have c3:W.cell? ⟨b,1,none⟩=some (.int .i64 x.2.2):=by simp [World.cell?,kw]
  have xw:=bl.qU
  gi_wp2_with (gi_at_builtin;refine wpListIn_append_own _ rfl _ _ 115 rfl b9.heap.size 92 i0 (.agg #[.string .empty,.int .i64 0]) 2 24 Tryz.underlying115 ac EY jb gv rfl (by decide) _ _ _ rfl (hn.alloc _) ⟨W.heap.size,0,none⟩ 1 1 [.string ⟨x.2.1.toArray⟩,.int .i64 x.2.2] rfl rfl ?_ (by simp [Value.oneCell']) (by simp [maxLen];omega) (by omega) (by simp;omega) ?_;rotate_left;intro a8 cJ xx qW _;obtain⟨l4,cH,rfl⟩:=ownsRow_succ xx;obtain⟨kZ,rZ,F3,fM,MJ⟩:=a7.appended (n₀:=w.heap.size) (by decide) (Bh hn (by omega)) aX.size (Nat.le_refl _) (Bh xx (by omega)) qW;have nn:=kZ.cell;have Wn:=kZ.frozen)
  ·have MK:(W.alloc (.cells #[.string ⟨x.2.1.toArray⟩,.int .i64 x.2.2] 92)).grownBy cJ v.ownBlock:=qW;refine⟨fM.from _,?_,⟨⟨_,rZ,?_,fun h=>by simp at h⟩,aX.trans MJ,?_⟩⟩
   ·refine⟨?_,?_,?_,?_,?_⟩
    ·exact qW.os
    ·exact qW.tape
    ·exact qW.output
    ·exact Nat.le_trans (by rw [World.size_alloc];omega) (Nat.le_trans qW.size (KeepsWalks.setCell cJ _ _).size)
    ·intro k az;rw [xv]at az;rw [Below.heap_setCell _ _ _ k az.2,MK.block k (by rw [World.size_alloc];omega) (fun e=> ?_),Below.heap_alloc _ _ _ (by omega)];rcases hn.2 with ⟨rfl,_⟩|⟨g2,cap,sm,rfl,cC,_⟩
     ·simp [Value.ownBlock]at e
     ·simp [Value.ownBlock]at e;omega
   ·rw [MD,List.length_append];exact xx.kept (grownBy_setCell' cJ w.heap.size _) (.inr (kZ.not_row (by decide) xx).symm)
   ·have:=qW.size;have:=(KeepsWalks.setCell cJ ⟨w.heap.size,0,none⟩ (.slice (some ⟨l4,0,none⟩) (pre.length+1) cH)).size;rw [World.size_alloc]at *; omega
  ·exact cell_two_new W _ _ _
 case done =>
  rintro D ys W cp rfl ⟨⟨v,a7,hn,qV⟩,aX,hm⟩ dL;have ar:=a7.cell
  gi_wp2
  refine⟨by simp,.inl ⟨_,_,rfl,run_takeDeferred dL,?_⟩⟩;refine⟨_,results_tmp rfl _ _ _,aX.trans (belowK_b (w:=b9) (by omega) W D _ _ (by simpa using cp) dL rfl rfl),v,rfl,?_⟩;have e:(jd 0 c8).length=c8.length:=F0 0 c8;rw [e]at hn;exact⟨ownsRow_putObj (Bh hn (by omega)) _ dL rfl,fun h=>qV (by rw [h];rfl)⟩
 case stop =>
  rintro D c pre W _ _ h _;exact h.elim
end Go.Proofs.YtjpfnbihopoeeaaGreatDoor
namespace Go.ba
noncomputable section
section
variable {β:Type}
def fU(n:Nat)(k:Nat→β):β:=Nat.rec (motive:=fun _=>β) (k 0) (fun m _=>k (Nat.succ m)) n
theorem lO(n:Nat)(k:Nat→β):fU n k=k n:=by cases n<;>rfl
def Bj(n:Int)(k:Int→β):β :=
 match n with
 |.ofNat m=>fU m fun m=>k (.ofNat m)
 |.negSucc m=>fU m fun m=>k (.negSucc m)
theorem ML(n:Int)(k:Int→β):Bj n k=k n:=by cases n<;>simp [Bj,lO]
def F4(d:IntKind)(k:IntKind→β):β :=
 match d with
 |.i8=>k .i8|.i16=>k .i16|.i32=>k .i32|.i64=>k .i64|.u8=>k .u8|.u16=>k .u16|.u32=>k .u32|.u64=>k .u64
theorem MM(d:IntKind)(k:IntKind→β):F4 d k=k d:=by cases d<;>rfl
def sn(b:Bool)(k:Bool→β):β :=
 match b with
 |true=>k true
 |false=>k false
theorem F5(b:Bool)(k:Bool→β):sn b k=k b:=by cases b<;>rfl
def xy(a:aO)(k:aO→β):β :=
 match a with
 |⟨a,b,c,d,e⟩=>fU a fun a=>fU b fun b=>fU c fun c=>fU d fun d=>fU e fun e=>k ⟨a,b,c,d,e⟩
theorem F6(a:aO)(k:aO→β):xy a k=k a:=by cases a;simp [xy,lO]
def Bk(b:UInt8)(k:UInt8→β):β :=
 match b with
 |⟨⟨⟨n,h⟩⟩⟩=>fU n fun m=>k (UInt8.ofNat m)
theorem MN(b:UInt8)(k:UInt8→β):Bk b k=k b:=by
 obtain⟨⟨⟨n,h⟩⟩⟩:=b;simp only [Bk,lO]
 congr 1
 apply UInt8.toNat_inj.1;simp [UInt8.toNat,UInt8.ofNat];omega
def xz:List UInt8→(List UInt8→β)→β
 |[],k=>k []
 |b::r,k=>Bk b fun b=>xz r fun r=>k (b::r)
theorem F7:∀(l:List UInt8)(k:List UInt8→β),xz l k=k l
 |[],k=>rfl
 |b::r,k=>by simp only [xz,MN,F7 r]
def qX(v:J)(k:J→β):β :=
 match v with
 |.undef=>k .undef
 |.bool b=>sn b fun b=>k (.bool b)
 |.int d n=>F4 d fun d=>Bj n fun n=>k (.int d n)
 |.str s=>xz s fun s=>k (.str s)
 |.ptr none=>k (.ptr none)
 |.ptr (some a)=>xy a fun a=>k (.ptr (some a))
 |.slice none n c=>fU n fun n=>fU c fun c=>k (.slice none n c)
 |.slice (some a) n c=>xy a fun a=>fU n fun n=>fU c fun c=>k (.slice (some a) n c)
 |.nilFunc=>k .nilFunc
 |.nilIface=>k .nilIface
 |.func a b c=>k (.func a b c)
 |.iface t v=>k (.iface t v)
 |.agg l=>k (.agg l)
 |.tuple l=>k (.tuple l)
theorem F8(v:J)(k:J→β):qX v k=k v:=by
 cases v with
 |ptr o=>cases o<;>simp [qX,F6]
 |slice o n c=>cases o<;>simp [qX,F6,lO]
 |_=>simp [qX,F5,MM,ML,F7]
def qY:List J→(List J→β)→β
 |[],k=>k []
 |a::r,k=>qX a fun a=>qY r fun r=>k (a::r)
theorem F9:∀(l:List J)(k:List J→β),qY l k=k l
 |[],k=>rfl
 |a::r,k=>by simp only [qY,F8,F9 r]
def uv(v:J)(k:J→β):β :=
 match v with
 |.agg l=>qY l fun l=>k (.agg l)
 |.iface t v=>fU t fun t=>qX v fun v=>k (.iface t v)
 |.func a b c=>qY b fun b=>qY c fun c=>k (.func a b c)
 |.tuple l=>qY l fun l=>k (.tuple l)
 |v=>qX v k
theorem F'(v:J)(k:J→β):uv v k=k v:=by unfold uv;split<;>simp [F8,F9,lO]
def sp:List J→(List J→β)→β
 |[],k=>k []
 |a::r,k=>uv a fun a=>sp r fun r=>k (a::r)
theorem Bl:∀(l:List J)(k:List J→β),sp l k=k l
 |[],k=>rfl
 |a::r,k=>by simp only [sp,F',Bl r]
def uw(v:J)(k:J→β):β :=
 match v with
 |.tuple l=>sp l fun l=>k (.tuple l)
 |.iface t v=>fU t fun t=>uv v fun v=>k (.iface t v)
 |v=>uv v k
theorem Bm(v:J)(k:J→β):uw v k=k v:=by unfold uw;split<;>simp [F',Bl,lO]
def Bn(b:aJ)(k:aJ→β):β :=
 match b with
 |⟨l,es,ex,ro,v,m,f,none⟩=>sp l fun l=>fU es fun es=>sn ex fun ex=>sn ro fun ro=>fU v fun v=>fU m fun m=>fU f fun f=>k ⟨l,es,ex,ro,v,m,f,none⟩
 |⟨l,es,ex,ro,v,m,f,some (t,n)⟩=>sp l fun l=>fU es fun es=>sn ex fun ex=>sn ro fun ro=>fU v fun v=>fU m fun m=>fU f fun f=>k ⟨l,es,ex,ro,v,m,f,some (t,n)⟩
theorem MO(b:aJ)(k:aJ→β):Bn b k=k b:=by obtain⟨l,es,ex,ro,v,m,f,ty⟩:=b;cases ty<;>simp [Bn,Bl,lO,F5]
def fe(n:Nat)(t:aK J):List J:=(List.range n).map fun i=>(t.get i).getD fq
theorem xA(n:Nat)(t:aK J)(i:Nat):(fe n t)[i]? =if i<n then some ((t.get i).getD fq)else none:=by
 simp only [fe,List.getElem?_map];by_cases h:i<n
 ·rw [List.getElem?_range h,if_pos h];rfl
 ·rw [List.getElem?_eq_none (by simpa using h),if_neg h];rfl
def xB(n:Nat)(t:aK J)(i:Nat):Option J:=cond (Nat.blt i n) (some (Option.rec (motive:=fun _=>J) fq (fun v=>v) (t.get i))) none
theorem Ga(n:Nat)(t:aK J)(i:Nat):xB n t i=(fe n t)[i]? :=by
 rw [xA];unfold xB;by_cases h:i<n
 ·rw [show Nat.blt i n=true by simpa [Nat.blt_eq]using h,if_pos h];cases t.get i<;>rfl
 ·rw [show Nat.blt i n=false by cases ao:Nat.blt i n with|false=>rfl|true=>exact absurd (Nat.blt_eq.mp ao) h,if_neg h];rfl
def ll(n:Nat)(t:aK J)(o:Operand):J :=
 match o with
 |.tmp i=>cond (Nat.blt i n) (Option.rec (motive:=fun _=>J) fq (fun v=>v) (t.get i)) .undef
 |.const v=>o3 v
 |.global _=> .undef
 |.func f=> .func (.func f) [] []
theorem ux(n:Nat)(t:aK J):ll n t=cK (fe n t):=by
 funext o
 cases o with
 |tmp i =>
  have:=Ga n t i;simp only [cK,List.getD_eq_getElem?_getD,←this];unfold xB;show cond (Nat.blt i n) (Option.rec (motive:=fun _=>J) fq (fun v=>v) (t.get i)) .undef=_;cases Nat.blt i n<;>rfl
 |const v=>rfl
 |global g=>rfl
 |func f=>rfl
theorem MP(n:Nat)(t:aK J)(d:Nat)(v:J):fe n (t.set d v)=(fe n t).set d v:=by
 apply List.ext_getElem?;intro i;rw [xA,List.getElem?_set,xA];by_cases h:i<n
 ·simp only [h,if_true,aK.lA];by_cases aM:d=i
  ·subst aM;simp [fe,h]
  ·simp [aM]
 ·simp only [h,if_false];by_cases aM:d=i
  ·subst aM;simp [fe,h]
  ·simp [aM]
section
variable {α:Type}
def xC(f:Nat):Nat→α→(aK α→β)→β :=
 Nat.rec (motive:=fun _=>Nat→α→(aK α→β)→β) (fun _ v c=>c (.node (some v) .nil .nil))
  (fun _ ih k v c=>cond (Nat.beq k 0) (c (.node (some v) .nil .nil)) (cond (Nat.beq (Nat.mod k 2) 1) (ih (Nat.div k 2) v fun u=>c (.node none u .nil)) (ih (Nat.sub (Nat.div k 2) 1) v fun u=>c (.node none .nil u)))) f
theorem Bo:∀(f k:Nat)(v:α)(c:aK α→β),xC f k v c=c (aK.gP f k v)
 |0,k,v,c=>rfl
 |f +1,k,v,c=>by
  show cond (Nat.beq k 0) (c (.node (some v) .nil .nil)) (cond (Nat.beq (k%2) 1) (xC f (k/2) v fun u=>c (.node none u .nil)) (xC f (k/2-1) v fun u=>c (.node none .nil u))) =
   c (cond (Nat.beq k 0) (.node (some v) .nil .nil) (cond (Nat.beq (k%2) 1) (.node none (aK.gP f (k/2) v) .nil) (.node none .nil (aK.gP f (k/2-1) v))))
  rw [Bo f,Bo f];cases Nat.beq k 0<;>cases Nat.beq (k%2) 1<;>rfl
def uy(t:aK α):Nat→α→(aK α→β)→β :=
 aK.rec (motive:=fun _=>Nat→α→(aK α→β)→β) (fun k v c=>xC k k v c)
  (fun o l r eS zu k v c=>cond (Nat.beq k 0) (c (.node (some v) l r)) (cond (Nat.beq (Nat.mod k 2) 1) (eS (Nat.div k 2) v fun u=>c (.node o u r)) (zu (Nat.sub (Nat.div k 2) 1) v fun u=>c (.node o l u)))) t
theorem xD:∀(t:aK α)(k:Nat)(v:α)(c:aK α→β),uy t k v c=c (t.set k v)
 |.nil,k,v,c=>Bo k k v c
 |.node o l r,k,v,c=>by
  show cond (Nat.beq k 0) (c (.node (some v) l r)) (cond (Nat.beq (k%2) 1) (uy l (k/2) v fun u=>c (.node o u r)) (uy r (k/2-1) v fun u=>c (.node o l u))) =
   c (cond (Nat.beq k 0) (.node (some v) l r) (cond (Nat.beq (k%2) 1) (.node o (l.set (k/2) v) r) (.node o l (r.set (k/2-1) v))))
  rw [xD l,xD r];cases Nat.beq k 0<;>cases Nat.beq (k%2) 1<;>rfl
def xE(f:α→(α→β)→β)(t:aK α):Nat→(aK α→β)→β :=
 aK.rec (motive:=fun _=>Nat→(aK α→β)→β) (fun _ c=>c .nil)
  (fun o l r k8 aI k c=>cond (Nat.beq k 0) (Option.rec (motive:=fun _=>β) (c (.node none l r)) (fun b=>f b fun b=>c (.node (some b) l r)) o) (cond (Nat.beq (Nat.mod k 2) 1) (k8 (Nat.div k 2) fun u=>c (.node o u r)) (aI (Nat.sub (Nat.div k 2) 1) fun u=>c (.node o l u)))) t
theorem Bp{f:α→(α→β)→β}(aS:∀a k,f a k=k a):∀(t:aK α)(k:Nat)(c:aK α→β),xE f t k c=c t
 |.nil,k,c=>rfl
 |.node o l r,k,c=>by show cond (Nat.beq k 0) (Option.rec (motive:=fun _=>β) (c (.node none l r)) (fun b=>f b fun b=>c (.node (some b) l r)) o) (cond (Nat.beq (k%2) 1) (xE f l (k/2) fun u=>c (.node o u r)) (xE f r (k/2-1) fun u=>c (.node o l u)))=_;rw [Bp aS l,Bp aS r];cases o<;>cases Nat.beq k 0<;>cases Nat.beq (k%2) 1<;>simp [aS]
end
def sq(s:aK J)(d:Option Tmp)(v:J)(k:aK J→β):β:=Option.rec (motive:=fun _=>β) (k s) (fun d=>uy s d v k) d
theorem MQ(n:Nat)(s:aK J)(d:Option Tmp)(v:J)(k:aK J→β):sq s d v k=k (Option.rec (motive:=fun _=>aK J) s (fun d=>s.set d v) d):=by cases d<;>simp [sq,xD]
theorem xF(n:Nat)(s:aK J)(d:Option Tmp)(v:J):fe n (Option.rec (motive:=fun _=>aK J) s (fun d=>s.set d v) d)=gE (fe n s) d v:=by cases d<;>simp [gE,MP]
def Bq(id:Nat)(h:I)(k:I→β):β :=
 match h with
 |⟨n,l⟩=>xE Bn l id fun l=>k ⟨n,l⟩
theorem MR(id:Nat)(h:I)(k:I→β):Bq id h k=k h:=by cases h;simp [Bq,Bp MO]
def Br(h:I)(k:I→β):β :=
 match h with
 |⟨n,l⟩=>fU n fun n=>k ⟨n,l⟩
theorem MS(h:I)(k:I→β):Br h k=k h:=by cases h;simp [Br,lO]
inductive Bs where
 |no|at (id:Nat)|all
def xG(t:Bs)(h:I)(k:I→β):β :=
 match t with
 |.no=>k h
 |.at id=>Bq id h k
 |.all=>Br h k
theorem MT(t:Bs)(h:I)(k:I→β):xG t h k=k h:=by cases t<;>simp [xG,MR,MS]
def Gb(v:J)(k:J→β):β :=
 match v with
 |.undef=>k .undef
 |.bool b=>k (.bool b)
 |.int d n=>k (.int d n)
 |.str s=>k (.str s)
 |.ptr a=>k (.ptr a)
 |.slice a n c=>k (.slice a n c)
 |.nilFunc=>k .nilFunc
 |.nilIface=>k .nilIface
 |.func a b c=>k (.func a b c)
 |.iface t v=>k (.iface t v)
 |.agg l=>k (.agg l)
 |.tuple l=>k (.tuple l)
theorem MU(v:J)(k:J→β):Gb v k=k v:=by cases v<;>rfl
def shallow(o:Op):Bool :=
 match o with
 |.move (.tmp _)|.assign (.tmp _)|.pick _ (.tmp _) (.tmp _)|.extract _ _|.load _ _=>true
 |.call c=>match c.callee with|.value _=>true|_=>false
 |_=>false
def xH(o:Op)(v:J)(k:J→β):β:=cond (shallow o) (Gb v k) (uw v k)
theorem MV(o:Op)(v:J)(k:J→β):xH o v k=k v:=by unfold xH;cases shallow o<;>simp [MU,Bm]
end
def Gc(nid:Nat)(ρ:Operand→J)(o:Op)(v:J):Bs :=
 match o with
 |.alloc _|.box _ _|.buildSlice _ _ _|.makeSlice _ _ _=> .at nid
 |.store _ a _=>match ρ a with|.ptr (some a)=> .at a.id|_=> .no
 |.call c =>
  match c.callee with
  |.value _=> .all
  |.builtin .append=>match v with|.slice (some a) _ _=> .at a.id|_=> .no
  |_=> .no
 |.convert _ _ _=>match v with|.slice (some a) _ _=> .at a.id|_=> .no
 |_=> .no
section
variable {E:bh}
def uz(ops:Array Oper)(n:Nat)(s:aK J)(o:Oper):Option Bool :=
 match o.guard with
 |none=>some true
 |some (j,want) =>
  match (ops[j]?).bind (·.dst)with
  |some d =>
   match xB n s d with
   |some (.bool b)=>some (b == want)
   |some (.tuple [])=>some false
   |_=>none
  |none=>none
theorem Gd(ops:Array Oper)(n:Nat)(s:aK J)(o:Oper):uz ops n s o=il ops (fe n s) o:=by unfold uz il;simp only [Ga];rfl
structure ho where
 ef:aK J
 heap:I
def ho.to(n:Nat)(s:ho):eu:=⟨fe n s.ef,s.heap⟩
def pJ(E:bh)(call:da)(ops:Array Oper)(draw:Bool)(n aD:Nat)(l:List Oper):Nat→aK J→I→Option ho :=
 List.rec (motive:=fun _=>Nat→aK J→I→Option ho) (fun _ s h=>some ⟨s,h⟩)
  (fun o _ ih i s h =>
   match uz ops n s o with
   |some true =>
    match (cond draw (eE E call ops aD i (ll n s) h o.op) (ik E call (Nat.add aD i) (ll n s) h o.op))with
    |some (v,h')=>xH o.op v fun v=>xG (Gc (Nat.add aD i) (ll n s) o.op v) h' fun h'=>sq s o.dst v fun bm=>ih (Nat.succ i) bm h'
    |none=>none
   |some false=>sq s o.dst fq fun bm=>ih (Nat.succ i) bm h
   |none=>none) l
theorem Ge(call:da)(ops:Array Oper)(draw:Bool)(n aD i:Nat)(s:aK J)(h:I)(o:Oper)(r:List Oper):pJ E call ops draw n aD (o::r) i s h =
 match uz ops n s o with
 |some true =>
  match (cond draw (eE E call ops aD i (ll n s) h o.op) (ik E call (aD+i) (ll n s) h o.op))with
  |some (v,h')=>pJ E call ops draw n aD r (i+1) (Option.rec (motive:=fun _=>aK J) s (fun d=>s.set d v) o.dst) h'
  |none=>none
 |some false=>pJ E call ops draw n aD r (i+1) (Option.rec (motive:=fun _=>aK J) s (fun d=>s.set d fq) o.dst) h
 |none=>none:=by
 show (match uz ops n s o with
  |some true =>
   match (cond draw (eE E call ops aD i (ll n s) h o.op) (ik E call (aD+i) (ll n s) h o.op))with
   |some (v,h')=>xH o.op v fun v=>xG (Gc (aD+i) (ll n s) o.op v) h' fun h'=>sq s o.dst v fun bm=>pJ E call ops draw n aD r (i+1) bm h'
   |none=>none
  |some false=>sq s o.dst fq fun bm=>pJ E call ops draw n aD r (i+1) bm h
  |none=>none)=_
 simp only [MV,MT,MQ n]
theorem Bt{call:da}{ops:Array Oper}{n aD:Nat} :∀(l:List Oper)(i:Nat)(s:aK J)(h:I),(∀j,l[j]? =ops[i+j]?) →
 (pJ E call ops false n aD l i s h).map (ho.to n)=ni E call ops aD (List.range' i l.length) ⟨fe n s,h⟩
 |[],i,s,h,_=>rfl
 |o ::r,i,s,h,aF=>by
  have ap:ops[i]? =some o:=by have:=aF 0;simpa using this.symm
  have aC:∀j,r[j]? =ops[i+1+j]? :=fun j=>by have:=aF (j+1);simp at this;rw [this];congr 1;omega
  rw [Ge];simp only [List.length_cons,List.range'_succ,ni,o',ap,Gd,ux,cond_false];cases hw:il ops (fe n s) o with
  |none=>rfl
  |some b =>
   cases b with
   |true =>
    simp only;cases aW:ik E call (aD+i) (cK (fe n s)) h o.op with
    |none=>rfl
    |some p =>
     obtain⟨v,h'⟩:=p;simp only;rw [Bt r (i+1) _ _ aC,xF]
   |false =>
    simp only;rw [Bt r (i+1) _ _ aC,xF]
theorem Bu{call:da}{ops:Array Oper}{n aD:Nat} :∀(l:List Oper)(i:Nat)(s:aK J)(h:I),(∀j,l[j]? =ops[i+j]?) →
 (pJ E call ops true n aD l i s h).map (ho.to n)=iH E call ops aD (List.range' i l.length) ⟨fe n s,h⟩
 |[],i,s,h,_=>rfl
 |o ::r,i,s,h,aF=>by
  have ap:ops[i]? =some o:=by have:=aF 0;simpa using this.symm
  have aC:∀j,r[j]? =ops[i+1+j]? :=fun j=>by have:=aF (j+1);simp at this;rw [this];congr 1;omega
  rw [Ge];simp only [List.length_cons,List.range'_succ,iH,k5,ap,Gd,ux,cond_true];cases hw:il ops (fe n s) o with
  |none=>rfl
  |some b =>
   cases b with
   |true =>
    simp only;cases aW:eE E call ops aD i (cK (fe n s)) h o.op with
    |none=>rfl
    |some p =>
     obtain⟨v,h'⟩:=p;simp only;rw [Bu r (i+1) _ _ aC,xF]
   |false =>
    simp only;rw [Bu r (i+1) _ _ aC,xF]
def uA(E:bh)(call:da)(ops:Array Oper)(draw:Bool)(n:Nat)(s:ho):Option ho :=
 match s with
 |⟨s,⟨aD,l⟩⟩=>cond (!draw || n5 ops) (fU (Nat.add aD ops.size) fun m=>pJ E call ops draw n aD ops.toList 0 s ⟨m,l⟩) none
theorem MW(call:da)(ops:Array Oper)(draw:Bool)(n:Nat)(s:ho):(uA E call ops draw n s).map (ho.to n)=qn E call ops draw (s.to n):=by
 obtain⟨s,aD,l⟩:=s;have aF:∀j:Nat,ops.toList[j]? =ops[0+j]? :=fun j=>by simp
 have aC:List.range ops.size=List.range' 0 ops.toList.length:=by rw [List.range_eq_range',Array.length_toList]
 unfold uA qn;cases draw with
 |false=>simp only [Bool.not_false,Bool.true_or,cond_true,lO,Bool.false_eq_true,if_false,Bt _ _ _ _ aF,aC,ho.to,Nat.add_eq]
 |true =>
  cases aM:n5 ops with
  |false=>simp
  |true=>simp only [Bool.not_true,Bool.false_or,aM,cond_true,if_true,lO,Bu _ _ _ _ aF,aC,ho.to,Nat.add_eq]
def iM(E:bh)(call:da)(n:Nat)(dv:Nat):Option Code→Code→ho→Option (bx×ho) :=
 Nat.rec (motive:=fun _=>Option Code→Code→ho→Option (bx×ho)) (fun _ _ _=>none)
 (fun m ih b c s =>
 match b with
 |some body =>
  match ih none c s with
  |some (.goto l,bm) =>
   match findLabel body l with
   |some rest=>ih (some body) rest bm
   |none=>some (.goto l,bm)
  |r=>r
 |none =>
  match c with
  |.skip=>some (.normal,s)
  |.label _=>some (.normal,s)
  |.region _ ops draw =>
   match uA E call ops draw n s with
   |some bm=>some (.normal,bm)
   |none=>none
  |.seq a b =>
   match ih none a s with
   |some (.normal,bm)=>ih none b bm
   |r=>r
  |.cond x a b =>
   match ll n s.ef x with
   |.bool true=>ih none a s
   |.bool false=>ih none b s
   |_=>none
  |.block id c =>
   match ih none c s with
   |some (.exit j,bm)=>some (if j=id then .normal else .exit j,bm)
   |r=>r
  |.loop c =>
   match ih none c s with
   |some (.normal,bm)=>ih none (.loop c) bm
   |r=>r
  |.scope c=>ih (some c) c s
  |.goto l=>some (.goto l,s)
  |.exit id=>some (.exit id,s)
  |.ret=>some (.ret,s)
  |_=>none) dv
def ov(n:Nat)(p:bx×ho):bx×eu:=(p.1,p.2.to n)
theorem MX(call:da)(k:Nat):∀(n:Nat)(b:Option Code)(c:Code)(s:ho),(iM E call k n b c s).map (ov k)=ek E call n b c (s.to k):=by
 intro n;induction n with
 |zero=>intro b c s;rfl
 |succ n ih =>
  intro b c s;cases b with
  |some body =>
   show Option.map (ov k) (match iM E call k n none c s with
    |some (.goto l,bm) =>
     match findLabel body l with
     |some rest=>iM E call k n (some body) rest bm
     |none=>some (.goto l,bm)
    |r=>r)=_
   simp only [ek,←ih];cases ab:iM E call k n none c s with
   |none=>rfl
   |some p =>
    obtain⟨e,bm⟩:=p;cases e with
    |goto l =>
     simp only [Option.map_some,ov];cases aS:findLabel body l with
     |none=>rfl
     |some rest=>simp only [aS];exact ih (some body) rest bm
    |_=>rfl
  |none =>
   cases c
   case region id ops draw =>
    show Option.map (ov k) (match uA E call ops draw k s with
     |some bm=>some (.normal,bm)
     |none=>none)=_
    simp only [ek,←MW];cases uA E call ops draw k s<;>rfl
   case seq a b =>
    show Option.map (ov k) (match iM E call k n none a s with
     |some (.normal,bm)=>iM E call k n none b bm
     |r=>r)=_
    simp only [ek,←ih];cases ab:iM E call k n none a s with
    |none=>rfl
    |some p=>obtain⟨e,bm⟩:=p;cases e<;>first|exact ih none b bm|rfl
   case cond x a b =>
    show Option.map (ov k) (match ll k s.ef x with
     |.bool true=>iM E call k n none a s
     |.bool false=>iM E call k n none b s
     |_=>none)=_
    simp only [ek,←ih,ux];have he:cK (s.to k).ef x=cK (fe k s.ef) x:=rfl;rw [he];cases cK (fe k s.ef) x with
    |bool t=>cases t<;>rfl
    |_=>rfl
   case block id c =>
    show Option.map (ov k) (match iM E call k n none c s with
     |some (.exit j,bm)=>some (if j=id then .normal else .exit j,bm)
     |r=>r)=_
    simp only [ek,←ih];cases ab:iM E call k n none c s with
    |none=>rfl
    |some p=>obtain⟨e,bm⟩:=p;cases e<;>rfl
   case loop c =>
    show Option.map (ov k) (match iM E call k n none c s with
     |some (.normal,bm)=>iM E call k n none (.loop c) bm
     |r=>r)=_
    simp only [ek,←ih];cases ab:iM E call k n none c s with
    |none=>rfl
    |some p=>obtain⟨e,bm⟩:=p;cases e<;>first|exact ih none (.loop c) bm|rfl
   case scope c=>exact ih (some c) c s
   all_goals rfl
def uB:List J→Nat→aK J→(aK J→Option (J×I))→Option (J×I)
 |[],_,t,k=>k t
 |v::r,i,t,k=>uw v fun v=>uy t i v fun t=>uB r (Nat.succ i) t k
theorem Gf:∀(l:List J)(i:Nat)(t:aK J) (k:aK J→Option (J×I)),
 ∃e1,uB l i t k=k e1∧∀j,e1.get j=if j<i then t.get j else if h:j-i<l.length then some l[j-i]else t.get j
 |[],i,t,k=>⟨t,rfl,fun j=>by simp⟩
 |v ::r,i,t,k=>by
  obtain⟨e1,U,ak⟩:=Gf r (i+1) (t.set i v) k;refine⟨e1,by simp only [uB,Bm,xD];exact U,fun j=> ?_⟩;rw [ak j,aK.lA];by_cases ay:j<i
  ·rw [if_pos (by omega),if_neg (by omega),if_pos ay]
  ·rw [if_neg ay];by_cases he:i=j
   ·subst he;rw [if_pos (by omega),if_pos rfl];simp
   ·rw [if_neg (by omega),if_neg he];by_cases aF:j- (i+1)<r.length
    ·rw [dif_pos aF,dif_pos (by simp;omega)];obtain⟨m,hm⟩:∃m,j-i=m+1:=⟨j-i-1,by omega⟩
     have jW:j- (i+1)=m:=by omega
     simp only [hm,jW,List.getElem_cons_succ]
    ·rw [dif_neg aF,dif_neg (by simp;omega)]
theorem MY{l:List J}{m:Nat}{t:aK J}(h:∀j,t.get j=if j<0 then(aK.nil:aK J).get j else if h:j-0<l.length then some l[j-0]else(aK.nil:aK J).get j) :
 fe (l.length+(m-l.length)) t=l++List.replicate (m-l.length) fq:=by
 apply List.ext_getElem?;intro i;rw [xA,h i,if_neg (Nat.not_lt_zero i)];simp only [Nat.sub_zero,aK.nd];by_cases ac:i<l.length
 ·rw [if_pos (by omega),dif_pos ac,List.getElem?_append_left ac,List.getElem?_eq_getElem ac];rfl
 ·rw [dif_neg ac,List.getElem?_append_right (by omega),List.getElem?_replicate];by_cases be:i<l.length+(m-l.length)
  ·rw [if_pos be,if_pos (by omega)];rfl
  ·rw [if_neg be,if_neg (by omega)]
def pK(D:c5)(n:Nat)(rs:List ResultVar)(s:ho):Option (List J) :=
 match rs with
 |[]=>some []
 |.tmp t::r=>(pK D n r s).map fun l=>ll n s.ef (.tmp t)::l
 |.cell a t::r =>
  match ll n s.ef (.tmp a)with
  |.ptr (some p) =>
   match aQ D t p s.heap,pK D n r s with
   |some v,some l=>some (v::l)
   |_,_=>none
  |_=>none
theorem xI(D:c5)(n:Nat)(s:ho):∀(rs:List ResultVar),pK D n rs s=im D rs (s.to n)
 |[]=>rfl
 |.tmp t::r=>by simp only [pK,im,xI D n s r,ux];rfl
 |.cell a t::r=>by simp only [pK,im,xI D n s r,ux];rfl
def xJ(r:Option (J×I)):Option (J×I) :=
 match r with
 |some (v,⟨n,l⟩)=>fU n fun n=>uw v fun v=>some (v,⟨n,l⟩)
 |none=>none
theorem MZ(r:Option (J×I)):xJ r=r:=by
 cases r with
 |none=>rfl
 |some p=>obtain⟨v,n,l⟩:=p;simp [xJ,lO,Bm]
def mu(P:Program)(E:bh)(dv:Nat):da :=
 Nat.rec (motive:=fun _=>da) (fun _ _ _=>none)
 (fun n ih f args h =>
  match E.qj f with
  |some g=>g args h
  |none =>
  match P.funcs[f]? with
  |some fn =>
   match fn.body with
   |some c =>
    fU (args.length+(fn.ntmps-args.length)) fun k=>uB args 0 .nil fun eS =>
    match iM E ih k n none c ⟨eS,h⟩with
    |some (.exit _,_)=>none
    |some (.goto _,_)=>none
    |some (_,s) =>
     match pK E.D k fn.results.toList s with
     |some l=>xJ (some (lD l,s.heap))
     |none=>none
    |none=>none
   |none=>none
  |none=>none) dv
theorem sr(P:Program)(E:bh):∀(n:Nat),mu P E n=jR P E n:=by
 intro n;induction n with
 |zero=>rfl
 |succ n ih =>
  funext f args h
  show(match E.qj f with
  |some g=>g args h
  |none =>
  match P.funcs[f]? with
  |some fn =>
   match fn.body with
   |some c =>
    fU (args.length+(fn.ntmps-args.length)) fun k=>uB args 0 .nil fun eS =>
    match iM E (mu P E n) k n none c ⟨eS,h⟩with
    |some (.exit _,_)=>none
    |some (.goto _,_)=>none
    |some (_,s) =>
     match pK E.D k fn.results.toList s with
     |some l=>xJ (some (lD l,s.heap))
     |none=>none
    |none=>none
   |none=>none
  |none=>none)=_
  simp only [jR,ih,lO,MZ];cases E.qj f with
  |some g=>rfl
  |none =>
  simp only;cases aS:P.funcs[f]? with
  |none=>rfl
  |some fn =>
   simp only;cases fn.body with
   |none=>rfl
   |some c =>
    simp only
    obtain⟨t,U,ak⟩:=Gf args 0 .nil fun eS =>
     match iM E (jR P E n) (args.length+(fn.ntmps-args.length)) n none c ⟨eS,h⟩with
     |some (.exit _,_)=>none
     |some (.goto _,_)=>none
     |some (_,s) =>
      match pK E.D (args.length+(fn.ntmps-args.length)) fn.results.toList s with
      |some l=>some (lD l,s.heap)
      |none=>none
     |none=>none
    rw [U]
    have hs:(ho.mk t h).to (args.length+(fn.ntmps-args.length))=⟨args++List.replicate (fn.ntmps-args.length) fq,h⟩:=by simp only [ho.to,MY ak]
    have ab:=MX (E:=E) (jR P E n) (args.length+(fn.ntmps-args.length)) n none c ⟨t,h⟩;rw [hs]at ab;rw [←ab];cases bi:iM E (jR P E n) (args.length+(fn.ntmps-args.length)) n none c ⟨t,h⟩with
    |none=>rfl
    |some p =>
     obtain⟨e,s⟩:=p;simp only [Option.map_some,ov];cases e with
     |exit id=>rfl
     |goto l=>rfl
     |normal=>simp only [xI];cases im E.D fn.results.toList (s.to (args.length+(fn.ntmps-args.length)))<;>rfl
     |ret=>simp only [xI];cases im E.D fn.results.toList (s.to (args.length+(fn.ntmps-args.length)))<;>rfl
theorem M0{P:Program}{E:bh}{n:Nat}{f:FuncId}{args:List J}{h:I}(k:xo (mu P E n f args h)=true):∃h',jR P E n f args h=some (.bool true,h'):=by rw [sr]at k;exact Mf k
end
end
end Go.ba
namespace Go.Proofs.YtjpfnbihopoeeaaGreatDoor
open Go.RowKit Go.ba
theorem mixed:Tryz.prog.follows .mixedOrders=true:=by decide+kernel
noncomputable def ss:bh:= {D:=rK Tryz.prog,eqs:=[]}
theorem Bv:fh Tryz.prog ss where
 ga:=c5.A9 _
 eqs:=fun t h=>by simp [bh.gB,ss]at h
 names:=Mg (by decide+kernel)
 w':=fun f g h=>by simp [ss]at h
 xa:=fun f k h=>by simp [ss]at h
noncomputable def uC(r:Option (J×I))(v:J):Bool :=
 match r with
 |some (x,_)=>J.same x v
 |none=>false
theorem Bw{r:Option (J×I)}{v:J}(h:uC r v=true):∃h',r=some (v,h'):=by
 unfold uC at h;split at h
 ·rename_i x h';rw [J.ua h];exact⟨h',rfl⟩
 ·cases h
def Gg:List Int:=[98,50,97,49,48,99,100]
def uD:List (List J×J):=Gg.map fun r=>([.int .i32 r],.int .i8 9)
theorem M1:(Gg.all fun r=>uC (mu Tryz.prog ss 400 140 [.int .i32 r] ⟨0,.nil⟩) (.int .i8 9))=true:=by decide+kernel
theorem Gh(C:(Nat→Prop)→World→Prop):pv Tryz.prog C 140 (ur uD):=by
 have h:=Mq (E:=ss) Bv mixed (fun _ _ _ _ _ _=>trivial) (f:=140) (t:=uD) fun x ab=>by simp only [uD,List.mem_map]at ab;obtain⟨r,aC,rfl⟩:=ab;obtain⟨h',e⟩:=Bw (List.all_eq_true.1 M1 r aC);rw [sr]at e;exact⟨rfl,rfl,_,_,e⟩
 intro N0 w0 bA _;exact h N0 w0 bA trivial
noncomputable def pL:bh:= {D:=rK Tryz.prog,eqs:=[],qj:=fun f=>if f=140 then some (ur uD)else none}
theorem Bx:fh Tryz.prog pL where
 ga:=c5.A9 _
 eqs:=fun t h=>by simp [bh.gB,pL]at h
 names:=Bv.names
 w':=fun f g h=>by
  simp only [pL]at h;split at h
  ·rename_i e;subst e;simp only [Option.some.injEq]at h;subst h;exact Gh _
  ·cases h
 xa:=fun f k h=>by simp [pL]at h
abbrev st:World→Prop:=fun _=>True
noncomputable def By(rs:List Int)(p:Nat)(s:h4):Bool :=
 decide (0<s.n)&&decide (p+s.n≤rs.length)&&decide (s.t.length<2^62) &&
 uC (mu Tryz.prog pL 400 125 [.slice (some ⟨0,0,p,0,1⟩) (rs.length-p) (rs.length-p)] (jD rs)) (.tuple [.int .i64 s.n,.int .i64 s.w]) &&
 uC (mu Tryz.prog pL 400 126 [.slice (some ⟨0,0,p,0,1⟩) s.n (rs.length-p)] (jD rs)) (.str s.t)
theorem M2{rs:List Int}{p:Nat}{s:h4}(h:By rs p s=true):Bc st rs p s:=by
 simp only [By,Bool.and_eq_true,decide_eq_true_eq]at h;obtain⟨⟨⟨⟨U,ak⟩,aP⟩,bQ⟩,ct⟩:=h;obtain⟨k1,bo⟩:=Bw bQ;obtain⟨k2,bO⟩:=Bw ct;rw [sr]at bo bO;refine⟨U,ak,aP,fun W g off C e2 _=>⟨?_,?_⟩⟩
 ·have aF:=e2.len;refine(e2.calls Bx mixed trivial rfl bo (args':= #[.slice (some ⟨g,off+p,none⟩) (rs.length-p) (C-p)]) (by simp only [bd];exact⟨_,_,rfl,fC.slice (Nat.le_refl _) (by omega) (by omega),rfl⟩)).mono ?_;rintro e c4 ⟨a8,rfl,a7,ao⟩;simp only [aA,bd]at a7;obtain⟨xs,rfl,a,t,fR,rfl,b,t2,jV,rfl,qZ⟩:=a7;refine⟨?_,ao⟩;subst qZ;subst jV;obtain⟨l⟩:=xs;simp only at fR;subst fR;rfl
 ·have aF:=e2.len;refine(e2.calls Bx mixed trivial rfl bO (args':= #[.slice (some ⟨g,off+p,none⟩) s.n (C-p)]) (by simp only [bd];exact⟨_,_,rfl,fC.slice (by omega) (by omega) (by omega),rfl⟩)).mono ?_;rintro e c4 ⟨a8,rfl,a7,ao⟩;simp only [aA]at a7;obtain⟨t,rfl,bl⟩:=a7;refine⟨?_,ao⟩;rw [←bl]
noncomputable def uE(rs:List Int):Nat→List h4→Bool
 |p,[]=>decide (p=rs.length)
 |p,s::r=>By rs p s&&uE rs (p+s.n) r
theorem Gi{rs:List Int} :∀{p:Nat}{c8:List h4},uE rs p c8=true→qS st rs p c8
 |p,[],h=>by simp only [uE,decide_eq_true_eq]at h;exact h
 |p,s::r,h=>by simp only [uE,Bool.and_eq_true]at h;exact⟨M2 h.1,Gi h.2⟩
noncomputable def Bz(s:List UInt8)(rs:List Int):Bool :=
 match mu Tryz.prog pL 400 123 [.str s] ⟨0,.nil⟩with
 |some (.slice none 0 0,_)=>decide (rs=[])
 |some (.slice (some a) n c,h)=>decide (0<n)&&decide (a.fld=0)&&decide (a.es=1) &&
  match h.get a.id with
  |some b=>decide (a.idx+n≤b.cj a.ver)&&decide (a.idx+n≤b.a'.length)&&J.lC ((b.a'.drop a.idx).take n) (pH rs)
  |none=>false
 |_=>false
theorem M3{s:List UInt8}{rs:List Int}(h:Bz s rs=true)(W:World):Calls Tryz.prog 123 #[.string ⟨s.toArray⟩] W fun e c4=>Below W.heap.size W c4 ∧
 ∃v g off C,e=.returned v∧((∃x c,v=.slice x rs.length c)∧(0<rs.length→v=.slice (some ⟨g,off,none⟩) rs.length C))∧(0<rs.length→fC c4 g off C rs∧W.heap.size≤g):=by
 unfold Bz at h
 have key:∀{v:J}{U:I},mu Tryz.prog pL 400 123 [.str s] ⟨0,.nil⟩=some (v,U)→Calls Tryz.prog 123 #[.string ⟨s.toArray⟩] W fun e aN=> ∃a8 bj,e=.returned a8∧d' nw bj 0∧aA bj v a8∧ch bj (fun k=>k<W.heap.size) U aN∧Below W.heap.size W aN:=by intro v U e;rw [sr]at e;refine(xn Bx (N0:=fun k=>k<W.heap.size) (w0:=W) (fun _ h=>h) trivial mixed _ _ [.str s] ⟨0,.nil⟩ _ _ e nw W #[.string ⟨s.toArray⟩] (ch.empty _ _ _) (Safe.refl _ _) (by simp only [bd,aA];exact⟨_,_,rfl,⟨_,rfl,rfl⟩,rfl⟩)).2.mono ?_;rintro e aN ⟨a8,bj,k1,k2,bT,cr,c6,ev⟩;exact⟨a8,bj,k1,k2,bT,cr,c6.below⟩
 split at h
 ·rename_i U e;simp only [decide_eq_true_eq]at h;subst h;refine(key e).mono ?_;rintro e aN ⟨a8,bj,rfl,_,a7,_,ao⟩;simp only [aA]at a7;obtain⟨rfl,_,_⟩:=a7;exact⟨ao,_,0,0,0,rfl,⟨⟨_,_,rfl⟩,fun h=>by simp at h⟩,fun h=>by simp at h⟩
 ·rename_i a n c U e;simp only [Bool.and_eq_true,decide_eq_true_eq]at h;obtain⟨⟨⟨cC,ci⟩,gI⟩,mv⟩:=h;split at mv
  ·rename_i b ao;simp only [Bool.and_eq_true,decide_eq_true_eq]at mv;obtain⟨⟨su,M4⟩,M5⟩:=mv;refine(key e).mono ?_;rintro e aN ⟨a8,bj,rfl,az,a7,dw,uo⟩;obtain⟨g,off,C,rfl,be,e2,p,ag,M6,uF⟩:=fC.FU dw a7 ci gI cC ao su (J.qJ M5) M4;refine⟨uo,_,g,off,C,rfl,⟨⟨_,_,rfl⟩,fun _=>rfl⟩,fun _=>⟨e2,?_⟩⟩
   have dD:p.ro=false:=by
    cases aC:p.ro with
    |false=>rfl
    |true=>have:=az.ro _ _ _ ag aC;simp [nw]at this
   exact Nat.le_of_not_lt (uF dD)
  ·cases mv
 ·cases h
noncomputable def BA(s:List UInt8)(rs:List Int)(c8:List h4):Bool:=decide (c8.length≤2^30)&&Bz s rs&&uE rs 0 c8
theorem M7{s:List UInt8}{rs:List Int}{c8:List h4}(h:BA s rs c8=true):sl st ⟨s.toArray⟩ rs c8:=by simp only [BA,Bool.and_eq_true,decide_eq_true_eq]at h;exact⟨h.1.1,fun W _=>M3 h.1.2 W,Gi h.2⟩
def M8(s:List UInt8):List Int:=s.map fun b=>(b.toNat:Int)
def Gj(s:List UInt8):List h4:=s.map fun b=>⟨1,[b],1⟩
def Gk:List (List UInt8):=[[],[98],[50],[97],[49,48],[97,98],[99],[100],[98,98,98],[99,99]]
theorem M9:(Gk.all fun s=>BA s (M8 s) (Gj s))=true:=by decide+kernel
end Go.Proofs.YtjpfnbihopoeeaaGreatDoor
namespace Go.Proofs.YtjpfnbihopoeeaaGreatDoor
open Go.ba Go.Shelf
def xK:Ren where
 f:=fun x=>if x=99 then 115 else if x=105 then 63 else if x=156 then 62 else if x=165 then 113 else if x=166 then 77 else if x=169 then 79 else if x=170 then 116 else if x=206 then 154 else if x=212 then 114 else if x=240 then 127 else if x=241 then 151 else if x=263 then 152 else if x=264 then 153 else if x=276 then 166 else if x=277 then 188 else 0
 t:=fun x=>if x=0 then 0 else if x=3 then 3 else if x=4 then 4 else if x=5 then 5 else if x=9 then 9 else if x=20 then 20 else if x=31 then 36 else if x=37 then 96 else if x=46 then 108 else if x=51 then 148 else if x=53 then 134 else if x=70 then 95 else if x=72 then 98 else if x=75 then 100 else if x=76 then 102 else if x=80 then 105 else if x=109 then 127 else if x=127 then 162 else if x=146 then 181 else if x=148 then 183 else if x=164 then 193 else 0
 g:=fun x=>0
theorem M':Lays.n156 Tryz.prog xK:=by constructor;all_goals first|kernel_rfl|(intro w;kernel_rfl)
theorem Na:Lays.n105 Tryz.prog xK:=by constructor;all_goals first|kernel_rfl|(intro w;kernel_rfl)
theorem Nb:Lays.n240 Tryz.prog xK:=by constructor;all_goals first|kernel_rfl|(intro w;kernel_rfl)
theorem BB:Builder.Extra Tryz.prog xK where
 sizeBuilder:=by kernel_rfl
 liesBuilder:=by kernel_rfl
 t5:=by kernel_rfl
 a5:=by intro w;kernel_rfl
 z5:=by intro w;kernel_rfl
 v5:=by intro w;kernel_rfl
 infoByte:=by kernel_rfl
 cellsByte:=by kernel_rfl
 sizeByte:=by kernel_rfl
 neB5:=by decide
def BC:Ren where
 f:=fun x=>if x=17 then 158 else if x=21 then 191 else if x=22 then 192 else if x=23 then 193 else if x=24 then 194 else if x=25 then 218 else if x=26 then 219 else if x=27 then 220 else if x=28 then 238 else if x=29 then 250 else if x=30 then 260 else if x=31 then 261 else if x=32 then 262 else if x=33 then 263 else if x=34 then 264 else if x=35 then 265 else if x=36 then 266 else if x=37 then 267 else if x=38 then 268 else if x=39 then 269 else if x=40 then 270 else 0
 t:=fun x=>if x=0 then 0 else if x=2 then 2 else if x=3 then 3 else if x=4 then 4 else if x=5 then 5 else if x=9 then 9 else if x=20 then 20 else if x=22 then 134 else if x=24 then 100 else if x=34 then 211 else if x=36 then 108 else if x=37 then 96 else if x=39 then 214 else if x=44 then 246 else if x=47 then 162 else if x=48 then 276 else if x=50 then 278 else if x=52 then 294 else if x=55 then 297 else if x=59 then 300 else if x=60 then 148 else if x=61 then 301 else if x=65 then 304 else if x=66 then 305 else if x=67 then 105 else 0
 g:=fun x=>if x=0 then 1 else if x=1 then 2 else if x=2 then 5 else if x=3 then 6 else if x=4 then 7 else 0
theorem Nc:LaysPu.n17 Tryz.prog BC:=by constructor;all_goals first|kernel_rfl|(intro w;kernel_rfl)
end Go.Proofs.YtjpfnbihopoeeaaGreatDoor
namespace Go.Proofs.YtjpfnbihopoeeaaGreatDoor
open Go.RowKit Go.ba
noncomputable def BD(xL:List (List UInt8×List (List UInt8×Int))):o8:=fun args h =>
 match args with
 |[.str s] =>
  match xL.find? (fun x=>x.1 == s)with
  |some x =>
   match x.2 with
   |[]=>some (.slice none 0 0,h)
   |_=>some (.slice (some ⟨h.next,0,0,0,2⟩) x.2.length x.2.length,(⟨h.next+1,h.aj⟩:I).set h.next (.made (x.2.map fun c=> .agg [.str c.1,.int .i64 c.2]) 2 false (some (92,0))))
  |none=>none
 |_=>none
theorem BE(φ:Map):∀(a:Int)(c8:List h4),bd φ (flat ((c8.map fun s=>(s.t,s.w)).map fun c=>J.agg [.str c.1,.int .i64 c.2])) (ms (jd a c8))
 |_,[]=>by simp [flat,ms,jd,bd]
 |a,s::r=>by have ih:=BE φ (wrap64 (a+(s.t.length:Nat))) r;simp only [flat,List.map_cons,List.flatMap_cons,J.cells,jd,ms]at ih⊢;simp only [List.cons_append,List.nil_append,bd,aA];exact⟨_,_,rfl,⟨_,rfl,rfl⟩,_,_,rfl,rfl,ih⟩
theorem Nd:uu (fun _=>False) st:=⟨fun _ _ _ h=>h.elim,fun _ _ _ _ _ _=>trivial⟩
theorem Nf{C:(Nat→Prop)→World→Prop}{xL:List (List UInt8×List (List UInt8×Int))}(bl:∀x∈xL,∃rs c8,sl st ⟨x.1.toArray⟩ rs c8∧x.2=c8.map fun s=>(s.t,s.w)):pv Tryz.prog C 141 (BD xL):=by
 intro N0 w0 bA dV args h v h' an φ w args' dw aX dy;unfold BD at an;split at an
 ·rename_i s;split at an
  ·rename_i x ab;have hm:=List.mem_of_find?_eq_some ab;have hs:x.1=s:=by have:=List.find?_some ab;simpa using this
   obtain⟨rs,c8,kE,he⟩:=bl x hm;obtain⟨l⟩:=args';simp only [bd,aA]at dy;obtain⟨a,t,rfl,⟨u,rfl,rfl⟩,rfl⟩:=dy;refine⟨⟨Tryz.f141,_,Tryz.func141,rfl⟩,?_⟩;rw [hs]at kE;have hu:(⟨u.data.toList.toArray⟩:ByteArray)=u:=by rfl
   rw [hu]at kE;refine(F1 _ _ Nd u rs c8 kE w trivial).mono ?_;rintro e aN ⟨ao,a8,rfl,hn,qV⟩;have uG:=dw.alike (Alike.below ao);have uH:=aX.xp bA ao;cases c8 with
   |nil =>
    simp only [List.map_nil]at he;rw [he]at an;simp only [Option.some.injEq,Prod.mk.injEq]at an;obtain⟨rfl,rfl⟩:=an;exact⟨_,φ,rfl,d'.refl _ _,by rw [qV rfl];simp [aA],uG,uH,Nat.le_refl _⟩
   |cons s0 r0 =>
    rw [he]at an;simp only [List.map_cons,Option.some.injEq,Prod.mk.injEq]at an;obtain⟨rfl,rfl⟩:=an;rcases hn.2 with ⟨_,bt⟩|⟨g,cap,sm,rfl,Ng,uI,be,jX,di,uJ⟩
    ·simp at bt
    ·have hid:∀v,φ h.next v=none:=fun v=>by
      cases aw:φ h.next v with
      |none=>rfl
      |some p=>have:=(dw.cO _ _ _ aw).1;omega
     have BF:ch φ N0 ⟨h.next+1,h.aj⟩ aN:=uG.next (n:=h.next+1) (by omega)
     have kB:¬N0 g:=fun k=>by have:=bA g k;have:=aX.size;omega
     have cg:∀i v p,φ i v=some p→p.bD≠g:=fun i v p ag=>by obtain⟨_,b,_,_,_,_,_,_,bZ⟩:=dw.cO i v p ag;have:=bZ.bD;omega
     have hlen:(((s0::r0).map fun s=>(s.t,s.w)).map fun c=>J.agg [.str c.1,.int .i64 c.2]).length=(s0::r0).length:=by simp
     have BG:=BF.FV (nid:=h.next) (g:=g) hid (by show h.next<h.next+1;omega) kB cg
      (l:=((s0::r0).map fun s=>(s.t,s.w)).map fun c=>J.agg [.str c.1,.int .i64 c.2]) (es:=2) (by decide) (fun e he=>by
       simp only [List.mem_map]at he;obtain⟨c,_,rfl⟩:=he
       rfl) (c:=sm) (t:=92) (tot:=cap) (ex:=false) uI
      (by rw [hlen,uJ];exact BE φ 0 (s0::r0)) (by omega) (by rw [hlen];exact be)
      (by rw [hlen,uJ];intro x ab;simp only [ms,List.mem_flatMap]at ab;obtain⟨y,_,bi⟩:=ab;simp at bi;rcases bi with rfl|rfl<;>rfl)
      (ty:=some (92,0)) (fun q aw=>by cases aw;exact⟨rfl,fun h=>absurd rfl h⟩)
     refine⟨_,φ.add h.next 0 ⟨g,0,0,2,cap,false,false⟩,rfl,?_,?_,BG,uH,by show h.next≤h.next+1;omega⟩
     ·have ab:=fK.add φ ⟨g,0,0,2,cap,false,false⟩ (hid 0) h.next (id:=h.next) (v:=0)
      exact⟨ab.le,fun i ac BH=>ab.new i ac (by omega) BH,ab.ro⟩
     ·simp only [aA,List.length_cons,List.length_map];refine⟨_,cap,rfl,Nat.le_refl _,by simpa using be,.inl ⟨rfl,⟨g,0,0,2,cap,false,false⟩,Map.rP _ _ _ _,rfl,.inr ⟨Nat.zero_le _,by simp [Place.at],by simp⟩,fun h=>by simp at h⟩⟩
  ·cases an
 ·cases an
def BI:List (List UInt8×List (List UInt8×Int)):=Gk.map fun s=>(s,s.map fun b=>([b],1))
theorem Nh:∀x∈BI,∃rs c8,sl st ⟨x.1.toArray⟩ rs c8∧x.2=c8.map fun s=>(s.t,s.w):=by intro x ab;simp only [BI,List.mem_map]at ab;obtain⟨s,hs,rfl⟩:=ab;exact⟨_,_,M7 (List.all_eq_true.1 M9 s hs),by simp [Gj]⟩
structure aq(N0:Nat→Prop)(w:World):Prop where
 s:N0 1
 BJ:∃uK ow,w.cell? ⟨1,0,none⟩=some (.iface uK ow)
theorem aq.keep{N0 uL:Nat→Prop}{w0 w:World}(h:aq N0 w0)(hs:Go.ba.Safe N0 w0 w)(be:∀x,N0 x→uL x):aq uL w where
 s:=be _ h.s
 BJ:=by obtain⟨uK,ow,e⟩:=h.BJ;exact⟨uK,ow,by rw [World.cell?_of_block (hs.block _ h.s)];exact e⟩
noncomputable def BK:o8:=fun args h =>
 match args with
 |[.str f,.str s,.int .i64 _,.int .i64 _,.iface t (.int .i64 2)]=>if t=BC.t 34∧s.length≤2^20 then some (.iface (BC.t 39) .undef,h)else none
 |_=>none
theorem Ni:pv Tryz.prog aq 158 BK:=by
 intro N0 w0 bA dV args h v h' an φ w args' dw aX dy;unfold BK at an;split at an
 ·rename_i f s aT bw t;split at an
  ·rename_i ar;obtain⟨rfl,aF⟩:=ar;simp only [Option.some.injEq,Prod.mk.injEq]at an;obtain⟨rfl,rfl⟩:=an;obtain⟨l⟩:=args';simp only [bd,aA]at dy;obtain⟨a,t,rfl,⟨u,rfl,rfl⟩,a,t,rfl,⟨jF,rfl,rfl⟩,a,t,rfl,rfl,a,t,rfl,rfl,a,t,rfl,⟨z,rfl,rfl⟩,rfl⟩:=dy;have BL:=dV.keep aX fun _ ab=>ab
   obtain⟨uK,ow,he⟩:=BL.BJ;refine⟨⟨Tryz.f158,_,Tryz.func158,rfl⟩,?_⟩;refine(AnyPu.strconv_toError_syntax Nc u jF _ _ _ w (by have:jF.size≤2^20:=(by simpa using aF);omega) he (.inr ⟨uK,ow,rfl⟩)).mono ?_;rintro e aN ⟨n,rfl,_,_,ao⟩;exact⟨_,φ,rfl,d'.refl _ _,by simp only [aA];exact⟨_,rfl,trivial⟩,dw.alike (Alike.below ao),aX.xp bA ao,Nat.le_refl _⟩
  ·cases an
 ·cases an
noncomputable def env:bh :=
 { cond:=aq,D:=rK Tryz.prog,eqs:=[75,76],
   qj:=fun f=>if f=141 then some (BD BI)else if f=140 then some (ur uD)else if f=62 then some Ba else if f=63 then some A' else if f=127 then some (Bb 98)else if f=158 then some BK else none,
   ext:=fun f=>if f=172 then some 0 else if f=229 then some 1 else if f=159 then some 2 else none}
theorem bg:fh Tryz.prog env where
 ga:=c5.A9 _
 eqs:=Mh (by decide+kernel)
 names:=Bv.names
 w':=fun f g h=>by
  simp only [env]at h
  repeat' split at h
  ·rename_i e;subst e;simp only [Option.some.injEq]at h;subst h;exact Nf Nh
  ·rename_i e;subst e;simp only [Option.some.injEq]at h;subst h;exact Gh _
  ·rename_i e;subst e;simp only [Option.some.injEq]at h;subst h;exact Ml M' BB ⟨Tryz.f62,_,Tryz.func62,rfl⟩
  ·rename_i e;subst e;simp only [Option.some.injEq]at h;subst h;exact Mj Na BB ⟨Tryz.f63,_,Tryz.func63,rfl⟩
  ·rename_i e;subst e;simp only [Option.some.injEq]at h;subst h;exact Mm Nb BB.toX72 ⟨Tryz.f127,_,Tryz.func127,rfl⟩
  ·rename_i e;subst e;simp only [Option.some.injEq]at h;subst h;exact Ni
  ·cases h
 xa:=fun f k h=>by
  simp only [env]at h
  repeat' split at h
  ·rename_i e;subst e;simp only [Option.some.injEq]at h;subst h;exact⟨Tryz.f172,_,by kernel_rfl,by kernel_rfl,by kernel_rfl,by kernel_rfl,rfl⟩
  ·rename_i e;subst e;simp only [Option.some.injEq]at h;subst h;exact⟨Tryz.f229,_,by kernel_rfl,by kernel_rfl,by kernel_rfl,by kernel_rfl,rfl⟩
  ·rename_i e;subst e;simp only [Option.some.injEq]at h;subst h;exact⟨Tryz.f159,_,by kernel_rfl,by kernel_rfl,by kernel_rfl,by kernel_rfl,rfl⟩
  ·cases h
end Go.Proofs.YtjpfnbihopoeeaaGreatDoor
namespace Go.ba
noncomputable section
open Go.RowKit
def aO.bF(r:Nat→Nat)(a:aO):aO:= {a with id:=r a.id}
mutual
def J.bF(r:Nat→Nat):J→J
 |.ptr (some a)=> .ptr (some (a.bF r))
 |.slice (some a) n c=> .slice (some (a.bF r)) n c
 |.func fn f c=> .func fn (J.iw r f) (J.iw r c)
 |.iface t v=> .iface t (J.bF r v)
 |.agg cs=> .agg (J.iw r cs)
 |.tuple vs=> .tuple (J.iw r vs)
 |.undef=> .undef
 |.bool b=> .bool b
 |.int k n=> .int k n
 |.str s=> .str s
 |.ptr none=> .ptr none
 |.slice none n c=> .slice none n c
 |.nilFunc=> .nilFunc
 |.nilIface=> .nilIface
def J.iw(r:Nat→Nat):List J→List J
 |[]=> []
 |a::l=>J.bF r a::J.iw r l
end
theorem J.xM(r:Nat→Nat):∀(l:List J),J.iw r l=l.map (J.bF r)
 |[]=>rfl
 |a::l=>by simp [J.iw,J.xM r l]
mutual
def cw(D:Nat→Prop):J→Prop
 |.ptr (some a)=>D a.id
 |.slice (some a) _ _=>D a.id
 |.func _ f c=>e9 D f∧e9 D c
 |.iface _ v=>cw D v
 |.agg cs=>e9 D cs
 |.tuple vs=>e9 D vs
 |.undef=>True
 |.bool _=>True
 |.int _ _=>True
 |.str _=>True
 |.ptr none=>True
 |.slice none _ _=>True
 |.nilFunc=>True
 |.nilIface=>True
def e9(D:Nat→Prop):List J→Prop
 |[]=>True
 |a::l=>cw D a∧e9 D l
end
theorem xN{D:Nat→Prop} :∀{l:List J},e9 D l↔ ∀a∈l,cw D a
 |[]=>by simp [e9]
 |a::l=>by simp [e9,xN (l:=l)]
mutual
theorem aA.bF{φ cm:Map}{r:Nat→Nat}(h:∀i v p,φ i v=some p→cm (r i) v=some p):∀{a:J}{v:Value},aA φ a v→aA cm (a.bF r) v
 |.undef,_,_=>by simp [aA,J.bF]
 |.bool b,v,k=>by simpa [aA,J.bF]using k
 |.int _ n,v,k=>by simpa [aA,J.bF]using k
 |.str s,v,k=>by simpa [aA,J.bF]using k
 |.ptr none,v,k=>by simpa [aA,J.bF]using k
 |.ptr (some a),v,k=>by simp only [aA,J.bF]at k⊢;obtain⟨x,e,p,ag,q⟩:=k;exact⟨x,e,p,h _ _ _ ag,q⟩
 |.slice none len cap,v,k=>by simpa [aA,J.bF]using k
 |.slice (some a) len cap,v,k=>by
  simp only [aA,J.bF]at k⊢;obtain⟨x,c,e,dt,bX,q⟩:=k;refine⟨x,c,e,dt,bX,?_⟩;rcases q with ⟨aS,p,ag,q⟩|⟨f,aS,p,ag,q⟩
  ·exact .inl ⟨aS,p,h _ _ _ ag,q⟩
  ·exact .inr ⟨f,aS,p,h _ _ _ ag,q⟩
 |.func fn f c,v,k=>by simp only [aA,J.bF]at k⊢;obtain⟨bG,eN,e,cB,c9⟩:=k;exact⟨bG,eN,e,bd.bF h cB,bd.bF h c9⟩
 |.nilFunc,v,k=>by simpa [aA,J.bF]using k
 |.iface t a,v,k=>by simp only [aA,J.bF]at k⊢;obtain⟨x,e,q⟩:=k;exact⟨x,e,aA.bF h q⟩
 |.nilIface,v,k=>by simpa [aA,J.bF]using k
 |.agg cs,v,k=>by simp only [aA,J.bF]at k⊢;obtain⟨x,e,q⟩:=k;exact⟨x,e,bd.bF h q⟩
 |.tuple cs,v,k=>by simp only [aA,J.bF]at k⊢;obtain⟨x,e,q⟩:=k;exact⟨x,e,bd.bF h q⟩
theorem bd.bF{φ cm:Map}{r:Nat→Nat}(h:∀i v p,φ i v=some p→cm (r i) v=some p):∀{l:List J}{t:List Value},bd φ l t→bd cm (J.iw r l) t
 |[],t,k=>by simpa [bd,J.iw]using k
 |a::l,t,k=>by simp only [bd,J.iw]at k⊢;obtain⟨v,e1,e,k1,k2⟩:=k;exact⟨v,e1,e,aA.bF h k1,bd.bF h k2⟩
end
mutual
theorem aA.kF{φ cm:Map}{r:Nat→Nat}{D:Nat→Prop}(h:∀i,D i→ ∀v p,cm (r i) v=some p→φ i v=some p):∀{a:J}{v:Value},cw D a→aA cm (a.bF r) v→aA φ a v
 |.undef,_,_,_=>by simp [aA]
 |.bool b,v,_,k=>by simpa [aA,J.bF]using k
 |.int _ n,v,_,k=>by simpa [aA,J.bF]using k
 |.str s,v,_,k=>by simpa [aA,J.bF]using k
 |.ptr none,v,_,k=>by simpa [aA,J.bF]using k
 |.ptr (some a),v,c,k=>by simp only [aA,J.bF,cw]at k c⊢;obtain⟨x,e,p,ag,q⟩:=k;exact⟨x,e,p,h _ c _ _ ag,q⟩
 |.slice none len cap,v,_,k=>by simpa [aA,J.bF]using k
 |.slice (some a) len cap,v,fO,k=>by
  simp only [aA,J.bF,cw]at k fO⊢;obtain⟨x,c,e,dt,bX,q⟩:=k;refine⟨x,c,e,dt,bX,?_⟩;rcases q with ⟨aS,p,ag,q⟩|⟨f,aS,p,ag,q⟩
  ·exact .inl ⟨aS,p,h _ fO _ _ ag,q⟩
  ·exact .inr ⟨f,aS,p,h _ fO _ _ ag,q⟩
 |.func fn f c,v,fO,k=>by simp only [aA,J.bF,cw]at k fO⊢;obtain⟨bG,eN,e,cB,c9⟩:=k;exact⟨bG,eN,e,bd.kF h fO.1 cB,bd.kF h fO.2 c9⟩
 |.nilFunc,v,_,k=>by simpa [aA,J.bF]using k
 |.iface t a,v,fO,k=>by simp only [aA,J.bF,cw]at k fO⊢;obtain⟨x,e,q⟩:=k;exact⟨x,e,aA.kF h fO q⟩
 |.nilIface,v,_,k=>by simpa [aA,J.bF]using k
 |.agg cs,v,fO,k=>by simp only [aA,J.bF,cw]at k fO⊢;obtain⟨x,e,q⟩:=k;exact⟨x,e,bd.kF h fO q⟩
 |.tuple cs,v,fO,k=>by simp only [aA,J.bF,cw]at k fO⊢;obtain⟨x,e,q⟩:=k;exact⟨x,e,bd.kF h fO q⟩
theorem bd.kF{φ cm:Map}{r:Nat→Nat}{D:Nat→Prop}(h:∀i,D i→ ∀v p,cm (r i) v=some p→φ i v=some p):∀{l:List J}{t:List Value},e9 D l→bd cm (J.iw r l) t→bd φ l t
 |[],t,_,k=>by simpa [bd,J.iw]using k
 |a::l,t,c,k=>by simp only [bd,J.iw,e9]at k c⊢;obtain⟨v,e1,e,k1,k2⟩:=k;exact⟨v,e1,e,aA.kF h c.1 k1,bd.kF h c.2 k2⟩
end
def aJ.bF(r:Nat→Nat)(b:aJ):aJ:= {b with a':=b.a'.map (J.bF r)}
theorem aJ.Gl(r:Nat→Nat)(b:aJ)(v:Nat):(b.bF r).cj v=b.cj v:=by show(if v=b.ver then(b.a'.map (J.bF r)).length else if b.eD≤v∧v<b.ver then b.hU else 0)=b.cj v;rw [List.length_map];rfl
theorem J.xO(r:Nat→Nat)(e:J):(e.bF r).cells=e.cells.map (J.bF r):=by
 cases e with
 |ptr o=>cases o<;>simp [J.bF,J.cells]
 |slice o n c=>cases o<;>simp [J.bF,J.cells]
 |agg l=>simp [J.bF,J.cells,J.xM]
 |_=>simp [J.bF,J.cells]
theorem Row.bF{φ cm:Map}{r:Nat→Nat}(h:∀i v p,φ i v=some p→cm (r i) v=some p){S T:Nat→Prop}{b:aJ}{v:Nat}{p:Place}{w:World}(k:Row φ S b v p w)(kE:p.ro=false→ ¬T p.bD):Row cm T (b.bF r) v p w where
 bD:=k.bD
 base:=kE
 cells:=k.cells
 free:=k.free
 mark:=k.mark
 hW:=k.hW
 cont i e U ak aP:=by rw [aJ.Gl]at ak;simp only [aJ.bF,List.getElem?_map,Option.map_eq_some_iff]at aP;obtain⟨e0,aP,rfl⟩:=aP;obtain⟨k1,k2,bT⟩:=k.cont i e0 U ak aP;refine⟨by rw [J.xO,List.length_map];exact k1,k2,fun j br ab=> ?_⟩;rw [J.xO,List.getElem?_map,Option.map_eq_some_iff]at ab;obtain⟨kD,ab,rfl⟩:=ab;obtain⟨x,g1,g2,g3⟩:=bT j kD ab;exact⟨x,g1,aA.bF h g2,g3⟩
theorem cw.cells{D:Nat→Prop}{e:J}(h:cw D e):∀x∈e.cells,cw D x:=by
 intro x ab;cases e with
 |agg l=>simp only [cw]at h;exact xN.1 h x (by simpa [J.cells]using ab)
 |ptr o=>cases o<;>(simp only [J.cells,List.mem_singleton]at ab;subst ab;exact h)
 |slice o n c=>cases o<;>(simp only [J.cells,List.mem_singleton]at ab;subst ab;exact h)
 |_=>simp only [J.cells,List.mem_singleton]at ab;subst ab;exact h
theorem Row.kF{φ cm:Map}{r:Nat→Nat}{D:Nat→Prop}(h:∀i,D i→ ∀v p,cm (r i) v=some p→φ i v=some p){S T:Nat→Prop}{b:aJ}{v:Nat}{p:Place}{w:World}(ar:∀e∈b.a',cw D e)(k:Row cm S (b.bF r) v p w)
 (kE:p.ro=false→ ¬T p.bD):Row φ T b v p w where
 bD:=k.bD
 base:=kE
 cells:=k.cells
 free:=k.free
 mark:=k.mark
 hW:=k.hW
 cont i e U ak aP:=by
  have Nj:(b.bF r).a'[i]? =some (e.bF r):=by simp [aJ.bF,aP]
  obtain⟨k1,k2,bT⟩:=k.cont i (e.bF r) U (by rw [aJ.Gl];exact ak) Nj;rw [J.xO,List.length_map]at k1;refine⟨k1,k2,fun j br ab=> ?_⟩;obtain⟨x,g1,g2,g3⟩:=bT j (br.bF r) (by rw [J.xO,List.getElem?_map,ab];rfl);exact⟨x,g1,aA.kF h ((ar e (List.mem_of_getElem? aP)).cells br (List.mem_of_getElem? ab)) g2,g3⟩
theorem Row.at{φ cm:Map}(h:φ.le cm){S:Nat→Prop}{b:aJ}{v:Nat}{p:Place}{w aN:World}(k:Row φ S b v p w)(hs:w.heap.size≤aN.heap.size)(ao:aN.heap[p.bD]? =w.heap[p.bD]?):Row cm S b v p aN where
 bD:=Nat.lt_of_lt_of_le k.bD hs
 base:=k.base
 cells o ap:=by have:=k.cells o ap;simp only [World.cell?,ao]at this⊢; exact this
 free aC o ap:=by have:=k.free aC o ap;simp only [World.frozen?,ao]at this⊢; exact this
 mark aC:=(k.mark aC).of_eq (qp ao)
 hW t bl:=by rw [qp ao];exact k.hW t bl
 cont i e U ak aP:=by obtain⟨k1,k2,bT⟩:=k.cont i e U ak aP;refine⟨k1,k2,fun j br ab=> ?_⟩;obtain⟨x,g1,g2,g3⟩:=bT j br ab;refine⟨x,?_,aA.mono h g2,g3⟩;simp only [World.cell?,Place.at,ao]at g1⊢; exact g1
def In(h:I)(i:Nat):Prop:=(h.get i).isSome=true
structure xP(r:Nat→Nat)(h H:I):Prop where
 get:∀i b,h.get i=some b→i<h.next∧H.get (r i)=some (b.bF r)
 inj:∀i j,In h i→In h j→r i=r j→i=j
 ox:∀i b,h.get i=some b→ ∀e∈b.a',cw (In h) e
open Classical in
def hJ(cm:Map)(r:Nat→Nat)(h:I):Map:=fun i v=>if In h i then cm (r i) v else none
theorem kG{cm:Map}{r:Nat→Nat}{h:I}{i v:Nat}{p:Place}(k:hJ cm r h i v=some p):In h i∧cm (r i) v=some p:=by
 unfold hJ at k;split at k
 ·rename_i ac;exact⟨ac,k⟩
 ·cases k
theorem oy{cm:Map}{r:Nat→Nat}{h:I}{i v:Nat}(ac:In h i):hJ cm r h i v=cm (r i) v:=by unfold hJ;rw [if_pos ac]
theorem ch.hJ{cm:Map}{S T:Nat→Prop}{H h:I}{w:World}{r:Nat→Nat}(k:ch cm S H w)(hw:xP r h H)(kE:∀i v p,hJ cm r h i v=some p→p.ro=false→ ¬T p.bD):ch (hJ cm r h) T h w where
 cO i v p ag:=by obtain⟨ac,aw⟩:=kG ag;obtain⟨b,ao⟩:=Option.isSome_iff_exists.1 ac;obtain⟨U,ak⟩:=hw.get i b ao;obtain⟨k1,B,k2,bT,cr,c6,ev,kA,tS⟩:=k.cO _ _ _ aw;rw [ak]at k2;simp only [Option.some.injEq]at k2;subst k2;exact⟨U,b,ao,bT,cr,c6,ev,kA,tS.kF (fun i ac v p ag=>by rw [oy ac];exact ag) (hw.ox i b ao) (kE i v p ag)⟩
 apart i v p j u q ag aw ao cg:=by obtain⟨ac,dX⟩:=kG ag;obtain⟨ay,dN⟩:=kG aw;exact k.apart _ _ _ _ _ _ dX dN ao fun e=>cg (hw.inj i j ac ay e)
 same i v p u q ag aw ao:=by obtain⟨ac,dX⟩:=kG ag;obtain⟨_,dN⟩:=kG aw;exact k.same _ _ _ _ _ dX dN ao
class kH (C:(Nat→Prop)→World→Prop):Prop where
 mono:∀{N0 uL:Nat→Prop}{w0 w:World},dW N0 w0.heap.size→C N0 w0→Safe N0 w0 w→(∀x,N0 x→uL x)→C uL w
def aZ(P:Program)(C:(Nat→Prop)→World→Prop)(f:FuncId)(args:List J)(h:I)(v:J)(h':I):Prop :=
 ∀(N0:Nat→Prop)(w0:World),dW N0 w0.heap.size→C N0 w0→ ∀(φ:Map)(w:World)(args':Array Value),ch φ N0 h w→Safe N0 w0 w→bd φ args args'.toList →
  (∃fn c,P.funcs[f]? =some fn∧fn.body=some c) ∧
  Calls P f args' w fun e aN=> ∃a8 bj,e=.returned a8∧d' φ bj h.next∧aA bj v a8∧ch bj N0 h' aN∧Safe N0 w0 aN∧h.next≤h'.next
theorem aZ.xQ{P:Program}{E:bh}(bR:fh P E)(dI:P.follows .mixedOrders=true){n:Nat}{f:FuncId}{args:List J}{h h':I}{v:J}(ar:jR P E n f args h=some (v,h')):aZ P E.cond f args h v h' :=
 fun N0 w0 bA dV φ w args' dw aX dy=>xn bR bA dV dI n f args h v h' ar φ w args' dw aX dy
open Classical in
def push(cm bj:Map)(r:Nat→Nat):Map:=fun j u=>if k:∃i p,r i=j∧bj i u=some p then bj k.choose u else cm j u
theorem aZ.frame{P:Program}{C:(Nat→Prop)→World→Prop}[Nk:kH C]{f:FuncId}{args:List J}{h h':I}{v:J}(k:aZ P C f args h v h'){r:Nat→Nat}{H H':I}(hw:xP r h H)(hd:e9 (In h) args)
 (fg:∀i,h.next≤i→r i=H.next+(i-h.next)) (hl:∀i b,h'.get i=some b→(In h i∨h.next≤i)→H'.get (r i)=some (b.bF r)) (xR:H'.next=H.next+(h'.next-h.next))
 (jY:∀j,j<H.next→(∀i,In h i→r i≠j)→H'.get j=H.get j):aZ P C f (args.map (J.bF r)) H (v.bF r) H':=by
 intro S w0 cb BL cm w args' dw q0 dy
 let φ:=hJ cm r h
 let uM:Nat→Prop:=fun x=>S x∨(x<w.heap.size∧∀i v p,φ i v=some p→p.ro=false→p.bD≠x)
 have kB:dW uM w.heap.size:=by
  rintro x (ab|ab)
  ·exact Nat.lt_of_lt_of_le (cb x ab) q0.size
  ·exact ab.1
 have uF:∀i v p,φ i v=some p→p.ro=false→ ¬uM p.bD:=by
  rintro i v p ag dD (ab|ab)
  ·obtain⟨_,aw⟩:=kG ag;obtain⟨_,B,_,_,_,_,_,_,hn⟩:=dw.cO _ _ _ aw;exact hn.base dD ab
  ·exact ab.2 i v p ag dD rfl
 have oz:ch φ uM h w:=dw.hJ hw uF
 have uN:bd φ args args'.toList:=by rw [←J.xM]at dy;exact bd.kF (fun i ac v p ag=>by show hJ cm r h i v=some p;rw [oy ac];exact ag) hd dy
 obtain⟨ao,ar⟩:=k uM w kB (Nk.mono cb BL q0 fun x ab=> .inl ab) φ w args' oz (Safe.refl _ _) uN;refine⟨ao,ar.mono fun e aN ⟨a8,bj,he,mw,a7,aC,hs,be⟩=> ?_⟩
 have q1:∀i u p,bj i u=some p→(In h i∧r i<H.next)∨h.next≤i:=by
  intro i u p ag;by_cases ac:i<h.next
  ·by_cases fN:In h i
   ·left;refine⟨fN,?_⟩;by_cases hex:∃Gm bW,φ i Gm=some bW
    ·obtain⟨Gm,bW,bt⟩:=hex;exact(dw.cO _ _ _ (kG bt).2).1
    ·have:=mw.new i ac (fun u=>by
      cases aw:φ i u with
      |none=>rfl
      |some q=>exact absurd ⟨u,q,aw⟩ hex) u
     rw [this]at ag;cases ag
   ·have:=mw.new i ac (fun u=>by show hJ cm r h i u=none;unfold ba.hJ;rw [if_neg fN]) u;rw [this]at ag;cases ag
  ·exact .inr (by omega)
 have Gn:∀i j u t p q,bj i u=some p→bj j t=some q→r i=r j→i=j:=by
  intro i j u t p q ag aw e;rcases q1 i u p ag with ⟨ac,BM⟩|ac<;>rcases q1 j t q aw with ⟨ay,Wo⟩|ay
  ·exact hw.inj i j ac ay e
  ·rw [fg j ay]at e;omega
  ·rw [fg i ac]at e;omega
  ·rw [fg i ac,fg j ay]at e;omega
 have cC:∀i u p,bj i u=some p→push cm bj r (r i) u=some p:=by
  intro i u p ag;have hex:∃eo iv,r eo=r i∧bj eo u=some iv:=⟨i,p,rfl,ag⟩
  unfold push;rw [dif_pos hex];obtain⟨iv,bo,bO⟩:=hex.choose_spec;rw [Gn _ _ _ _ _ _ bO ag bo];exact ag
 have ci:∀j u,(¬∃i p,r i=j∧bj i u=some p)→push cm bj r j u=cm j u:=by intro j u hex;unfold push;rw [dif_neg hex]
 have gI:∀j u p,cm j u=some p→(¬∃i p,r i=j∧bj i u=some p)→ ∀i,In h i→r i≠j:=by
  intro j u p ag hex i ac e;subst e;have U:φ i u=some p:=by show hJ cm r h i u=some p;rw [oy ac];exact ag
  exact hex ⟨i,p,rfl,mw.le _ _ _ U⟩
 have mv:(cm:Map).le (push cm bj r):=by
  intro j u p ag;by_cases hex:∃i p,r i=j∧bj i u=some p
  ·obtain⟨i,q,rfl,aw⟩:=hex;rw [cC i u q aw];rcases q1 i u q aw with ⟨ac,BM⟩|ac
   ·have U:φ i u=some p:=by show hJ cm r h i u=some p;rw [oy ac];exact ag
    rw [mw.le _ _ _ U]at aw;exact aw.symm
   ·have:=(dw.cO _ _ _ ag).1;rw [fg i ac]at this;omega
  ·rw [ci j u hex];exact ag
 have pE:∀j u p,cm j u=some p→(∀i,In h i→r i≠j)→uM p.bD:=by intro j u p ag cg;obtain⟨_,B,_,_,_,_,_,_,hn⟩:=dw.cO _ _ _ ag;refine .inr ⟨hn.bD,fun i v q aw dD e=> ?_⟩;obtain⟨ac,dN⟩:=kG aw;have:=(dw.apart _ _ _ _ _ _ dN ag e (cg i ac)).1;rw [dD]at this;cases this
 refine⟨a8,push cm bj r,he,⟨mv,?_,?_⟩,aA.bF cC a7,⟨?_,?_,?_⟩,q0.trans (hs.less fun i ac=> .inl ac),by omega⟩
 ·intro j ay jT u;by_cases hex:∃i p,r i=j∧bj i u=some p
  ·obtain⟨i,q,rfl,aw⟩:=hex;rcases q1 i u q aw with ⟨ac,BM⟩|ac
   ·have AX:i<h.next:=by obtain⟨b,ao⟩:=Option.isSome_iff_exists.1 ac;exact(hw.get i b ao).1
    have:=mw.new i AX (fun u=>by show hJ cm r h i u=none;rw [oy ac];exact jT u) u;rw [this]at aw;cases aw
   ·rw [fg i ac]at ay;omega
  ·rw [ci j u hex];exact jT u
 ·intro j u p ag dD;by_cases hex:∃i p,r i=j∧bj i u=some p
  ·obtain⟨i,q,rfl,aw⟩:=hex;rw [cC i u q aw]at ag;simp only [Option.some.injEq]at ag;subst ag;exact(kG (mw.ro i u q aw dD)).2
  ·rw [ci j u hex]at ag;exact ag
 ·intro j u p ag;by_cases hex:∃i p,r i=j∧bj i u=some p
  ·obtain⟨i,q,rfl,aw⟩:=hex;rw [cC i u q aw]at ag;simp only [Option.some.injEq]at ag;subst ag;obtain⟨d1,b,d2,d3,d4,d5,d6,d7,d8⟩:=aC.cO _ _ _ aw
   have Nl:In h i∨h.next≤i:=by
    rcases q1 i u q aw with ⟨ac,_⟩|ac
    ·exact .inl ac
    ·exact .inr ac
   refine⟨?_,b.bF r,hl i b d2 Nl,d3,d4,d5,d6,d7,d8.bF cC fun dD ab=>d8.base dD (.inl ab)⟩;rcases q1 i u q aw with ⟨_,BM⟩|ac
   ·omega
   ·rw [fg i ac,xR];omega
  ·rw [ci j u hex]at ag;obtain⟨d1,B,d2,d3,d4,d5,d6,d7,d8⟩:=dw.cO _ _ _ ag;have cg:=gI j u p ag hex;exact⟨by omega,B,by rw [jY j d1 cg];exact d2,d3,d4,d5,d6,d7,d8.at mv hs.size (hs.block _ (pE j u p ag cg))⟩
 ·have mixed:∀i u p j t q,bj i u=some p→cm j t=some q→(∀i,In h i→r i≠j)→p.bD=q.bD→p.ro=true∧q.ro=true:=by
   intro i u p j t q ag aw cg ao;have ab:=pE j t q aw cg;by_cases dD:p.ro=true
   ·obtain⟨ac,dX⟩:=kG (mw.ro i u p ag dD);exact dw.apart _ _ _ _ _ _ dX aw ao (cg i ac)
   ·obtain⟨_,b,_,_,_,_,_,_,d8⟩:=aC.cO _ _ _ ag;exact absurd (ao▸ab) (d8.base (by simpa using dD))
  intro i u p j t q ag aw ao cg;by_cases hex:∃eo p,r eo=i∧bj eo u=some p<;>by_cases lP:∃eo p,r eo=j∧bj eo t=some p
  ·obtain⟨eo,iv,rfl,dX⟩:=hex;obtain⟨je,kr,rfl,dN⟩:=lP;rw [cC _ _ _ dX]at ag;rw [cC _ _ _ dN]at aw;simp only [Option.some.injEq]at ag aw;subst ag;subst aw;exact aC.apart _ _ _ _ _ _ dX dN ao fun e=>cg (by rw [e])
  ·obtain⟨eo,iv,rfl,dX⟩:=hex;rw [cC _ _ _ dX]at ag;rw [ci _ _ lP]at aw;simp only [Option.some.injEq]at ag;subst ag;exact mixed _ _ _ _ _ _ dX aw (gI j t q aw lP) ao
  ·obtain⟨je,kr,rfl,dN⟩:=lP;rw [ci _ _ hex]at ag;rw [cC _ _ _ dN]at aw;simp only [Option.some.injEq]at aw;subst aw;exact(mixed _ _ _ _ _ _ dN ag (gI i u p ag hex) ao.symm).symm
  ·rw [ci _ _ hex]at ag;rw [ci _ _ lP]at aw;exact dw.apart _ _ _ _ _ _ ag aw ao cg
 ·intro i u p t q ag aw ao
  have both:∀eo iv,r eo=i→ ∀qz,bj eo qz=some iv→ ∀t q,push cm bj r i t=some q→bj eo t=some q:=by
   intro eo iv e qz dX t q aw;by_cases lP:∃je p,r je=i∧bj je t=some p
   ·obtain⟨je,kr,bO,dN⟩:=lP;have:=Gn eo je _ _ _ _ dX dN (by rw [e,bO]);subst this;rw [←bO,cC _ _ _ dN]at aw;rw [dN];exact aw
   ·rw [ci _ _ lP]at aw;rcases q1 eo qz iv dX with ⟨ac,_⟩|ac
    ·exact absurd e (gI i t q aw lP eo ac)
    ·have:=(dw.cO _ _ _ aw).1;rw [←e,fg eo ac]at this;omega
  by_cases hex:∃eo p,r eo=i∧bj eo u=some p
  ·obtain⟨eo,iv,e,dX⟩:=hex;exact aC.same eo _ _ _ _ (both eo iv e u dX u p ag) (both eo iv e u dX t q aw) ao
  ·by_cases lP:∃eo p,r eo=i∧bj eo t=some p
   ·obtain⟨eo,iv,e,dX⟩:=lP;exact aC.same eo _ _ _ _ (both eo iv e t dX u p ag) (both eo iv e t dX t q aw) ao
   ·rw [ci _ _ hex]at ag;rw [ci _ _ lP]at aw;exact dw.same _ _ _ _ _ ag aw ao
end
end Go.ba
