/-
  Parts of the proof of KeysNamed.
-/
import Derived.Laws.IdiomCopy
import Derived.Scope
import Derived.Test.YtddnafghiejcoaaGreatDoorKKeysNamedA
set_option linter.unusedVariables false
set_option linter.unusedSimpArgs false
namespace Go.bh
noncomputable section
open Go.RowKit
def j7(P:Program)(aF:Nat→Prop)(aN:World)(call:cu):Prop :=
 ∀f args h v af,call f args h=some (v,af)→ ∀(φ:Map)(w:World)(cx:Array Value),bP φ aF h w→Safe aF aN w→aT φ args cx.toList →
  (∃fn c,P.funcs[f]? =some fn∧fn.body=some c) ∧
  Calls P f cx w fun e aL=> ∃aK aZ,e=.returned aK∧dr φ aZ h.U∧ar aZ v aK∧bP aZ aF af aL∧Safe aF aN aL∧h.U≤af.U
def wk(P:Program)(C:(Nat→Prop)→World→Prop)(f:FuncId)(g:st):Prop :=
 ∀(aF:Nat→Prop)(aN:World),dq aF aN.heap.size→C aF aN→ ∀args h v af,g args h=some (v,af)→ ∀(φ:Map)(w:World)(cx:Array Value),bP φ aF h w→Safe aF aN w→aT φ args cx.toList →
  (∃fn c,P.funcs[f]? =some fn∧fn.body=some c) ∧
  Calls P f cx w fun e aL=> ∃aK aZ,e=.returned aK∧dr φ aZ h.U∧ar aZ v aK∧bP aZ aF af aL∧Safe aF aN aL∧h.U≤af.U
def qY:Nat→Option (Array Value→Sem Value)
 |0=>some Extern.BytealgCount.count
 |1=>some Extern.BytealgIndexByte.indexByte
 |2=>some Extern.BytealgCompare.compare
 |_=>none
structure e7(P:Program)(E:bq):Prop where
 fp:E.D.dM P
 eqs:∀t,E.fa t=true→mI P t
 names:∀(f:Nat) fn,P.funcs[f]? =some fn→(fn.name == "runtime.NumGoroutine")=false
 zR:∀(f:Nat) g,E.o9 f=some g→wk P E.cond f g
 zS:∀(f:Nat) k,E.ext f=some k→ ∃fn e,P.funcs[f]? =some fn∧fn.body.isNone=true∧Extern.findNext fn=none∧Extern.find fn=some e∧qY k=some e
section
variable {P:Program}{φ:Map}{E:bq}
def dA(P:Program)(φ:Map)(aF:Nat→Prop)(aN:World)(h:I)(nid:Nat)(v:R)(af:I)(r:Result Next):Prop :=
 (∃aK aL aZ,(r=.ok (.value aK) aL∨(r=.ok .skip aL∧aK=undef))∧e6 φ aZ h.U nid∧ar aZ v aK∧bP aZ aF af aL∧Safe aF aN aL∧h.U≤af.U)
 ∨(∃f args aL,r=.ok (.enter f args) aL∧Calls P f args aL fun e jz=> ∃aK aZ,e=.returned aK∧e6 φ aZ h.U nid∧ar aZ v aK∧bP aZ aF af jz∧Safe aF aN jz∧h.U≤af.U)
theorem dA.oe{aF:Nat→Prop}{aN:World}{h:I}{nid:Nat}{v:R}{af:I}{s:Sem Value}{w:World}(k:lR P φ aF aN h nid v af s w){r:Result Next}
 (aR:r=(s.run P w).andThen fun v w=> .ok (.value v) w):dA P φ aF aN h nid v af r:=by
 obtain⟨aK,aL,aZ,aa,ae,aS,bj,cb,cS⟩:=k;refine .inl ⟨aK,aL,aZ,.inl ?_,ae,aS,bj,cb,J⟩;rw [aR,aa];rfl
theorem dA.fE{aF:Nat→Prop}{aN:World}{h:I}{nid:Nat}{v:R}{s:Sem Value}{w:World}(gh:bP φ aF h w)(an:Safe aF aN w)(k:∃aK,s.run P w=.ok aK w∧ar φ v aK){r:Result Next}
 (aR:r=(s.run P w).andThen fun v w=> .ok (.value v) w):dA P φ aF aN h nid v h r :=
 dA.oe (lR.pure gh an k) aR
theorem iW.of_map{ρ:Operand→R}{cq:Operand→Value}(bN:∀x,ar φ (ρ x) (cq x))(o:Option Operand):iW φ (o.map ρ) (o.map cq):=by
 cases o with
 |none=>trivial
 |some x=>exact bN x
theorem qZ{ρ:Operand→R}{cq:Operand→Value}(bN:∀x,ar φ (ρ x) (cq x))(xs:Array Operand):aT φ (xs.toList.map ρ) (xs.map cq).toList:=by rw [Array.toList_map];exact aT.map _ _ _ fun x _=>bN x
theorem E6{l:List R}(h:l.all (·.gZ)=true):flat l=l:=by
 induction l with
 |nil=>rfl
 |cons a r ih =>
  simp only [List.all_cons,Bool.and_eq_true]at h;have e:a.cells=[a]:=by cases a<;>first|rfl|(simp [R.gZ]at h)
  show a.cells++flat r=a::r;rw [e,ih h.2];rfl
theorem E7{D:ci}(bt:D.dM P){aF:Nat→Prop}{h af:I}{aN w:World}(r:bP φ aF h w)(b3:Safe aF aN w){t u ty:TypeId}{s x v:R}{aX a8:Value}(hs:ar φ s aX)(ac:ar φ x a8)(aj:vd D t s x h=some (v,af)) :
 ∃aK aL,(Builtin.copy_ #[t,u] ty #[aX,a8]).run P w=.ok aK aL∧ar φ v aK∧bP φ aF af aL∧Safe aF aN aL∧af.U=h.U:=by
 unfold vd at aj;split at aj
 ·rename_i d a len cap fy n M6 az;obtain⟨we,wg,wh,mQ,mR, -⟩:=bt.get az;split at aj
  ·rename_i e ap;rw [mR]at ap;have:=iw ap;subst this;split at aj
   ·rename_i bM lE b dP E8 og;obtain⟨cw,kP,ea, -, -,dd, -⟩:=bt.get dP;split at aj
    ·rename_i al;obtain⟨db,c2,c3,c4,c5,j6,lT,kT,c9,zN⟩:=al;split at aj
     ·rename_i cs eh;split at aj
      ·rename_i lQ;obtain⟨zO,c12⟩:=lQ;simp only [Option.some.injEq,Prod.mk.injEq]at aj;obtain⟨rfl,rfl⟩:=aj;simp only [ar]at hs ac;obtain⟨xs,E9,rfl,M7,M8,fY⟩:=hs;obtain⟨zT,zU,rfl,cp,dy,q0⟩:=ac;rcases fY with ⟨aM,_⟩|⟨f,aM,q,av,M9,zV,rfl⟩
       ·omega
       ·obtain⟨p,ab,ja,pj,_⟩:=q0.plain c3;rw [c4]at ja;have E':¬zU=0:= J;rcases pj with ds|⟨cU,rfl,kL⟩
        ·exact absurd ds E'
        ·obtain⟨news,dU,dn,i',n9,n'⟩:=r.vQ ab E8 cU lT kT;rw [E6 c12]at dU;have vW:news.length=n:=by rw [n',←ja,Nat.mul_one]
         rw [zN]at av;have ir:b.bL b.bf=b.bc.length:=by simp [ai.bL]
         have n1:a.idx<b.bc.length:=(List.getElem?_eq_some_iff.1 eh).1
         have fK:cs.length=q.es:=by obtain⟨_,c,ae,_,_,_,_,_,bC⟩:=r.b6 a.id b.bf q av;rw [og]at ae;simp at ae;subst ae;exact(bC.cont a.idx (.agg cs) zV (by rw [ir];exact n1) eh).1
         have mL:a.fld-1=f:= J;have zW:((lE.bc.drop fy.idx).take n).length=n:=by have:=dU.length;omega
         obtain⟨a7,ba⟩:=r.store av og c9 (idx:=a.idx) (fld:=f) (e:= .agg cs) (cn:= .agg (gx cs f ((lE.bc.drop fy.idx).take n))) zV eh dU i' (by rw [zW];omega) rfl;rw [mL];refine⟨_,_,run_copy_cells w t u ty e q.br (q.off+(a.idx-q.aE)*q.es+f) len E9 (p.at fy.idx 0) n zU news mQ (by rw [ea];simp [dd▸db]) (by rw [vW];exact(Nat.min_eq_left j6).symm) ?_ (fun j aW=>(ba j aW).1) (fun j aW=>(ba j aW).2) i',?_,a7,?_,rfl⟩
         ·intro j v bg;have:=dn j v bg;cases j with
          |zero=>simpa [Place.at,Addr.add]using this
          |succ j=>simpa [Place.at,Addr.add]using this
         ·rw [vW];rfl
         ·obtain⟨_,c,ae,g3,g4,g5,g6,g7,bC⟩:=r.b6 a.id b.bf q av;rw [og]at ae;simp at ae;subst ae;exact qG q.br (bC.base (g6 c9)) news _ b3
      ·cases aj
     ·cases aj
    ·cases aj
   ·cases aj
  ·cases aj
 ·cases aj
theorem Fa(bA:e7 P E){aF:Nat→Prop}{h af:I}{aN w:World}(r:bP φ aF h w)(b3:Safe aF aN w)(ck:dq aF aN.heap.size){nid:Nat}(hid:∀v,φ nid v=none)(aI:nid<h.U)
 {b:Builtin} {ts:Array TypeId} (ty:TypeId) (q1:Array Bool) {args:List R} {cx:Array Value} (aD:aT φ args cx.toList) {v:R} (aj:e5 E b ts args nid h=some (v,af)) :
 dA P φ aF aN h nid v af ((builtin b ts ty q1 cx).run P w):=by
 unfold e5 at aj;split at aj
 ·split at aj
  ·rename_i x t bz;simp only [Option.map_eq_some_iff,Prod.mk.injEq]at aj;obtain⟨v1,aa,rfl,rfl⟩:=aj;exact dA.fE r b3 (EO bA.fp ty aD bz aa w) (by simp [builtin])
  ·cases aj
 ·split at aj
  ·rename_i s x t u bz hu
   have ap:(∃il,E.D u=some il∧(il.kind matches .slice _|.string)=true∧fb E.D t s x nid h=some (v,af)):=by
    split at aj
    ·rename_i il oh;split at aj
     ·rename_i he;exact⟨il,oh,by simp [he],aj⟩
     ·rename_i he;exact⟨il,oh,by simp [he],aj⟩
     ·cases aj
    ·cases aj
   obtain⟨il,oh,zX,aj⟩:=ap;obtain⟨M',Fb,Na,zY,wl, -⟩:=bA.fp.get oh
   have Fc:(∃cn,P.underlying u=some (.slice cn))∨P.underlying u=some .string:=by
    rw [wl]at zX;cases Fb<;>simp [eS]at zX
    ·right;exact zY
    ·left;exact⟨_,zY⟩
   simp only [aT]at aD;obtain⟨aX,dv,bk,hs,a8,eE,bV,ac,jv⟩:=aD;subst bV jv;have fk:cx= #[aX,a8]:=by apply Array.ext';simpa using bk
   have fB:=ES bA.fp r b3 ck hid aI ty hs ac Fc aj;refine dA.oe (s:=Builtin.append_ ts ty cx) (w:=w) ?_ (by simp [builtin]);obtain⟨aK,aL,aZ,a7,ba⟩:=fB;refine⟨aK,aL,aZ,?_,ba⟩;rw [←a7,fk];have wm:ts[0]? =(#[t,u]:Array TypeId)[0]? :=by rw [bz];rfl
   have mK:ts[1]? =(#[t,u]:Array TypeId)[1]? :=by rw [hu];rfl
   simp only [Builtin.append_,wm,mK]
  ·cases aj
 ·split at aj
  ·rename_i x dE;simp only [Option.map_eq_some_iff,Prod.mk.injEq]at aj;obtain⟨v1,aa,rfl,rfl⟩:=aj;exact dA.fE r b3 (Ee ts ty aD aa w) (by simp [builtin])
  ·cases aj
 ·split at aj
  ·rename_i x dE;simp only [Option.map_eq_some_iff,Prod.mk.injEq]at aj;obtain⟨v1,aa,rfl,rfl⟩:=aj;exact dA.fE r b3 (Ef ts ty aD aa w) (by simp [builtin])
  ·cases aj
 ·
   split at aj
   ·rename_i s x t u bz hu;simp only [aT]at aD;obtain⟨aX,dv,bk,hs,a8,eE,bV,ac,jv⟩:=aD;subst bV jv;have fk:cx= #[aX,a8]:=by apply Array.ext';simpa using bk
    obtain⟨aK,aL,a7,ba,cC,eK,fJ⟩:=E7 (P:=P) (u:=u) (ty:=ty) bA.fp r b3 hs ac aj;refine dA.oe (s:=Builtin.copy_ ts ty cx) (w:=w) ⟨aK,aL,φ,?_,e6.refl _ _ _,ba,cC,eK,fJ⟩ (by simp [builtin]);rw [←a7,fk];have wm:ts[0]? =(#[t,u]:Array TypeId)[0]? :=by rw [bz];rfl
    have mK:ts[1]? =(#[t,u]:Array TypeId)[1]? :=by rw [hu];rfl
    simp only [Builtin.copy_,wm,mK]
   ·cases aj
 ·
   split at aj
   ·rename_i x;simp only [Option.map_eq_some_iff,Prod.mk.injEq]at aj;obtain⟨v1,aa,rfl,rfl⟩:=aj;simp only [aT]at aD;obtain⟨aX,dv,bk,hs,bV⟩:=aD;subst bV;have fk:cx= #[aX]:=by apply Array.ext';simpa using bk
    subst fk;exact dA.fE r b3 (E2 (ts:=ts) (ty:=ty) hs aa w) (by simp [builtin])
   ·cases aj
 ·
   split at aj
   ·rename_i p n t bz;simp only [aT]at aD;obtain⟨aX,dv,bk,hs,a8,eE,bV,ac,jv⟩:=aD;subst bV jv;have fk:cx= #[aX,a8]:=by apply Array.ext';simpa using bk
    subst fk;have wo:a8=.int .i64 n:=by simpa only [ar]using ac
    subst wo;obtain⟨aK,aL,a7,ba,cC,eK,fJ⟩:=E3 bA.fp r b3 (ty:=ty) bz hs aj;exact dA.oe (s:=Builtin.unsafeString_ ts ty #[aX,.int .i64 n]) ⟨aK,aL,φ,a7,e6.refl _ _ _,ba,cC,eK,fJ⟩ (by simp [builtin])
   ·cases aj
 ·cases aj
theorem Fe(bA:e7 P E){aF:Nat→Prop}{h af:I}{aN w:World}{call:cu}(eb:j7 P aF aN call)(r:bP φ aF h w)(b3:Safe aF aN w)(ck:dq aF aN.heap.size){nid:Nat}(hid:∀v,φ nid v=none)
 (aI:nid<h.U) {ρ:Operand→R} {cq:Operand→Value} (bN:∀x,ar φ (ρ x) (cq x)) {o:Oper} {v:R} (aj:bb E call nid ρ h o.op=some (v,af)) :
 dA P φ aF aN h nid v af ((execOp cq o).run P w):=by
 unfold bb at aj;split at aj
 ·
   rename_i x e;simp only [Option.some.injEq,Prod.mk.injEq]at aj;obtain⟨rfl,rfl⟩:=aj;exact dA.fE (s:=pure (cq x)) r b3 ⟨_,rfl,bN x⟩ (by simp [execOp,e])
 ·rename_i x e;simp only [Option.some.injEq,Prod.mk.injEq]at aj;obtain⟨rfl,rfl⟩:=aj;exact dA.fE (s:=pure (cq x)) r b3 ⟨_,rfl,bN x⟩ (by simp [execOp,e])
 ·
   rename_i c a b e;split at aj
   ·rename_i t al;simp only [Option.some.injEq,Prod.mk.injEq]at aj;obtain⟨rfl,rfl⟩:=aj;have aa:=bN c;rw [al]at aa;simp only [ar]at aa;refine dA.fE (s:=pure (if t then cq a else cq b)) r b3 ⟨_,rfl,?_⟩ (by simp [execOp,e,aa,asBool]);cases t
    ·exact bN b
    ·exact bN a
   ·cases aj
 ·
   rename_i t e;split at aj
   ·rename_i d az;obtain⟨gm,u,fC,hu,ap,hs, -,ds⟩:=bA.fp.get az;split at aj
    ·rename_i z qV;split at aj
     ·rename_i al;simp only [Option.some.injEq,Prod.mk.injEq]at aj;obtain⟨rfl,rfl⟩:=aj;simp only [Bool.and_eq_true,decide_eq_true_eq]at al;obtain⟨dF,iZ,j3⟩:=pk (P:=P) (φ:=φ) (t:=t) bA.fp ds qV;obtain⟨aL,aZ,a7,ba,cC,eK,fJ⟩:=zt (P:=P) (D:=E.D) r b3 ck hid aI t j3 al.1 al.2;refine .inl ⟨_,aL,aZ,.inl ?_,ba,cC,eK,fJ,Nat.le_refl _⟩;simp [execOp,e,Instr.alloc,qI fC iZ,a7]
     ·cases aj
    ·cases aj
   ·cases aj
 ·
   rename_i t x e;split at aj
   ·rename_i d az;split at aj
    ·rename_i al;simp only [Option.some.injEq,Prod.mk.injEq]at aj;obtain⟨rfl,rfl⟩:=aj;simp only [Bool.and_eq_true,decide_eq_true_eq]at al;obtain⟨aL,aZ,a7,ba,cC,eK,fJ⟩:=zt (P:=P) (D:=E.D) r b3 ck hid aI t (bN x) al.1 al.2;refine .inl ⟨_,aL,aZ,.inl ?_,ba,cC,eK,fJ,Nat.le_refl _⟩;simp [execOp,e,Instr.box,a7]
    ·cases aj
   ·cases aj
 ·
   rename_i t parts e;simp only [Option.map_eq_some_iff,Prod.mk.injEq]at aj;obtain⟨v1,aa,rfl,rfl⟩:=aj;exact dA.fE r b3 (Ez bA.fp bN aa w) (by simp [execOp,e])
 ·
   rename_i t n parts e;exact dA.oe (EI bA.fp r b3 ck hid aI bN aj) (by simp [execOp,e])
 ·
   rename_i t x e;split at aj
   ·rename_i a aD;simp only [Option.map_eq_some_iff,Prod.mk.injEq]at aj;obtain⟨v1,aa,rfl,rfl⟩:=aj;exact dA.fE r b3 (zq bA.fp r (by have:=bN x;rw [aD]at this;exact this) aa) (by simp [execOp,e])
   ·cases aj
 ·
   rename_i t x y e;split at aj
   ·rename_i a aD;simp only [Option.map_eq_some_iff,Prod.mk.injEq]at aj;obtain⟨aa,qu,rfl,rfl⟩:=aj;obtain⟨aL,a7,ba,cC,eK⟩:=Ev bA.fp r b3 (by have:=bN x;rw [aD]at this;exact this) (bN y) qu;refine .inl ⟨undef,aL,φ,.inr ⟨?_,rfl⟩,e6.refl _ _ _,ar.ek φ,ba,cC,J⟩;simp [execOp,e,a7]
   ·cases aj
 ·
   rename_i x e;split at aj
   ·rename_i a aD;simp only [Option.some.injEq,Prod.mk.injEq]at aj;obtain⟨rfl,rfl⟩:=aj;have aa:=bN x;rw [aD]at aa;have ae:=aa;simp only [ar]at ae;obtain⟨dG,ae,aS⟩:=ae;exact dA.fE (s:=pure (cq x)) r b3 ⟨_,rfl,aa⟩ (by simp [execOp,e,ae])
   ·rename_i g fs cs aD;simp only [Option.some.injEq,Prod.mk.injEq]at aj;obtain⟨rfl,rfl⟩:=aj;have aa:=bN x;rw [aD]at aa;have ae:=aa;simp only [ar]at ae;obtain⟨ew,dm,ae,aS,bj⟩:=ae;exact dA.fE (s:=pure (cq x)) r b3 ⟨_,rfl,aa⟩ (by simp [execOp,e,ae])
   ·cases aj
 ·
   rename_i op t x y ty e;simp only [Option.map_eq_some_iff,Prod.mk.injEq]at aj;obtain⟨v1,aa,rfl,rfl⟩:=aj;obtain⟨aK,a7,ba,cC⟩:=D9 bA.fp bA.eqs (bN x) (bN y) aa w;exact dA.fE (s:=binOp op t (cq x) (cq y)) r b3 ⟨aK,ba,cC⟩ (by simp [execOp,e,a7])
 ·
   rename_i op t x e;simp only [Option.map_eq_some_iff,Prod.mk.injEq]at aj;obtain⟨v1,aa,rfl,rfl⟩:=aj;exact dA.fE r b3 (D' (bN x) aa w) (by simp [execOp,e])
 ·
   rename_i s d x e;simp only [Option.map_eq_some_iff,Prod.mk.injEq]at aj;obtain⟨v1,aa,rfl,rfl⟩:=aj;exact dA.fE r b3 (Ea bA.fp (bN x) aa w) (by simp [execOp,e])
 ·
   rename_i g fs cs e;simp only [Option.some.injEq,Prod.mk.injEq]at aj;obtain⟨rfl,rfl⟩:=aj;refine dA.fE (s:=pure (.func (.func g) (fs.map cq) (cs.map cq))) r b3 ⟨_,rfl,?_⟩ (by simp [execOp,e,Instr.makeFunc]);simp only [ar];exact⟨_,_,rfl,qZ bN fs,qZ bN cs⟩
 ·
   rename_i t x e;split at aj
   ·rename_i d az;obtain⟨gm,u,fC,hu,ap, -⟩:=bA.fp.get az;split at aj
    ·cases aj
    ·rename_i wq;simp only [Option.some.injEq,Prod.mk.injEq]at aj;obtain⟨rfl,rfl⟩:=aj;refine dA.fE (s:=Instr.makeInterface t (cq x)) r b3 ⟨.iface t (cq x),?_,by simp only [ar];exact⟨_,rfl,bN x⟩⟩ (by simp [execOp,e]);rw [ap]at wq;simp only [Instr.makeInterface,Sem.run_bind,run_underlying hu,Result.andThen_ok];cases u<;>first|rfl|exact absurd rfl (wq _)
   ·cases aj
 ·
   rename_i t l c e;exact dA.oe (EL bA.fp r b3 ck hid aI (bN l) (bN c) aj) (by simp [execOp,e])
 ·
   rename_i t x aE ag mx e;simp only [Option.map_eq_some_iff,Prod.mk.injEq]at aj;obtain⟨v1,aa,rfl,rfl⟩:=aj;exact dA.fE r b3 (Ep bA.fp (bN x) (iW.of_map bN aE) (iW.of_map bN ag) (iW.of_map bN mx) aa w) (by simp [execOp,e])
 ·
   rename_i t x f e;simp only [Option.map_eq_some_iff,Prod.mk.injEq]at aj;obtain⟨v1,aa,rfl,rfl⟩:=aj;exact dA.fE r b3 (Ek bA.fp (bN x) aa w) (by simp [execOp,e])
 ·
   rename_i t x f e;simp only [Option.map_eq_some_iff,Prod.mk.injEq]at aj;obtain⟨v1,aa,rfl,rfl⟩:=aj;exact dA.fE r b3 (Eg bA.fp (bN x) aa w) (by simp [execOp,e])
 ·
   rename_i t x i e;simp only [Option.map_eq_some_iff,Prod.mk.injEq]at aj;obtain⟨v1,aa,rfl,rfl⟩:=aj;exact dA.fE r b3 (En bA.fp (bN x) (bN i) aa w) (by simp [execOp,e])
 ·
   rename_i t x i e;simp only [Option.map_eq_some_iff,Prod.mk.injEq]at aj;obtain⟨v1,aa,rfl,rfl⟩:=aj;exact dA.fE r b3 (Eh bA.fp (bN x) (bN i) aa w) (by simp [execOp,e])
 ·
   rename_i x i e;split at aj
   ·rename_i vs bg;simp only [Option.map_eq_some_iff,Prod.mk.injEq]at aj;obtain⟨v1,aa,rfl,rfl⟩:=aj;exact dA.fE r b3 (Ej (by have:=bN x;rw [bg]at this;exact this) aa w) (by simp [execOp,e])
   ·cases aj
 ·
   rename_i c e;split at aj
   ·rename_i f aM;unfold kD at aj;split at aj
    ·rename_i g first captured wu
     have aa:=bN f;rw [wu]at aa;simp only [ar]at aa;obtain⟨ew,dm,aa,Ff,Fg⟩:=aa
     have fk:aT φ (first++c.args.toList.map ρ++captured) (ew++c.args.map cq++dm).toList:=by simp only [Array.toList_append];exact(Ff.append (qZ bN c.args)).append Fg
     obtain⟨⟨fn,body,nP,sZ⟩,fK⟩:=eb _ _ _ _ _ aj φ w _ r b3 fk;refine .inr ⟨g,ew++c.args.map cq++dm,w,?_,fK.mono ?_⟩
     ·have mS:¬fn.name= "runtime.NumGoroutine" :=by simpa using bA.names g fn nP
      simp [execOp,e,resolve,aM,aa,Deferred.ofValue,invoke,callFunc,nP,mS,sZ]
     ·rintro cn jz ⟨aK,aZ,a7,ba,eK,fJ,jx,wv⟩;exact⟨aK,aZ,a7,⟨ba.le,fun i ag _ jb=>ba.new i ag jb,ba.ro⟩,eK,fJ,jx,wv⟩
    ·cases aj
   ·rename_i b aM;have he:∃q1,(execOp cq o).run P w=(builtin b c.argTypes o.type q1 (c.args.map cq)).run P w:=⟨_,by simp [execOp,e,resolve,aM,invoke];rfl⟩
    obtain⟨q1,he⟩:=he;rw [he];exact Fa bA r b3 ck hid aI o.type q1 (qZ bN c.args) aj
   ·cases aj
 ·cases aj
theorem zZ:∀(gn:List Int)(r:ByteArray),(gn.foldl (fun r n=>r.push (UInt8.ofNat n.toNat)) r).data.toList=r.data.toList++gn.map (fun n=>UInt8.ofNat n.toNat)
 |[],r=> a1
 |n::l,r=>by simp only [List.foldl_cons,List.map_cons];rw [zZ l];simp [ByteArray.push]
theorem q2(w:World)(a:Addr)(k:Nat):(w.freeze a 1).heap[k]? =if a.block=k then(w.heap[k]?).map fun o=>match o with
 |.cells c elem (aE,ag)=> .cells c elem (if aE == ag then(a.off,a.off+1)else(min aE a.off,max ag (a.off+1)))
 |o=>o else w.heap[k]? :=by
 unfold World.freeze;rw [if_neg cg];simp only [Array.getElem?_modify];rfl
theorem z1(w:World)(a x:Addr):(w.freeze a 1).cell? x=w.cell? x:=by
 unfold World.cell?;rw [q2];by_cases h:a.block=x.block
 ·rw [if_pos h];cases bx:w.heap[x.block]? with
  |none=>rfl
  |some o =>
   cases o;case cells c t f=>obtain⟨aE,ag⟩:=f;rfl
   all_goals rfl
 ·rw [if_neg h]
theorem hZ.freeze{w:World}{a:Addr}{n:Nat}(aI:∃t aE ag,dx w a.block=some (t,n,aE,ag)∧(aE=ag∨n≤aE))(aD:a.off=n){k:Nat}(h:hZ w k):hZ (w.freeze a 1) k:=by
 by_cases e:a.block=k
 ·subst e;obtain⟨q3,aE,ag,aa,ae⟩:=aI;unfold hZ dx;rw [q2,if_pos rfl];unfold dx at aa;cases bx:w.heap[a.block]? with
  |none=>rw [bx]at aa;cases aa
  |some o =>
   rw [bx]at aa;cases o
   case cells c t f =>
    obtain⟨fD,eI⟩:=f;simp only [Option.some.injEq,Prod.mk.injEq]at aa;obtain⟨rfl,rfl,rfl,rfl⟩:=aa;simp only [Option.map_some];by_cases ay:fD=eI
    ·refine⟨t,c.size,a.off,a.off+1,by simp [ay],.inr J⟩
    ·refine⟨t,c.size,min fD a.off,max eI (a.off+1),by simp [ay],.inr ?_⟩;rcases ae with ae|ae
     ·exact absurd ae ay
     ·omega
   all_goals cases aa
 ·exact h.of_eq (n0 (by rw [q2,if_neg e]))
theorem hZ.free{w:World}{b o:Nat}(h:hZ w b)(al:(w.cell? ⟨b,o,none⟩).isSome=true):w.frozen? ⟨b,o,none⟩=false:=by
 obtain⟨q3,n,aE,ag,aa,ae⟩:=h;unfold dx at aa;unfold World.cell? at al;unfold World.frozen?;simp only at al⊢;cases bx:w.heap[b]? with
 |none=>simp [bx]at aa
 |some wc =>
  rw [bx]at aa al;cases wc
  case cells c t f =>
   obtain⟨fD,eI⟩:=f;simp only [Option.some.injEq,Prod.mk.injEq]at aa;obtain⟨rfl,rfl,rfl,rfl⟩:=aa;simp only [Option.isSome_none,Bool.false_eq_true,if_false]at al
   have aj:o<c.size:=by
    rcases Nat.lt_or_ge o c.size with h|h
    ·exact h
    ·rw [Array.getElem?_eq_none h]at al;cases al
   simp;omega
  all_goals cases aa
theorem Fh{w:World}{a:Addr}{k:Nat}{t:TypeId}{n aE ag:Nat}(h:dx w k=some (t,n,aE,ag)):∃aE ag,dx (w.freeze a 1) k=some (t,n,aE,ag):=by
 unfold dx at h⊢;rw [q2];by_cases e:a.block=k
 ·rw [if_pos e];cases bx:w.heap[k]? with
  |none=>rw [bx]at h;cases h
  |some o =>
   rw [bx]at h;cases o
   case cells c dw f =>
    obtain⟨fD,eI⟩:=f;simp only [Option.some.injEq,Prod.mk.injEq]at h;obtain⟨rfl,rfl,rfl,rfl⟩:=h;simp only [Option.map_some];by_cases ay:fD=eI
    ·exact⟨a.off,a.off+1,by simp [ay]⟩
    ·exact⟨min fD a.off,max eI (a.off+1),by simp [ay]⟩
   all_goals cases h
 ·rw [if_neg e];exact⟨aE,ag,h⟩
theorem bP.freeze{aF:Nat→Prop}{h:I}{w:World}(r:bP φ aF h w){a:Addr}{n:Nat}(aI:∃t aE ag,dx w a.block=some (t,n,aE,ag)∧(aE=ag∨n≤aE))(aD:a.off=n):bP φ aF h (w.freeze a 1) where
 b6 i v p ab:=by
  obtain⟨aa,b,ae,aS,bj,cb,cS,dO,bC⟩:=r.b6 i v p ab;have hm:b.ro=false→hZ (w.freeze a 1) p.br:=fun aR=>(bC.mark aR).freeze aI aD
  have fK:∀o,o<p.tot*p.es→((w.freeze a 1).cell? ⟨p.br,p.off+o,none⟩).isSome=true:=fun o aj=>by rw [z1];exact bC.cells o aj
  refine⟨aa,b,ae,aS,bj,cb,cS,dO,⟨?_,bC.base,fK,fun aR o aj=>(hm aR).free (fK o aj),hm,fun t9 dz=>(by obtain⟨v7,EY,i9,v8,qW,v'⟩:=bC.gD t9 dz;obtain⟨wa,i8,qX⟩:=Fh (a:=a) v8;exact⟨v7,wa,i8,qX,qW,v'⟩),fun i e g1 g2 g3=> ?_⟩⟩
  ·have:=bC.br;unfold World.freeze;rw [if_neg cg];simpa using this
  ·obtain⟨bY,bU,ez⟩:=bC.cont i e g1 g2 g3
   exact⟨bY,bU,fun j a8 ac=>by
    obtain⟨x,ob,oc⟩:=ez j a8 ac
    exact⟨x,by rw [z1];exact ob,oc⟩⟩
 apart:=r.apart
 same:=r.same
theorem Safe.freeze{S:Nat→Prop}{a w:World}(h:Safe S a w){p:Addr}(ab:¬S p.block):Safe S a (w.freeze p 1) :=
 h.trans ⟨by unfold World.freeze;rw [if_neg cg],by unfold World.freeze;rw [if_neg cg],by unfold World.freeze;rw [if_neg cg],by unfold World.freeze;rw [if_neg cg];simp,fun k ap=>by
  have bJ:¬p.block=k:=fun e=>ab (by rw [e];exact ap)
  rw [q2,if_neg bJ]⟩
theorem Fi(w:World)(s e:TypeId)(x:Addr)(n c:Nat)(hs:P.underlying s=some (.slice e))(he:P.underlying e=some (.int .u8)){q3:TypeId}{m aE ag:Nat}(hm:dx w x.block=some (q3,m,aE,ag)) :
 (convert s s (.slice (some x) n c)).run P w=.ok (.slice (some x) n c) (w.freeze ⟨x.block,m,none⟩ 1):=by
 unfold dx at hm;cases bx:w.heap[x.block]? with
 |none=>rw [bx]at hm;cases hm
 |some o =>
  rw [bx]at hm;cases o
  case cells lV t f =>
   obtain⟨fD,eI⟩:=f;simp only [Option.some.injEq,Prod.mk.injEq]at hm;obtain⟨rfl,rfl,rfl,rfl⟩:=hm;have hF:w.shape? x.block=some (t,lV.size):=by unfold World.shape?;rw [bx]
   simp [convert,run_underlying hs,run_underlying he,markStringish,hF]
  all_goals cases hm
theorem Fj{D:ci}(bt:D.dM P){aF:Nat→Prop}{h af:I}{aN w:World}(r:bP φ aF h w)(b3:Safe aF aN w)(ck:dq aF aN.heap.size){nid:Nat}(hid:∀v,φ nid v=none)(aI:nid<h.U)
 {s d:TypeId} {x v:R} {a8:Value} (ac:ar φ x a8) (aj:nW D s d x nid h=some (v,af)):lR P φ aF aN h nid v af (convert s d a8) w:=by
 unfold nW at aj;split at aj
 ·rename_i jV eT bs ww q4;obtain⟨eY,Fk,Fl,pr,s0, -, -⟩:=bt.get ww;obtain⟨we,wg,wh,mQ,mR, -, -⟩:=bt.get q4;split at aj
  ·rename_i e ey he;rw [s0]at ey;rw [mR]at he;have:=mH ey;subst this;have:=iw he;subst this;split at aj
   ·rename_i fU lK;obtain⟨sE,mK,kM,lL,iy, -, -⟩:=bt.get lK;split at aj
    ·rename_i ap;rw [iy]at ap;have:=qH ap;subst this;simp only [Option.some.injEq,Prod.mk.injEq]at aj;obtain⟨rfl,rfl⟩:=aj;simp only [ar]at ac;obtain⟨t,rfl,rfl⟩:=ac;have hD:=Go.run_bytes_of_string (P:=P) w s d e t pr mQ lL;have fI:t.size≤grownCap w t.size 0 e:=grownCap_ge w t.size 0 e;have dC:(bytesRow t (grownCap w t.size 0 e)).size=grownCap w t.size 0 e:=by simp [bytesRow];omega
     have hlen:(t.data.toList.map fun b=>R.int .u8 b.toNat).length=t.size:=by rw [List.length_map,Array.length_toList];rfl
     have q5:t.data.toList.length=t.size:=by rw [Array.length_toList];rfl
     have fZ:dq aF w.heap.size:=ck.le b3.size;refine⟨_,_,φ.add nid 0 ⟨w.heap.size,0,0,1,grownCap w t.size 0 e,false,false⟩,hD,e6.add φ _ (hid 0) _,?_,?_,b3.drew.alloc (by simpa using fZ) _,rfl⟩
     ·rw [q5];exact ar.gL (ex:=false) (Nat.le_refl _) fI (Nat.le_refl _) a1
     ·have Fm:flat (t.data.toList.map fun b=>R.int .u8 b.toNat)=t.data.toList.map fun b=>R.int .u8 b.toNat:=by
       generalize t.data.toList=l;induction l with
       |nil=>rfl
       |cons a r ih=>simp only [List.map_cons,flat,List.flatMap_cons,R.cells]at ih⊢; rw [ih];rfl
      have z6:(bytesRow t (grownCap w t.size 0 e)).toList.take ((t.data.toList.map fun b=>R.int .u8 b.toNat).length*1)=t.data.toList.map fun b=>Value.int .u8 b.toNat:=by rw [hlen,Nat.mul_one];simp [bytesRow,List.take_append,q5]
      refine(r.alike (Alike.qU w)).DS hid aI (by simpa using fZ) (Nat.one_pos) ?_ ?_ (by rw [dC];simp) (by rw [hlen];exact fI) ?_ ?_ nofun
      ·intro e he;obtain⟨b,_,rfl⟩:=List.mem_map.1 he;rfl
      ·rw [z6,Fm];exact aT.map _ _ _ fun b _=>by simp only [ar]
      ·rw [z6];intro u hu;obtain⟨_,_,rfl⟩:=List.mem_map.1 hu;rfl
      ·exact .inr (Nat.le_refl _)
    ·cases aj
   ·cases aj
  ·cases aj
 ·rename_i jV eT a n c ww q4;obtain⟨eY,Fk,Fl,pr,s0, -, -⟩:=bt.get ww;obtain⟨we,wg,wh,mQ,mR, -, -⟩:=bt.get q4;split at aj
  ·rename_i e cn q6 q7;rw [s0]at q6;rw [mR]at q7;have:=iw q6;subst this;have:=iw q7;subst this;split at aj
   ·rename_i fU nX lK;obtain⟨sE,mK,kM,lL,iy, -, -⟩:=bt.get lK;split at aj
    ·rename_i b ap an;rw [iy]at ap;have:=qH ap;subst this;split at aj
     ·rename_i al;obtain⟨rfl,cT,aM,lN⟩:=al;simp only [Option.some.injEq,Prod.mk.injEq]at aj;obtain⟨rfl,rfl⟩:=aj;have qT:=ac;simp only [ar]at ac;obtain⟨dG,b0,rfl,dv,eE,fY⟩:=ac;obtain⟨p,ab,gM,h3,hex⟩:=fY.plain aM;obtain⟨g1,gl,g2,g3,g4,g5,g6,g7,g8⟩:=r.b6 _ _ _ ab;rw [an]at g2;simp at g2;subst g2;have pt:b.ro=false:=cT;rcases h3 with a6|⟨cU,rfl,kI⟩
      ·omega
      ·obtain⟨q3,m,aE,ag,m1,m2⟩:=g8.mark pt;exact⟨_,_,φ,Fi w s e (p.at nX.idx 0) n b0 pr lL m1,e6.refl _ _ _,qT,r.freeze (a:=⟨p.br,m,none⟩) ⟨q3,aE,ag,m1,m2⟩ rfl,b3.freeze (g8.base (g6 pt)),rfl⟩
     ·cases aj
    ·cases aj
   ·cases aj
  ·rename_i e q6 q7;rw [s0]at q6;rw [mR]at q7;have:=iw q6;subst this;have:=mH q7;subst this;split at aj
   ·rename_i fU lK;obtain⟨sE,mK,kM,lL,iy, -, -⟩:=bt.get lK;split at aj
    ·rename_i ap;rw [iy]at ap;have:=qH ap;subst this;split at aj
     ·rename_i l ay;cases an:bytesOf l with
      |none=>rw [an]at aj;cases aj
      |some q =>
       rw [an]at aj;simp only [Option.map_some,Option.some.injEq,Prod.mk.injEq]at aj;obtain⟨rfl,rfl⟩:=aj;obtain⟨news,src,j4,eh⟩:=sR (P:=P) (tx:=s) r ac ay (Nat.one_pos) (.inl ⟨e,pr⟩);obtain⟨gn,bk,bV⟩:=zK an j4;refine lR.pure r b3 ?_;cases a with
       |none =>
        simp only [ar]at ac;obtain⟨rfl,_,_⟩:=ac;have a6:=src.cells;refine⟨.string .empty,?_,?_⟩
        ·rw [run_convert_bytes_string w s d e none 0 0 pr lL mQ];rfl
        ·simp only [ar];refine⟨_,rfl,?_⟩
         have mG:l=[]:=by have:=src.len w;simp [Builtin.lenOf]at this;exact List.length_eq_zero_iff.1 this.symm
         subst mG;simp [bytesOf]at an;subst an;rfl
       |some a =>
        simp only [ar]at ac;obtain⟨dG,b0,rfl,dv,eE,fY⟩:=ac
        have kR:l.length=n:=by have:=src.len w;simp [Builtin.lenOf]at this;exact this.symm
        have a6:=src.cells;rw [kR]at a6
        have lW:(loadCells dG n).run P w=.ok (gn.map (Value.int .u8)).toArray w:=by rw [bk]at a6;simpa [Builtin.firstCells]using a6
        refine⟨_,by rw [run_convert_bytes_string w s d e (some dG) n b0 pr lL mQ];exact run_bytesToString w dG n b0 gn lW,?_⟩;simp only [ar];refine⟨_,rfl,?_⟩;rw [zZ,bV];rfl
     ·cases aj
    ·cases aj
   ·cases aj
  ·cases aj
 ·cases aj
theorem Fo{k:Nat}{args:List R}{cx:Array Value}(aD:aT φ args cx.toList){v:R}(h:ve k args=some v){s3:Array Value→Sem Value}(he:qY k=some s3)(w:World) :
 ∃aK,(s3 cx).run P w=.ok aK w∧ar φ v aK:=by
 unfold ve at h;split at h
 ·rename_i s c;obtain⟨l⟩:=cx;simp only [aT]at aD;obtain⟨a,t,rfl,oi,b,u,rfl,j2,rfl⟩:=aD;simp only [ar]at oi j2;obtain⟨dw,rfl,rfl⟩:=oi;subst j2;split at h
  ·simp only [Option.some.injEq]at h;subst h;simp only [qY,Option.some.injEq]at he;subst he;exact⟨_,Go.Lib.run_countString dw c w,by simp only [ar]⟩
  ·simp only [Option.some.injEq]at h;subst h;simp only [qY,Option.some.injEq]at he;subst he;exact⟨_,Go.Lib.run_indexByteString dw c w,by simp only [ar]⟩
  ·cases h
 ·rename_i s s2;obtain⟨l⟩:=cx;simp only [aT]at aD;obtain⟨a,t,rfl,oi,b,u,rfl,j2,rfl⟩:=aD;simp only [ar]at oi j2;obtain⟨dw,rfl,rfl⟩:=oi;obtain⟨pi,rfl,rfl⟩:=j2;split at h
  ·rename_i ap;subst ap;simp only [Option.some.injEq]at h;subst h;simp only [qY,Option.some.injEq]at he;subst he;exact⟨_,Go.Lib.run_compareString dw pi w,by simp only [ar]⟩
  ·cases h
 ·cases h
theorem Fp(bA:e7 P E){aF:Nat→Prop}{h af:I}{aN w:World}{call:cu}(eb:j7 P aF aN call)(r:bP φ aF h w)(b3:Safe aF aN w)(ck:dq aF aN.heap.size){nid:Nat}(hid:∀v,φ nid v=none)
 (aI:nid<h.U) {ρ:Operand→R} {cq:Operand→Value} (bN:∀x,ar φ (ρ x) (cq x)) {o:Oper} {v:R} (aj:gz E call nid ρ h o.op=some (v,af)) :
 dA P φ aF aN h nid v af ((execOp cq o).run P w):=by
 unfold gz at aj;split at aj
 ·rename_i gh a6;simp only [Option.some.injEq]at aj;subst aj;exact Fe bA eb r b3 ck hid aI bN a6
 ·unfold dN at aj;split at aj
  ·rename_i s d x e;exact dA.oe (Fj bA.fp r b3 ck hid aI (bN x) aj) (by simp [execOp,e])
  ·rename_i c e;split at aj
   ·rename_i f aM;split at aj
    ·rename_i g wu;split at aj
     ·rename_i k ap;simp only [Option.map_eq_some_iff,Prod.mk.injEq]at aj;obtain⟨v1,aa,rfl,rfl⟩:=aj;obtain⟨fn,s3,lS,sQ,s4,Fq,Fs⟩:=bA.zS g k ap;have bg:=bN f;rw [wu]at bg;simp only [ar,aT]at bg;obtain⟨ew,dm,sN,sO,z7⟩:=bg;have s5:ew= #[]:=by cases ew;simp at sO;subst sO;rfl
      have Ft:dm= #[]:=by cases dm;simp at z7;subst z7;rfl
      subst s5;subst Ft;have fk:=qZ bN c.args;have j8:=Fo (P:=P) fk aa Fs w;refine dA.fE (s:=s3 (c.args.map cq)) r b3 j8 ?_;have hD:=run_callFunc_extern lS (bA.names g fn lS) sQ s4 Fq (c.args.map cq) w;rw [←hD];simp [execOp,e,resolve,aM,sN,Deferred.ofValue,invoke]
     ·cases aj
    ·cases aj
   ·cases aj
  ·cases aj
theorem Fu(bA:e7 P E){aF:Nat→Prop}{h af:I}{aN w:World}{call:cu}(eb:j7 P aF aN call)(r:bP φ aF h w)(b3:Safe aF aN w)(ck:dq aF aN.heap.size){nid:Nat}(hid:∀v,φ nid v=none)
 (aI:nid<h.U) {ρ:Operand→R} {a:Act} (bN:∀x,ar φ (ρ x) (a.eval x)) {o:Oper} {v:R} (aj:gz E call nid ρ h o.op=some (v,af)) {U:Act→World→Prop} {Q:Exit→Act→World→Prop}
 (ap:∀aK aL aZ,e6 φ aZ h.U nid→ar aZ v aK→bP aZ aF af aL→Safe aF aN aL→h.U≤af.U→U (a.put o.dst aK) aL):o.wp P a w U Q:=by
 unfold Oper.wp;rcases Fp bA eb r b3 ck hid aI bN aj with ⟨aK,aL,aZ,aR,ba,cC,eK,fJ,jx⟩|⟨f,args,aL,aR,al⟩
 ·rcases aR with aR|⟨aR,rfl⟩
  ·rw [aR];exact ap _ _ _ ba cC eK fJ jx
  ·rw [aR];exact ap _ _ _ ba cC eK fJ jx
 ·rw [aR]
  exact al.mono fun e jz ⟨aK,aZ,a7,ba,cC,eK,fJ,jx⟩=>by subst a7;exact ap _ _ _ ba cC eK fJ jx
end
end
end Go.bh
namespace Go.bh
noncomputable section
open Go.RowKit
structure eL(φ:Map)(aF:Nat→Prop)(aN:World)(s:dl)(a:Act)(w:World):Prop where
 c':aT φ s.c' a.tmps.toList
 heap:bP φ aF s.heap w
 below:Safe aF aN w
 defers:a.defers=[]
section
variable {P:Program}{φ:Map}{E:bq}
theorem aT.wx{l:List R}{t:Array Value}(h:aT φ l t.toList)(i:Nat):ar φ (l.getD i .undef) (t.getD i undef):=by
 have ae:t.getD i undef=t.toList.getD i undef:=by simp [Array.getD_eq_getD_getElem?,List.getD_eq_getElem?_getD]
 rw [ae];exact h.getD i
theorem eL.eval{aF:Nat→Prop}{aN w:World}{s:dl}{a:Act}(r:eL φ aF aN s a w)(x:Operand):ar φ (bX s.c' x) (a.eval x):=by
 cases x with
 |tmp t=>exact r.c'.wx t
 |const v=>exact y3 φ v
 |global g=>simp [bX,ar]
 |func f=>simp only [bX,ar];exact⟨#[],#[],rfl,by simp [aT],by simp [aT]⟩
theorem z8{s:List R}{a:Act}(h:aT φ s a.tmps.toList)(dst:Option Tmp){v:R}{aK:Value}(bg:ar φ v aK):aT φ (fl s dst v) (a.put dst aK).tmps.toList:=by
 cases dst with
 |none=>exact h
 |some d =>
  simp only [fl,Act.put,Array.toList_setIfInBounds];exact h.set d bg
theorem put_defers(a:Act)(dst:Option Tmp)(v:Value):(a.put dst v).defers=a.defers:=by cases dst<;>rfl
theorem z'{s:List R}{a:Act}(h:aT φ s a.tmps.toList){ops:Array Oper}{o:Oper}{b:Bool}(hw:gA ops s o=some b):Region.wanted o (yielded ops a.tmps)=b:=by
 unfold gA at hw;unfold Region.wanted;split at hw
 ·rename_i e;simp at hw;subst hw;simp [e]
 ·rename_i j want e;rw [e];simp only;split at hw
  ·rename_i d az;unfold yielded;rw [az];simp only [Option.bind_some];split at hw
   ·rename_i c al;simp at hw;subst hw;obtain⟨v,bg,lH⟩:=h.get al;simp only [ar]at lH;subst lH;have wy:a.tmps[d]? =some (.bool c):=by simpa using bg
    rw [wy];cases c<;>cases want<;>rfl
   ·rename_i al;simp at hw;subst hw;obtain⟨v,bg,lH⟩:=h.get al;simp only [ar]at lH;obtain⟨xs,rfl,_⟩:=lH;have wy:a.tmps[d]? =some (.tuple xs):=by simpa using bg
    rw [wy];cases want<;>rfl
   ·cases hw
  ·cases hw
theorem Aa(bA:e7 P E){aF:Nat→Prop}{aN w:World}(ck:dq aF aN.heap.size){call:cu}(eb:j7 P aF aN call){ops:Array Oper}{au i:Nat}{s aX:dl}{a:Act}(r:eL φ aF aN s a w)
 (hid:au+i<s.heap.U∧∀v,φ (au+i) v=none) (h:mA E call ops au i s=some aX) {K:Act→World→Prop} {Q:Exit→Act→World→Prop}
 (ap:∀bD aL aZ,e6 φ aZ s.heap.U (au+i)→eL aZ aF aN aX bD aL→s.heap.U≤aX.heap.U→K bD aL):wpOp P ops Q i K a w:=by
 unfold mA at h;unfold wpOp;split at h
 ·rename_i aj;simp at h;subst h;rw [aj];exact ap a w φ (e6.refl _ _ _) r (Nat.le_refl _)
 ·rename_i o aj;rw [aj];split at h
  ·rename_i hw;have wz:=z' r.c' hw;split at h
   ·rename_i v ab hB;simp at h;subst h;simp only [wz,if_true];left;refine Fu bA eb r.heap r.below ck hid.2 hid.1 r.eval hB fun aK aL aZ aa ae aS bj cb=> ?_
    refine ap _ aL aZ aa ⟨?_,aS,bj,by rw [put_defers];exact r.defers⟩ cb;exact z8 (r.c'.mono aa.le) _ ae
   ·cases h
  ·rename_i hw;have wz:=z' r.c' hw;simp at h;subst h;simp only [wz,Bool.false_eq_true,if_false];exact ap _ w φ (e6.refl _ _ _) ⟨z8 r.c' _ (ar.ek φ),r.heap,r.below,by rw [put_defers];exact r.defers⟩ (Nat.le_refl _)
  ·cases h
theorem Ab(bA:e7 P E){aF:Nat→Prop}{aN:World}(ck:dq aF aN.heap.size){call:cu}(eb:j7 P aF aN call){ops:Array Oper}{au:Nat}{Q:Exit→Act→World→Prop} :
 ∀{l:List Nat}{s aX:dl}{a:Act}{w:World}{φ:Map},kE E call ops au l s=some aX→eL φ aF aN s a w→l.Nodup→(∀j∈l,au+j<s.heap.U∧∀v,φ (au+j) v=none) →
  (∀bD aL aZ,dr φ aZ au→eL aZ aF aN aX bD aL→s.heap.U≤aX.heap.U→Q .normal bD aL)→wpOps P ops Q l a w
 |[],s,aX,a,w,φ,h,r,_,_,ap=>by simp [kE]at h;subst h;simp only [wpOps];exact ap a w φ (dr.refl _ _) r (Nat.le_refl _)
 |i ::rest,s,aX,a,w,φ,h,r,ie,hid,ap=>by
  simp only [kE]at h;split at h
  ·rename_i s1 aa;rw [wpOps_cons];have Ac:=List.nodup_cons.1 ie;refine Aa bA ck eb r (hid i a1) aa fun bD aL aZ ac dE hle=> ?_
   refine Ab bA ck eb h dE Ac.2 (fun j aW=> ?_) fun oj jz ol wA wB Fv=> ?_
   ·have lX : au + j ≠ au + i := by intro e;have:j=i:= J
                                    subst this;exact Ac.1 aW
    obtain⟨g1,g2⟩:=hid j (by simp [aW]);exact⟨J,ac.new _ g1 lX g2⟩
   ·refine ap _ _ _ (dr.trans ⟨ac.le,fun k n8 jb=>ac.new k ?_ J jb,ac.ro⟩ wA) wB J;have:=(hid i a1).1;omega
  ·cases h
end
end
end Go.bh
namespace Go.bh
noncomputable section
open Go.RowKit
mutual
theorem R.s6:∀{a b:R},R.same a b=true→a=b:=by
 intro a b h
 cases a<;>cases b<;>simp only [R.same,Bool.false_eq_true,Bool.and_eq_true,beq_iff_eq,decide_eq_true_eq]at h <;>
  first
   |rfl
   |(subst h;rfl)
   |(obtain⟨rfl,rfl⟩:=h;rfl)
   |(obtain⟨⟨rfl,rfl⟩,rfl⟩:=h;rfl)
   |(obtain⟨⟨rfl,aa⟩,ae⟩:=h;rw [R.om aa,R.om ae])
   |(obtain⟨rfl,aa⟩:=h;rw [R.s6 aa])
   |(rw [R.om h])
theorem R.om:∀{a b:List R},R.jr a b=true→a=b:=by
 intro a b h;cases a<;>cases b<;>simp only [R.jr,Bool.false_eq_true,Bool.and_eq_true]at h
 ·rfl
 ·obtain⟨aa,ae⟩:=h;rw [R.s6 aa,R.om ae]
end
theorem ai.s6{a b:ai}(h:ai.same a b=true):a=b:=by cases a;cases b;simp only [ai.same,Bool.and_eq_true,beq_iff_eq]at h;obtain⟨⟨⟨⟨⟨⟨⟨aa,ae⟩,aS⟩,bj⟩,cb⟩,cS⟩,dO⟩,bC⟩:=h;rw [R.om aa,ae,aS,bj,cb,cS,dO,bC]
mutual
theorem R.q8:∀(a:R),R.same a a=true
 |.undef=>rfl
 |.bool _=>by simp [R.same]
 |.int _ _=>by simp [R.same]
 |.str _=>by simp [R.same]
 |.ptr _=>by simp [R.same]
 |.slice _ _ _=>by simp [R.same]
 |.func _ f c=>by simp [R.same,R.pu f,R.pu c]
 |.nilFunc=>rfl
 |.iface _ v=>by simp [R.same,R.q8 v]
 |.nilIface=>rfl
 |.agg l=>by simp [R.same,R.pu l]
 |.tuple l=>by simp [R.same,R.pu l]
theorem R.pu:∀(l:List R),R.jr l l=true
 |[]=>rfl
 |a::r=>by simp [R.jr,R.q8 a,R.pu r]
end
theorem ai.q8(a:ai):ai.same a a=true:=by simp [ai.same,R.pu]
theorem Ad{bL:Nat}{h af:I}(k:mB bL h af=true){i:Nat}(ag:i<bL):af.get i=h.get i :=
 ax.u4 (fun _ _=>ai.s6) bL af.aB h.aB 0 1 k i J
theorem Fw{bL:Nat}{h af:I}(k:∀i,i<bL→af.get i=h.get i):mB bL h af=true :=
 ax.sn ai.q8 bL af.aB h.aB 0 1 fun i ag=>k i J
section
variable {E:bq}{call:cu}
theorem j9{nid:Nat}{ρ:Operand→R}{h aa:I}{o:Op}{v:R}(al:cG o=.pure)(aj:bb E call nid ρ h o=some (v,aa)) :
 aa=h∧∀(kU:Nat)(af:I),bb E call kU ρ af o=some (v,af):=by
 cases o<;>simp only [cG,reduceCtorEq]at al<;>simp only [bb]at aj⊢ <;>
  first
   |(simp only [Option.map_eq_some_iff,Prod.mk.injEq,Option.some.injEq]at aj
     obtain⟨v1,bg,rfl,rfl⟩:=aj
     exact⟨rfl,fun _ _=>by rw [bg];rfl⟩)
   |(simp only [Prod.mk.injEq,Option.some.injEq]at aj
     obtain⟨rfl,rfl⟩:=aj
     exact⟨rfl,fun _ _=>rfl⟩)
   |skip
 ·split at aj
  ·rename_i t bz;simp only [Prod.mk.injEq,Option.some.injEq]at aj;obtain⟨rfl,rfl⟩:=aj;exact⟨rfl,fun _ _=>by simp only [bz]⟩
  ·cases aj
 ·split at aj
  ·rename_i a aD;simp only [Prod.mk.injEq,Option.some.injEq]at aj;obtain⟨rfl,rfl⟩:=aj;exact⟨rfl,fun _ _=>by simp only [aD]⟩
  ·rename_i g fs cs aD;simp only [Prod.mk.injEq,Option.some.injEq]at aj;obtain⟨rfl,rfl⟩:=aj;exact⟨rfl,fun _ _=>by simp only [aD]⟩
  ·cases aj
 ·split at aj
  ·rename_i d az;split at aj
   ·cases aj
   ·rename_i wq;simp only [Prod.mk.injEq,Option.some.injEq]at aj;obtain⟨rfl,rfl⟩:=aj;refine⟨rfl,fun _ _=> ?_⟩;simp only [az]
  ·cases aj
 ·rename_i fn fs cs;cases fn<;>simp only [bb]at aj⊢ <;>first|(cases aj;done)|skip
  simp only [Prod.mk.injEq,Option.some.injEq]at aj;obtain⟨rfl,rfl⟩:=aj;exact⟨rfl,fun _ _=>rfl⟩
 ·split at aj
  ·rename_i vs bg;simp only [Option.map_eq_some_iff,Prod.mk.injEq]at aj;obtain⟨v1,aa,rfl,rfl⟩:=aj;exact⟨rfl,fun _ _=>by simp only [bg,aa,Option.map_some]⟩
  ·cases aj
 ·rename_i c;cases gp:c.callee with
  |value f=>rw [gp]at al;simp at al
  |invoke r m=>rw [gp]at al;simp at al
  |builtin b =>
   rw [gp]at al aj;simp only [gp];cases b<;>first|(simp at al;done)|skip
   all_goals
    simp only [e5]at aj⊢;split at aj
    ·simp only [Option.map_eq_some_iff,Prod.mk.injEq]at aj;obtain⟨v1,aa,rfl,rfl⟩:=aj;exact⟨rfl,fun _ _=>by simp only [aa,Option.map_some]⟩
    ·cases aj
theorem oo{nid:Nat}{ρ:Operand→R}{h aa:I}{o:Op}{v:R}(al:cG o=.load)(aj:bb E call nid ρ h o=some (v,aa)) :
 aa=h∧∃b,hx ρ o=some b∧∀(kU:Nat)(af:I),af.get b=h.get b→bb E call kU ρ af o=some (v,af):=by
 cases o<;>simp only [cG,reduceCtorEq]at al
 ·rename_i t x;simp only [bb]at aj⊢;split at aj
  ·rename_i a aD;simp only [Option.map_eq_some_iff,Prod.mk.injEq]at aj;obtain⟨v1,bg,rfl,rfl⟩:=aj;refine⟨rfl,a.id,by simp [hx,aD],fun kU af ah=> ?_⟩;simp only [aD,bp,ah]at bg⊢;rw [bg];rfl
  ·cases aj
 ·rename_i c;cases gp:c.callee with
  |value f=>rw [gp]at al;simp at al
  |invoke r m=>rw [gp]at al;simp at al
  |builtin b=>rw [gp]at al;cases b<;>simp at al
theorem Ae{nid:Nat}{ρ:Operand→R}{h aa:I}{o:Op}{v:R}(al:cG o=.store)(aj:bb E call nid ρ h o=some (v,aa)) :
 ∃s b,jW ρ o=some s∧aa=h.set s b∧True:=by
 cases o<;>simp only [cG,reduceCtorEq]at al
 ·rename_i t x y;simp only [bb]at aj;split at aj
  ·rename_i a aD;simp only [Option.map_eq_some_iff,Prod.mk.injEq]at aj;obtain⟨ae,bg,rfl,rfl⟩:=aj;unfold ii at bg;split at bg
   ·split at bg
    ·split at bg
     ·split at bg
      ·simp only [Option.some.injEq]at bg;exact⟨a.id,_,by simp [jW,aD],bg.symm,trivial⟩
      ·cases bg
     ·cases bg
    ·cases bg
   ·cases bg
  ·cases aj
 ·rename_i c;cases gp:c.callee with
  |value f=>rw [gp]at al;simp at al
  |invoke r m=>rw [gp]at al;simp at al
  |builtin b=>rw [gp]at al;cases b<;>simp at al
theorem pv{nid:Nat}{ρ:Operand→R}{h aa:I}{o:Op}{v:R}(al:cG o=.alloc)(aj:bb E call nid ρ h o=some (v,aa)) :
 ∃b,aa=h.set nid b∧∀(af:I),bb E call nid ρ af o=some (v,af.set nid b):=by
 cases o<;>simp only [cG,reduceCtorEq]at al
 ·rename_i t;simp only [bb]at aj⊢;split at aj
  ·rename_i d az;split at aj
   ·rename_i z ds;split at aj
    ·rename_i b7;simp only [Prod.mk.injEq,Option.some.injEq]at aj;obtain⟨rfl,rfl⟩:=aj;exact⟨_,rfl,fun af=>by simp only [b7,if_true]⟩
    ·cases aj
   ·cases aj
  ·cases aj
 ·rename_i t x;simp only [bb]at aj⊢;split at aj
  ·rename_i d az;split at aj
   ·rename_i b7;simp only [Prod.mk.injEq,Option.some.injEq]at aj;obtain⟨rfl,rfl⟩:=aj;exact⟨_,rfl,fun af=>by simp only [b7,if_true]⟩
   ·cases aj
  ·cases aj
 ·rename_i t n parts;simp only [bb,ij]at aj⊢;split at aj
  ·rename_i d az;split at aj
   ·rename_i e he;split at aj
    ·rename_i x ac;split at aj
     ·rename_i z ds;split at aj
      ·rename_i b7;split at aj
       ·rename_i l ay;simp only [Prod.mk.injEq,Option.some.injEq]at aj;obtain⟨rfl,rfl⟩:=aj;refine⟨_,rfl,fun af=> ?_⟩;simp only [he,ac,ds,b7,ay,and_self,if_true]
       ·cases aj
      ·cases aj
     ·cases aj
    ·cases aj
   ·cases aj
  ·cases aj
 ·rename_i t l c;simp only [bb,qy]at aj⊢;split at aj
  ·rename_i d a7 n ba m az ay hm;split at aj
   ·rename_i e he;split at aj
    ·rename_i x ac;split at aj
     ·rename_i z ds;split at aj
      ·rename_i b7;simp only [Prod.mk.injEq,Option.some.injEq]at aj;obtain⟨rfl,rfl⟩:=aj;refine⟨_,rfl,fun af=> ?_⟩;simp only [he,ac,ds,b7,and_self,if_true]
      ·cases aj
     ·cases aj
    ·cases aj
   ·cases aj
  ·cases aj
 ·rename_i c;cases gp:c.callee with
  |value f=>rw [gp]at al;simp at al
  |invoke r m=>rw [gp]at al;simp at al
  |builtin b=>rw [gp]at al;cases b<;>simp at al
theorem pw{ρ cq:Operand→R}{xs:Array Operand}(h:∀x∈xs.toList,ρ x=cq x):xs.toList.map ρ=xs.toList.map cq:=List.map_congr_left h
theorem wC{ρ cq:Operand→R}{o:Option Operand}(h:∀x∈o.toList,ρ x=cq x):o.map ρ=o.map cq:=by
 cases o with
 |none=>rfl
 |some x=>simp [h x a1]
theorem wD{nid:Nat}{ρ cq:Operand→R}{h:I}{o:Op}(bN:∀x∈o.operands.toList,ρ x=cq x):bb E call nid ρ h o=bb E call nid cq h o:=by
 cases o
 case call c =>
  simp only [Op.operands,Call.operands,Array.toList_append,List.mem_append]at bN;simp only [bb];have aD:=pw (xs:=c.args) (fun x ac=>bN x (.inr ac));cases gp:c.callee with
  |value f =>
   rw [gp]at bN;simp only [aD,bN f (.inl a1)]
  |invoke r m=>rfl
  |builtin b=>simp only [aD]
 case makeFunc fn fs cs =>
  simp only [Op.operands,Array.toList_append,List.mem_append]at bN;cases fn<;>simp only [bb];rw [pw (xs:=fs) (fun x ac=>bN x (.inl ac)),pw (xs:=cs) (fun x ac=>bN x (.inr ac))]
 case slice t x aE ag mx =>
  simp only [Op.operands,Array.toList_append,List.mem_append]at bN;simp only [bb];rw [bN x a1,wC (o:=aE) (fun y bi=>bN y (by simp_all)),wC (o:=ag) (fun y bi=>bN y (by simp_all)),wC (o:=mx) (fun y bi=>bN y (by simp_all))]
 case build t parts =>
  have ab:(parts.toList.map fun p=>(p.1,ρ p.2))=parts.toList.map fun p=>(p.1,cq p.2):=by
   refine List.map_congr_left fun p ab=> ?_
   rw [bN p.2 (by simp only [Op.operands];exact List.mem_map.2 ⟨p,ab,rfl⟩)]
  simp only [bb,ab]
 case buildSlice t n parts =>
  have ab:(parts.toList.map fun p=>(p.1,ρ p.2))=parts.toList.map fun p=>(p.1,cq p.2):=by
   refine List.map_congr_left fun p ab=> ?_
   rw [bN p.2 (by simp only [Op.operands];exact List.mem_map.2 ⟨p,ab,rfl⟩)]
  simp only [bb,ab]
 all_goals first
  |rfl
  |(simp only [bb,Op.operands]at bN⊢; simp_all)
def jc(acc:Array Nat)(o:Oper):Nat:=o.after.toList.foldl (fun s e=>if gi e then s ||| 2^e.on ||| acc.getD e.on 0 else s) 0
theorem wE:∀(l:List Oper)(acc:Array Nat)(k:Nat),k<acc.size→(l.foldl (fun acc o=>acc.push (jc acc o)) acc).getD k 0=acc.getD k 0
 |[],acc,k,h=>rfl
 |o::r,acc,k,h=>by simp only [List.foldl_cons];rw [wE r _ k (by simp;omega)];simp [Array.getD_eq_getD_getElem?,Array.getElem?_push,Nat.ne_of_lt h]
theorem Fx{a b:Array Nat}{o:Oper}(h:∀e∈o.after.toList,gi e=true→a.getD e.on 0=b.getD e.on 0):jc a o=jc b o:=by
 unfold jc
 have key:∀(l:List Edge)(s:Nat),(∀e∈l,gi e=true→a.getD e.on 0=b.getD e.on 0) →
  l.foldl (fun s e=>if gi e then s ||| 2^e.on ||| a.getD e.on 0 else s) s=l.foldl (fun s e=>if gi e then s ||| 2^e.on ||| b.getD e.on 0 else s) s:=by
  intro l;induction l with
  |nil=>intro s _;rfl
  |cons e r ih =>
   intro s ay;simp only [List.foldl_cons]
   have:(if gi e then s ||| 2^e.on ||| a.getD e.on 0 else s)=(if gi e then s ||| 2^e.on ||| b.getD e.on 0 else s):=by
    cases an:gi e
    ·rfl
    ·simp only [if_true];rw [ay e a1 an]
   rw [this,ih _ (fun e he=>ay e (by simp [he]))]
 exact key _ 0 h
theorem fold_at:∀(l:List Oper)(acc:Array Nat)(m:Nat)(o:Oper),l[m]? =some o→(∀e∈o.after.toList,gi e=true→e.on<acc.size+m) →
 (l.foldl (fun acc o=>acc.push (jc acc o)) acc).getD (acc.size+m) 0=jc (l.foldl (fun acc o=>acc.push (jc acc o)) acc) o
 |[],acc,m,o,h,_=>by simp at h
 |a::r,acc,0,o,h,he=>by
  simp at h;subst h;simp only [List.foldl_cons,Nat.add_zero];rw [wE r _ acc.size a1];have:(acc.push (jc acc a)).getD acc.size 0=jc acc a:=by simp [Array.getD_eq_getD_getElem?]
  rw [this];refine Fx fun e hm an=> ?_
  have c1:=he e hm an;rw [wE r _ e.on (by simp;omega)];simp [Array.getD_eq_getD_getElem?,Array.getElem?_push];rw [if_neg J]
 |a::r,acc,m+1,o,h,he=>by simp at h;simp only [List.foldl_cons];have:=fold_at r (acc.push (jc acc a)) m o h (fun e hm an=>by have:=he e hm an;simp;omega);simp only [Array.size_push]at this;rw [show acc.size+(m+1)=acc.size+1+m by omega];exact this
theorem Af{acc:Array Nat}{i:Nat} :∀(l:List Edge)(s:Nat),(l.foldl (fun s e=>if gi e then s ||| 2^e.on ||| acc.getD e.on 0 else s) s).testBit i=true →
 s.testBit i=true∨ ∃e∈l,gi e=true∧(e.on=i∨(acc.getD e.on 0).testBit i=true)
 |[],s,h=> .inl h
 |e ::r,s,h=>by
  simp only [List.foldl_cons]at h;rcases Af r _ h with aa|⟨cn,aa,ae⟩
  ·cases an:gi e
   ·rw [an]at aa;exact .inl (by simpa using aa)
   ·rw [an]at aa;simp only [if_true,Nat.testBit_or,Bool.or_eq_true]at aa;rcases aa with (aa|aa)|aa
    ·exact .inl aa
    ·right;rw [Nat.testBit_two_pow]at aa;exact⟨e,a1,an,.inl (by simpa using aa)⟩
    ·exact .inr ⟨e,a1,an,.inr aa⟩
  ·exact .inr ⟨cn,by simp [aa],ae⟩
def lY(ops:Array Oper):Prop:= ∀(j:Nat)(o:Oper),ops[j]? =some o→ ∀e∈o.after.toList,gi e=true→e.on<j
theorem Ag{ops:Array Oper}(ay:lY ops){i j:Nat}{o:Oper}(aj:ops[j]? =some o)(h:ordered (cB ops) i j=true) :
 ∃e∈o.after.toList,gi e=true∧(e.on=i∨ordered (cB ops) i e.on=true):=by
 unfold ordered at h;have:=fold_at ops.toList #[] j o (by simpa using aj) (fun e he an=>by have:=ay j o aj e he an;simp;omega);simp only [List.size_toArray,List.length_nil,Nat.zero_add]at this;have bk:cB ops=ops.toList.foldl (fun acc o=>acc.push (jc acc o)) #[]:=rfl;rw [bk,this]at h;rcases Af _ _ h with aa|aa
 ·simp at aa
 ·exact aa
theorem Ah{ops:Array Oper}{i j:Nat}(aj:ops[j]? =none):ordered (cB ops) i j=false:=by
 have dC:∀(l:List Oper)(acc:Array Nat),(l.foldl (fun acc o=>acc.push (jc acc o)) acc).size=acc.size+l.length:=by
  intro l;induction l with
  |nil=>intro acc;rfl
  |cons a r ih=>intro acc;simp only [List.foldl_cons,ih,Array.size_push,List.length_cons];omega
 have bk:cB ops=ops.toList.foldl (fun acc o=>acc.push (jc acc o)) #[]:=rfl;have aW:ops.size≤j:=by simpa using aj
 unfold ordered;rw [bk,Array.getD_eq_getD_getElem?,Array.getElem?_eq_none (by rw [dC];simpa using aW)];simp
theorem Fy{ops:Array Oper}(ay:lY ops):∀(j:Nat){i:Nat},ordered (cB ops) i j=true→i<j:=by
 intro j;induction j using Nat.strongRecOn with
 |_ j ih =>
  intro i h;cases aj:ops[j]? with
  |none=>rw [Ah aj]at h;cases h
  |some o =>
   obtain⟨e,he,an,al⟩:=Ag ay aj h;have:=ay j o aj e he an;rcases al with rfl|al
   ·exact this
   ·have:=ih e.on this al;omega
def Ai(ops:Array Oper)(listed:Array Bool):Prop:= ∀(j:Nat)(o:Oper),listed.getD j false=true→ops[j]? =some o→ ∀e∈o.after.toList,gi e=true→listed.getD e.on false=true
theorem Fz{ops:Array Oper}(ay:lY ops){listed:Array Bool}(al:Ai ops listed):∀(j:Nat)(o:Oper),ops[j]? =some o→(∀e∈o.after.toList,gi e=true→listed.getD e.on false=true) →
 ∀{i:Nat},ordered (cB ops) i j=true→listed.getD i false=true:=by
 intro j;induction j using Nat.strongRecOn with
 |_ j ih =>
  intro o aj ab i h;obtain⟨e,he,an,q9⟩:=Ag ay aj h;have c1:=ay j o aj e he an;have hle:=ab e he an;rcases q9 with rfl|q9
  ·exact hle
  ·cases wF:ops[e.on]? with
   |none=>rw [Ah wF]at q9;cases q9
   |some Aj=>exact ih e.on c1 Aj wF (al e.on Aj hle wF) q9
def jA(E:bq)(call:cu)(ops:Array Oper)(au j:Nat)(o:Oper)(b4:List R)(h:I):Option (R×I) :=
 match gA ops b4 o with
 |some true=>du E call ops au j (bX b4) h o.op
 |some false=>some (ek,h)
 |none=>none
theorem s7{ops:Array Oper}{au j:Nat}{o:Oper}(aj:ops[j]? =some o)(s:dl) :
 iT E call ops au j s=(jA E call ops au j o s.c' s.heap).map fun p=>⟨fl s.c' o.dst p.1,p.2⟩:=by
 unfold iT jA;rw [aj];simp only;cases gA ops s.c' o with
 |none=>rfl
 |some b =>
  cases b with
  |false=>rfl
  |true =>
   simp only;cases du E call ops au j (bX s.c') s.heap o.op with
   |none=>rfl
   |some p=>rfl
theorem q'{ops:Array Oper}{au j:Nat}{ρ:Operand→R}{h:I}{o:Op}{v:R}{af:I}(az:du E call ops au j ρ h o=some (v,af)) :
 bb E call (au+j) ρ h o=some (v,af)∨(cG o=.pure∧gj o=true∧(im ops j=true∨gk ops au j ρ o=true)∧bb E call (au+j) ρ h o=none):=by
 unfold du at az;split at az
 ·split at az
  ·split at az
   ·exact .inl az
   ·cases az
  ·cases az
 ·split at az
  ·split at az
   ·cases az
   ·exact .inl az
  ·cases az
 ·split at az
  ·rename_i v1 aa he;split at az
   ·split at az
    ·rw [he];exact .inl az
    ·cases az
   ·rw [he];exact .inl az
  ·cases az
 ·split at az
  ·exact .inl az
  ·cases az
 ·rename_i al;split at az
  ·rename_i r he;rw [he];exact .inl az
  ·rename_i he;split at az
   ·rename_i b7;exact .inr ⟨al,b7.1,b7.2,he⟩
   ·cases az
 ·exact .inl az
theorem s8{ops:Array Oper}{au j:Nat}{ρ:Operand→R}{h:I}{o:Op}{v:R}{af:I}(az:du E call ops au j ρ h o=some (v,af)):gz E call (au+j) ρ h o=some (v,af):=by
 rcases q' az with aa|⟨aa,ae,aS,bj⟩
 ·unfold gz;rw [aa]
 ·unfold du at az;rw [aa]at az;simp only [bj]at az;rw [if_pos ⟨ae,aS⟩]at az;unfold gz;rw [bj];exact az
theorem wG{ops:Array Oper}{i j:Nat}(hs:im ops j=true)(ag:i<ops.size)(bJ:i≠j)(aa:ordered (cB ops) i j=false)(ae:ordered (cB ops) j i=false){o:Oper}(aj:ops[i]? =some o):cG o.op=.pure∧gj o.op=false:=by
 unfold im at hs;have:=List.all_eq_true.1 hs i (List.mem_range.2 ag);simp only [aa,ae,aj,Bool.or_false]at this;simp only [Bool.or_eq_true,beq_iff_eq,Bool.and_eq_true,decide_eq_true_eq,Bool.not_eq_true']at this;rcases this with h|h
 ·exact absurd h bJ
 ·exact h
theorem wH{es:Nat}{x:R}{h af:I}(ac:∀k∈fz x,af.get k=h.get k):en es x af=en es x h:=by
 unfold en;split
 ·rfl
 ·rename_i a len c;have e:af.get a.id=h.get a.id:=ac a.id (by simp [fz]);rw [e]
 ·rfl
 ·rfl
theorem px{D:ci}{t:TypeId}{s x:R}{nid:Nat}{h aa:I}{v:R}(aD:fb D t s x nid h=some (v,aa)) :
 (aa=h∧∀af,(∀k∈fz s++fz x,af.get k=h.get k)→fb D t s x nid af=some (v,af)) ∨
 ∃id b,(id=nid∨id∈fz s++fz x)∧aa=h.set id b∧∀af,(∀k∈fz s++fz x,af.get k=h.get k)→fb D t s x nid af=some (v,af.set id b):=by
 have d':∀{af},(∀k∈fz s++fz x,af.get k=h.get k)→(∀es,en es s af=en es s h)∧(∀es,en es x af=en es x h):=fun {af} bx =>
  ⟨fun es=>wH fun k ap=>bx k (List.mem_append_left _ ap),fun es=>wH fun k ap=>bx k (List.mem_append_right _ ap)⟩
 unfold fb at aD;split at aD
 ·rename_i d base len cap az;split at aD
  ·rename_i e ap;split at aD
   ·rename_i bM dP;split at aD
    ·rename_i new dT;simp only at aD;split at aD
     ·rename_i al;split at aD
      ·split at aD
       ·rename_i a6;simp only [Option.some.injEq,Prod.mk.injEq]at aD;obtain⟨rfl,rfl⟩:=aD;refine .inl ⟨rfl,fun af bx=> ?_⟩;have:=(d' bx).2 bM.size;unfold fb;simp only [az,ap,dP,this,dT];rw [if_pos al,if_pos a6]
       ·rename_i a6;split at aD
        ·rename_i ae;simp only [Option.some.injEq,Prod.mk.injEq]at aD;obtain⟨rfl,rfl⟩:=aD;refine .inr ⟨nid,_,.inl rfl,rfl,fun af bx=> ?_⟩;have:=(d' bx).2 bM.size;unfold fb;simp only [az,ap,dP,this,dT];rw [if_pos al,if_neg a6,if_pos ae]
        ·cases aD
      ·rename_i a;split at aD
       ·rename_i lO;split at aD
        ·rename_i b an;have ah:∀{af:I},(∀k∈fz (.slice (some a) len cap)++fz x,af.get k=h.get k)→af.get a.id=some b:=fun {af} bx=>by rw [bx a.id (by simp [fz]),an]
         split at aD
         ·rename_i kL;split at aD
          ·rename_i a6;simp only [Option.some.injEq,Prod.mk.injEq]at aD;obtain⟨rfl,rfl⟩:=aD;refine .inl ⟨rfl,fun af bx=> ?_⟩;have:=(d' bx).2 bM.size;unfold fb;simp only [az,ap,dP,this,dT,ah bx];rw [if_pos al,if_pos lO,if_pos kL,if_pos a6]
          ·rename_i a6;split at aD
           ·rename_i b7;simp only [Option.some.injEq,Prod.mk.injEq]at aD;obtain⟨rfl,rfl⟩:=aD;refine .inr ⟨a.id,_,.inr (by simp [fz]),rfl,fun af bx=> ?_⟩;have:=(d' bx).2 bM.size;unfold fb;simp only [az,ap,dP,this,dT,ah bx];rw [if_pos al,if_pos lO,if_pos kL,if_neg a6,if_pos b7]
           ·cases aD
         ·rename_i kL;split at aD
          ·rename_i hex;split at aD
           ·rename_i old fm;simp only [Option.some.injEq,Prod.mk.injEq]at aD;obtain⟨rfl,rfl⟩:=aD;refine .inr ⟨nid,_,.inl rfl,rfl,fun af bx=> ?_⟩;have bk:=(d' bx).2 bM.size;have bV:=(d' bx).1 bM.size;unfold fb;simp only [az,ap,dP,bk,dT,ah bx];rw [if_pos al,if_pos lO,if_neg kL,if_pos hex];simp only [bV,fm]
           ·cases aD
          ·rename_i hex;split at aD
           ·rename_i b7;simp only [Option.some.injEq,Prod.mk.injEq]at aD;obtain⟨rfl,rfl⟩:=aD;refine .inr ⟨a.id,_,.inr (by simp [fz]),rfl,fun af bx=> ?_⟩;have:=(d' bx).2 bM.size;unfold fb;simp only [az,ap,dP,this,dT,ah bx];rw [if_pos al,if_pos lO,if_neg kL,if_neg hex,if_pos b7]
           ·cases aD
        ·cases aD
       ·cases aD
     ·cases aD
    ·cases aD
   ·cases aD
  ·cases aD
 ·cases aD
theorem Ak{nid:Nat}{ρ:Operand→R}{h aa:I}{o:Op}{v:R}(al:cG o=.fc)(aj:bb E call nid ρ h o=some (v,aa)) :
 (aa=h∧∀af,(∀k∈fA ρ o,af.get k=h.get k)→bb E call nid ρ af o=some (v,af)) ∨
 ∃id b,(id=nid∨id∈fA ρ o)∧aa=h.set id b∧∀af,(∀k∈fA ρ o,af.get k=h.get k)→bb E call nid ρ af o=some (v,af.set id b):=by
 cases o<;>simp only [cG,reduceCtorEq]at al;rename_i c;obtain⟨callee,args,ts⟩:=c;cases callee<;>simp only [reduceCtorEq]at al;rename_i b;cases b<;>simp only [reduceCtorEq]at al;simp only [bb,e5]at aj⊢;split at aj
 ·rename_i s x t u fk bz hu;have mT:fA ρ (.call ⟨.builtin .append,args,ts⟩)=fz s++fz x:=by simp [fA,fk]
  rw [mT];split at aj
  ·rename_i il oh;split at aj
   ·rename_i e he;first|exact px aj|(rw [he];exact px aj)|(have:=px aj;simpa [he]using this)
   ·rename_i he;first|exact px aj|(rw [he];exact px aj)|(have:=px aj;simpa [he]using this)
   ·cases aj
  ·cases aj
 ·cases aj
theorem FA{b4:List R}{d:Tmp}{v:R}{x:Operand}(h:∀t,x=.tmp t→t≠d):bX (b4.set d v) x=bX b4 x:=by
 cases x with
 |tmp t =>
  have:d≠t:=fun e=>h t rfl e.symm
  simp [bX,List.getD_eq_getElem?_getD,List.getElem?_set_ne this]
 |const v=>rfl
 |global g=>rfl
 |func f=>rfl
theorem FB{xs:List Operand}{t:Tmp}(h:Operand.tmp t∈xs):t∈tmpsOf xs:=by unfold tmpsOf;exact List.mem_filterMap.2 ⟨_,h,rfl⟩
theorem FC{ops:Array Oper}{au j:Nat}{o:Oper}{b4:List R}{d:Tmp}{v:R}{h:I}(az:d ∉ nY ops o) :
 jA E call ops au j o (b4.set d v) h=jA E call ops au j o b4 h:=by
 unfold nY at az;simp only [List.mem_append,not_or]at az;obtain⟨wI,oq⟩:=az
 have bN:∀x∈o.op.operands.toList,bX (b4.set d v) x=bX b4 x:=fun x ac=>FA fun t bz e=>by subst bz e;exact wI (FB ac)
 have hw:gA ops (b4.set d v) o=gA ops b4 o:=by
  unfold gA;split
  ·rfl
  ·rename_i g want ah;rw [ah]at oq;split
   ·rename_i eT q4;simp only [q4,Option.toList_some,List.mem_singleton]at oq;rw [List.getElem?_set_ne (fun e=>oq e)]
   ·rfl
 unfold jA;rw [hw];have hB:∀nid,bb E call nid (bX (b4.set d v)) h o.op=bb E call nid (bX b4) h o.op:=fun nid=>wD bN
 have cU:hx (bX (b4.set d v)) o.op=hx (bX b4) o.op:=by cases gN:o.op<;>simp only [hx];rename_i t x;rw [gN]at bN;rw [bN x (by simp [Op.operands])]
 have fY:jW (bX (b4.set d v)) o.op=jW (bX b4) o.op:=by cases gN:o.op<;>simp only [jW];rename_i t x y;rw [gN]at bN;rw [bN x (by simp [Op.operands])]
 have FD:du E call ops au j (bX (b4.set d v)) h o.op=du E call ops au j (bX b4) h o.op:=by
  have FE:fA (bX (b4.set d v)) o.op=fA (bX b4) o.op:=by cases gN:o.op<;>simp only [fA];rename_i c;rw [gN]at bN;rw [pw (ρ:=bX (b4.set d v)) (cq:=bX b4) fun x ac=>bN x (by simp only [Op.operands,Call.operands];cases c.callee<;>simp [ac])]
  have q0:gj o.op=true→dN E (au+j) (bX (b4.set d v)) h o.op=dN E (au+j) (bX b4) h o.op:=by intro ra;cases gN:o.op<;>rw [gN]at ra<;>simp only [gj,reduceCtorEq]at ra;simp only [dN];rename_i a b x;rw [gN]at bN;rw [bN x (by simp [Op.operands])]
  have wJ:gk ops au j (bX (b4.set d v)) o.op=gk ops au j (bX b4) o.op:=by
   have:kG (bX (b4.set d v)) o.op=kG (bX b4) o.op:=by cases gN:o.op<;>simp only [kG];rename_i a b x;rw [gN]at bN;rw [bN x (by simp [Op.operands])]
   unfold gk;rw [this]
  unfold du;rw [hB,cU,fY,FE,wJ];by_cases ra:gj o.op=true
  ·rw [q0 ra]
  ·simp only [ra,Bool.false_eq_true,false_and,if_false]
 rw [FD]
theorem Al{ops:Array Oper}{au j:Nat}{o x:Oper}{b4:List R}{v:R}{h:I}(az:∀d,x.dst=some d→d ∉ nY ops o) :
 jA E call ops au j o (fl b4 x.dst v) h=jA E call ops au j o b4 h:=by
 cases ac:x.dst with
 |none=>rfl
 |some d=>exact FC (az d ac)
theorem FF{b4:List R}{x y:Oper}{v u:R}(h:∀d,x.dst=some d→y.dst≠some d):fl (fl b4 x.dst v) y.dst u=fl (fl b4 y.dst u) x.dst v:=by
 cases ac:x.dst with
 |none=>rfl
 |some d =>
  cases bi:y.dst with
  |none=>rfl
  |some e =>
   have bJ:d≠e:=fun he=>h d ac (by rw [bi,he])
   simp only [fl];exact List.set_comm _ _ bJ
theorem set_comm{a b:Nat}(ms:a≠b)(h:I)(x y:ai):(h.set a x).set b y=(h.set b y).set a x:=by unfold I.set;simp only [ax.set_comm x y h.aB a b ms]
structure rb(ops:Array Oper)(x i:Nat):Prop where
 lt:x<i
 ag:i<ops.size
 no:ordered (cB ops) x i=false
 pair:∀fe dV,ops[x]? =some fe→ops[i]? =some dV→y2 (cG fe.op) (cG dV.op)=true∧su ops fe dV=true
theorem apart_spec{ops:Array Oper}{x y:Oper}(h:su ops x y=true):(∀d,x.dst=some d→d ∉ nY ops y)∧(∀d,y.dst=some d→d ∉ nY ops x)∧(∀d,x.dst=some d→y.dst≠some d):=by
 unfold su at h;simp only [Bool.and_eq_true]at h;obtain⟨aa,ae⟩:=h;refine⟨fun d az=> ?_,fun d az=> ?_,fun d az=> ?_⟩
 ·rw [az]at aa;simp at aa;exact aa.1
 ·rw [az]at ae;simp at ae;exact ae
 ·rw [az]at aa;simp at aa;exact aa.2
theorem rc{ops:Array Oper}{x i:Nat}{dV:Oper}(h:mC ops x=true)(fL:ops[i]? =some dV)(ag:i<ops.size)(ne:i≠x)(re:ordered (cB ops) x i=false)(rf:ordered (cB ops) i x=false)(db:cG dV.op≠ .pure)(c2:cG dV.op≠ .load):False:=by
 have:=List.all_eq_true.1 h i (List.mem_range.2 ag);simp only [re,rf,fL,Bool.or_false,Bool.or_eq_true,beq_iff_eq,decide_eq_true_eq]at this;rcases this with h|h|h
 ·exact ne h
 ·exact db h
 ·exact c2 h
theorem Am{ops:Array Oper}{au x i:Nat}{fe dV:Oper}(gG:ops[x]? =some fe)(fL:ops[i]? =some dV)(cy:cG fe.op=.load)(bQ:cG dV.op=.store)(re:ordered (cB ops) x i=false)(rf:ordered (cB ops) i x=false)(ac:x<ops.size)(ag:i<ops.size)
 {ρ:Operand→R} {h ae:I} {mU:R} {b jB:Nat} (ay:∃b,hx ρ fe.op=some b∧(mC ops x=true∨b<au∨(b<au+ops.size∧ordered (cB ops) (b-au) x=true∧lF ops (cB ops) x=false))) (an:hx ρ fe.op=some b)
 (az:du E call ops au i ρ h dV.op=some (mU,ae)) (hs:jW ρ dV.op=some jB):b<au∧au≤jB:=by
 have dv:lF ops (cB ops) x=true:=by unfold lF;rw [List.any_eq_true];refine⟨i,List.mem_range.2 ag,?_⟩;rw [fL];simp [bQ,re,rf]
 have eE:js ops (cB ops) i=true:=by unfold js;rw [List.any_eq_true];refine⟨x,List.mem_range.2 ac,?_⟩;rw [gG];simp [cy,re,rf]
 refine⟨?_,?_⟩
 ·obtain⟨gl,eX,al⟩:=ay;rw [an]at eX;simp only [Option.some.injEq]at eX;subst eX;rcases al with al|al|⟨_,_,al⟩
  ·exact(rc al fL ag (fun e=>by subst e;rw [gG]at fL;cases fL;rw [cy]at bQ;cases bQ) re rf (by rw [bQ];decide) (by rw [bQ];decide)).elim
  ·exact al
  ·rw [dv]at al;cases al
 ·unfold du at az;rw [bQ]at az;simp only [hs]at az;split at az
  ·cases az
  ·rename_i al;rcases Nat.lt_or_ge jB au with c1|fI
   ·exact absurd ⟨eE,c1⟩ al
   ·exact fI
theorem wK{ops:Array Oper}{au j:Nat}{ρ:Operand→R}{o:Op}(h:gk ops au j ρ o=true):∃x,kG ρ o=some x∧(∀b∈fz x,∀k,ordered (cB ops) k j=false→b≠au+k) ∧
 ∀i y,i<ops.size→i≠j→ordered (cB ops) i j=false→ordered (cB ops) j i=false→ops[i]? =some y→cG y.op=.pure∨cG y.op=.load∨cG y.op=.alloc:=by
 unfold gk at h;split at h
 ·rename_i x ac;simp only [Bool.and_eq_true]at h;refine⟨x,ac,fun b an k ap e=> ?_,fun i y ag bJ aa ae bi=> ?_⟩
  ·have:=List.all_eq_true.1 h.1 b an;simp only [Bool.or_eq_true,Bool.and_eq_true,decide_eq_true_eq]at this;subst e;rcases this with h|⟨_,h⟩
   ·omega
   ·rw [show au+k-au=k by omega,ap]at h;cases h
  ·have:=List.all_eq_true.1 h.2 i (List.mem_range.2 ag);simp only [aa,ae,bi,Bool.or_false,Bool.or_eq_true,beq_iff_eq,decide_eq_true_eq]at this;rcases this with h|(h|h)|h
   ·exact absurd h bJ
   ·exact .inl h
   ·exact .inr (.inl h)
   ·exact .inr (.inr h)
 ·cases h
theorem wL{nid:Nat}{ρ:Operand→R}{h aa:I}{o:Op}{v x:R}(ac:kG ρ o=some x)(aj:dN E nid ρ h o=some (v,aa)) :
 aa=h∧∀(kU:Nat)(af:I),(∀k∈fz x,af.get k=h.get k)→dN E kU ρ af o=some (v,af):=by
 cases o<;>simp only [kG,reduceCtorEq]at ac;rename_i s d y;split at ac
 ·rename_i a n c bi;simp only [Option.some.injEq]at ac;subst ac;simp only [dN,bi,nW]at aj⊢;cases hs:E.D s with
  |none=>rw [hs]at aj;simp at aj
  |some jV =>
   cases az:E.D d with
   |none=>rw [hs,az]at aj;simp at aj
   |some eT =>
    simp only [hs,az]at aj⊢;cases eV:jV.kind<;>cases eW:eT.kind<;>simp only [eV,eW,reduceCtorEq]at aj⊢
    ·
      rename_i e;cases he:E.D e with
      |none=>rw [he]at aj;simp at aj
      |some fU =>
       simp only [he]at aj⊢;cases iy:fU.kind<;>simp only [iy,reduceCtorEq]at aj⊢;rename_i ju;cases ju<;>simp only [reduceCtorEq]at aj⊢;split at aj
       ·rename_i l ay;simp only [Option.map_eq_some_iff,Prod.mk.injEq]at aj;obtain⟨u,hu,rfl,rfl⟩:=aj;refine⟨rfl,fun kU af bx=> ?_⟩;rw [wH bx,ay];simp only [hu,Option.map_some]
       ·cases aj
    ·
      rename_i e bV;cases he:E.D e with
      |none=>rw [he]at aj;simp at aj
      |some fU =>
       cases a with
       |none=>rw [he]at aj;simp at aj
       |some nX =>
        simp only [he]at aj⊢;split at aj
        ·rename_i b iy ah;split at aj
         ·rename_i al;simp only [Option.some.injEq,Prod.mk.injEq]at aj;obtain⟨rfl,rfl⟩:=aj;refine⟨rfl,fun kU af bx=> ?_⟩;rw [bx nX.id (by simp [fz]),iy,ah];simp only;rw [if_pos al]
         ·cases aj
        ·cases aj
 ·cases ac
theorem FG{nid:Nat}{ρ:Operand→R}{h:I}{o:Op}(al:gj o=true)(aD:bb E call nid ρ h o=none)(kU:Nat)(af:I):bb E call kU ρ af o=none:=by cases o<;>simp only [gj,reduceCtorEq]at al;simp only [bb,Option.map_eq_none_iff]at aD⊢;exact aD
theorem FH{ops:Array Oper}(ay:lY ops){au x i:Nat}(m:rb ops x i){fe dV:Oper}(gG:ops[x]? =some fe)(fL:ops[i]? =some dV){b4:List R}{h ac ae:I}{jZ mU:R}
 (aa:jA E call ops au x fe b4 h=some (jZ,ac)) (ag:jA E call ops au i dV b4 ac=some (mU,ae)) :
 ∃fX,jA E call ops au i dV b4 h=some (mU,fX)∧jA E call ops au x fe b4 fX=some (jZ,ae):=by
 obtain⟨cF,s9⟩:=m.pair fe dV gG fL
 have hG:ordered (cB ops) i x=false:=by
  cases an:ordered (cB ops) i x with
  |false=>rfl
  |true=>have:=Fy ay x an;have:=m.lt;omega
 unfold jA at aa ag⊢;cases An:gA ops b4 fe with
 |none=>rw [An]at aa;cases aa
 |some lE =>
  cases Ao:gA ops b4 dV with
  |none=>rw [Ao]at ag;cases ag
  |some FI =>
   rw [An]at aa;rw [Ao]at ag;cases lE with
   |false =>
    simp only [Option.some.injEq,Prod.mk.injEq]at aa;obtain⟨rfl,rfl⟩:=aa;exact⟨ae,ag,rfl⟩
   |true =>
    cases FI with
    |false =>
     simp only [Option.some.injEq,Prod.mk.injEq]at ag;obtain⟨rfl,rfl⟩:=ag;exact⟨h,rfl,aa⟩
    |true =>
     simp only at aa ag⊢;have dd:x<ops.size:=by have:=m.lt;have:=m.ag;omega
     have mV:∀{j:Nat}{o:Oper}{h:I}{r:R×I},cG o.op=.pure→bb E call (au+j) (bX b4) h o.op=some r→du E call ops au j (bX b4) h o.op=some r:=by intro j o h r al aD;unfold du;rw [al];simp only [aD]
     have Ap:∀{j:Nat}{o:Oper}{h a6:I}{r:R×I},cG o.op=.pure→gj o.op=true→(im ops j=true∨gk ops au j (bX b4) o.op=true)→bb E call (au+j) (bX b4) a6 o.op=none→dN E (au+j) (bX b4) h o.op=some r→du E call ops au j (bX b4) h o.op=some r:=by intro j o h a6 r al ag hs aD ac;unfold du;rw [al];simp only [FG ag aD (au+j) h];rw [if_pos ⟨ag,hs⟩];exact ac
     rcases q' aa with fy|⟨FJ,wM,py,Aq⟩
     rotate_left
     ·
       have zT:dN E (au+x) (bX b4) h fe.op=some (jZ,ac):=by have:=s8 aa;unfold gz at this;rw [Aq]at this;exact this
       rcases py with py|py
       ·obtain⟨eZ,eM⟩:=wG py m.ag (by have:=m.lt;omega) hG m.no fL;rcases q' ag with fM|⟨_,bU,_,_⟩
        ·obtain⟨rfl,av⟩:=j9 eZ fM;refine⟨h,mV eZ (av _ _),aa⟩
        ·rw [eM]at bU;cases bU
       ·obtain⟨y,bi,mT,wN⟩:=wK py;obtain⟨rfl,av⟩:=wL bi zT;have FK:=wN i dV m.ag (by have:=m.lt;omega) hG m.no fL;have back:∀ae:I,(∀k∈fz y,ae.get k=ac.get k)→du E call ops au x (bX b4) ae fe.op=some (jZ,ae):=fun ae ah=>Ap FJ wM (.inr py) Aq (av _ ae ah)
        rcases q' ag with fM|⟨Ar,As,jC,s'⟩
        ·rcases FK with c|c|c
         ·obtain⟨rfl,_⟩:=j9 c fM;exact⟨_,ag,back _ fun _ _=>rfl⟩
         ·obtain⟨rfl,_⟩:=oo c fM;exact⟨_,ag,back _ fun _ _=>rfl⟩
         ·obtain⟨b,rfl,_⟩:=pv c fM;exact⟨_,ag,back _ fun k ap=>I.dZ _ _ fun e=>mT k ap i hG e.symm⟩
        ·have wO:dN E (au+i) (bX b4) ac dV.op=some (mU,ae):=by have:=s8 ag;unfold gz at this;rw [s']at this;exact this
         rcases jC with jC|jC
         ·obtain⟨_,eM⟩:=wG jC dd (by have:=m.lt;omega) m.no hG gG;rw [eM]at wM;cases wM
         ·obtain⟨z,ds,_,_⟩:=wK jC;obtain⟨rfl,_⟩:=wL ds wO;exact⟨_,ag,back _ fun _ _=>rfl⟩
     rcases q' ag with fM|⟨Ar,As,jC,s'⟩
     rotate_left
     ·rcases jC with jC|jC
      ·obtain⟨eZ,eM⟩:=wG jC dd (by have:=m.lt;omega) m.no hG gG;obtain⟨rfl,ab⟩:=j9 eZ fy;exact⟨ae,ag,mV eZ (ab _ _)⟩
      ·have wO:dN E (au+i) (bX b4) ac dV.op=some (mU,ae):=by have:=s8 ag;unfold gz at this;rw [s']at this;exact this
       obtain⟨y,bi,mT,wN⟩:=wK jC;obtain⟨rfl,av⟩:=wL bi wO;rcases wN x fe dd (by have:=m.lt;omega) m.no hG gG with c|c|c
       ·obtain⟨rfl,_⟩:=j9 c fy;exact⟨_,ag,aa⟩
       ·obtain⟨rfl,_⟩:=oo c fy;exact⟨_,ag,aa⟩
       ·obtain⟨b,rfl,_⟩:=pv c fy;exact⟨h,Ap Ar As (.inr jC) s' (av _ h fun k ap=>(I.dZ _ _ fun e=>mT k ap x m.no e.symm).symm),aa⟩
     have pz:cG fe.op=.load→ ∃b,hx (bX b4) fe.op=some b∧(mC ops x=true∨b<au∨(b<au+ops.size∧ordered (cB ops) (b-au) x=true∧lF ops (cB ops) x=false)):=by
      intro al;unfold du at aa;rw [al]at aa;simp only at aa;split at aa
      ·rename_i b an;split at aa
       ·rename_i b7;exact⟨b,an,b7⟩
       ·cases aa
      ·cases aa
     have pA:cG dV.op=.load→ ∃b,hx (bX b4) dV.op=some b∧(mC ops i=true∨b<au∨(b<au+ops.size∧ordered (cB ops) (b-au) i=true∧lF ops (cB ops) i=false)):=by
      intro al;unfold du at ag;rw [al]at ag;simp only at ag;split at ag
      ·rename_i b an;split at ag
       ·rename_i b7;exact⟨b,an,b7⟩
       ·cases ag
      ·cases ag
     have pB:∀{j:Nat}{o:Oper}{h af:I}{v:R},cG o.op=.load→(∃b,hx (bX b4) o.op=some b∧(mC ops j=true∨b<au∨(b<au+ops.size∧ordered (cB ops) (b-au) j=true∧lF ops (cB ops) j=false))) →
      bb E call (au+j) (bX b4) h o.op=some (v,af)→du E call ops au j (bX b4) h o.op=some (v,af):=by
      intro j o h af v al ⟨b,an,b7⟩ aD;unfold du;rw [al];simp only [an];rw [if_pos b7];exact aD
     have ta:∀{j:Nat}{o:Oper}{h:I},cG o.op=.alloc→du E call ops au j (bX b4) h o.op=bb E call (au+j) (bX b4) h o.op:=by intro j o h al;unfold du;rw [al]
     have FL:cG fe.op=.fc→lG ops au x (fA (bX b4) fe.op)=true:=by
      intro al;unfold du at aa;rw [al]at aa;simp only at aa;split at aa
      ·assumption
      ·cases aa
     have FM:cG dV.op=.fc→lG ops au i (fA (bX b4) dV.op)=true:=by
      intro al;unfold du at ag;rw [al]at ag;simp only at ag;split at ag
      ·assumption
      ·cases ag
     have wP:∀{j:Nat}{o:Oper}{h:I},cG o.op=.fc→lG ops au j (fA (bX b4) o.op)=true→du E call ops au j (bX b4) h o.op=bb E call (au+j) (bX b4) h o.op:=by intro j o h al ap;unfold du;rw [al];simp only;rw [if_pos ap]
     have At:∀{j k b:Nat}{ids:List Nat},k<ops.size→lG ops au j ids=true→b∈ids→ordered (cB ops) k j=false→b≠au+k:=by
      intro j k b ids Nb ap an iX e;subst e;have:=List.all_eq_true.1 ap _ an;simp only [Bool.or_eq_true,Bool.and_eq_true,decide_eq_true_eq]at this;rcases this with (h|⟨_,h⟩)|h
      ·omega
      ·rw [show au+k-au=k by omega,iX]at h;cases h
      ·omega
     cases cy:cG fe.op with
     |pure =>
      obtain⟨rfl,ab⟩:=j9 cy fy;exact⟨ae,ag,mV cy (ab _ _)⟩
     |load =>
      obtain⟨rfl,b,an,ab⟩:=oo cy fy;cases bQ:cG dV.op with
      |pure =>
       obtain⟨rfl,av⟩:=j9 bQ fM;exact⟨_,ag,aa⟩
      |load =>
       obtain⟨rfl,gl,eX,av⟩:=oo bQ fM;exact⟨_,ag,aa⟩
      |alloc =>
       obtain⟨br,rfl,av⟩:=pv bQ fM;refine⟨_,ag,pB cy (pz cy) (ab _ _ ?_)⟩;refine I.dZ _ _ ?_;rintro rfl;obtain⟨wQ,h5,b7⟩:=pz cy;rw [an]at h5;simp at h5;subst h5;rcases b7 with b7|b7|⟨_,b7,_⟩
       ·exact(rc b7 fL m.ag (by have:=m.lt;omega) m.no hG (by rw [bQ];decide) (by rw [bQ];decide)).elim
       ·omega
       ·rw [show au+i-au=i by omega,hG]at b7;cases b7
      |call =>
       refine⟨_,ag,pB cy (pz cy) (ab _ _ ?_)⟩;unfold du at ag;rw [bQ]at ag;simp only [fM]at ag
       have wR:js ops (cB ops) i=true:=by unfold js;rw [List.any_eq_true];refine⟨x,List.mem_range.2 (by have:=m.lt;have:=m.ag;omega),?_⟩;rw [gG];simp [cy,m.no,hG]
       rw [if_pos wR]at ag;split at ag
       ·rename_i hs;obtain⟨wQ,h5,b7⟩:=pz cy;rw [an]at h5;simp at h5;subst h5;rcases b7 with b7|b7
        ·exact(rc b7 fL m.ag (by have:=m.lt;omega) m.no hG (by rw [bQ];decide) (by rw [bQ];decide)).elim
        exact Ad hs (by rcases b7 with b7|⟨b7,_,_⟩<;>omega)
       ·cases ag
      |store =>
       obtain⟨jB,br,lU,rfl,av⟩:=Ae bQ fM;refine⟨_,ag,pB cy (pz cy) (ab _ _ ?_)⟩;refine I.dZ _ _ ?_;rintro rfl;have FN:=Am gG fL cy bQ m.no hG (by have:=m.lt;have:=m.ag;omega) m.ag (pz cy) an ag lU;omega
      |fc=>rw [cy,bQ]at cF;cases cF
      |other=>rw [cy,bQ]at cF;cases cF
     |store =>
      obtain⟨jB,br,lU,rfl,av⟩:=Ae cy fy;cases bQ:cG dV.op with
      |pure =>
       obtain⟨rfl,av⟩:=j9 bQ fM;exact⟨h,mV bQ (av _ _),aa⟩
      |load =>
       obtain⟨rfl,gl,eX,av⟩:=oo bQ fM;refine⟨h,pB bQ (pA bQ) (av _ _ ?_),aa⟩;refine(I.dZ _ _ ?_).symm;rintro rfl;have FN:=Am fL gG bQ cy hG m.no m.ag (by have:=m.lt;have:=m.ag;omega) (pA bQ) eX aa lU;omega
      |alloc=>rw [cy,bQ]at cF;cases cF
      |store=>rw [cy,bQ]at cF;cases cF
      |call=>rw [cy,bQ]at cF;cases cF
      |fc=>rw [cy,bQ]at cF;cases cF
      |other=>rw [cy,bQ]at cF;cases cF
     |alloc =>
      obtain⟨br,rfl,ab⟩:=pv cy fy;cases bQ:cG dV.op with
      |pure =>
       obtain⟨rfl,av⟩:=j9 bQ fM;exact⟨h,mV bQ (av _ _),aa⟩
      |load =>
       obtain⟨rfl,gl,eX,av⟩:=oo bQ fM;refine⟨h,pB bQ (pA bQ) (av _ _ ?_),aa⟩;refine(I.dZ _ _ ?_).symm;rintro rfl;obtain⟨wQ,h5,b7⟩:=pA bQ;rw [eX]at h5;simp at h5;subst h5;rcases b7 with b7|b7|⟨_,b7,_⟩
       ·exact(rc b7 gG (by have:=m.lt;have:=m.ag;omega) (by have:=m.lt;omega) hG m.no (by rw [cy];decide) (by rw [cy];decide)).elim
       ·omega
       ·rw [show au+x-au=x by omega,m.no]at b7;cases b7
      |alloc =>
       obtain⟨FO,rfl,av⟩:=pv bQ fM;refine⟨h.set (au+i) FO,by rw [ta bQ];exact av _,?_⟩;rw [ta cy,ab,set_comm (by have:=m.lt;omega)]
      |store=>rw [cy,bQ]at cF;cases cF
      |call=>rw [cy,bQ]at cF;cases cF
      |fc =>
       have ap:=FM bQ;have mW:∀k∈fA (bX b4) dV.op,k≠au+x:=fun k ot=>At (by have:=m.lt;have:=m.ag;omega) ap ot m.no
       have agree:∀k∈fA (bX b4) dV.op,h.get k=(h.set (au+x) br).get k:=fun k ot=>(I.dZ _ _ (fun e=>mW k ot e.symm)).symm
       rcases Ak bQ fM with ⟨a7,ba⟩|⟨id,gl,a7,ba,cC⟩
       ·subst a7;exact⟨h,by rw [wP bQ ap];exact ba h agree,aa⟩
       ·subst ba;refine⟨h.set id gl,by rw [wP bQ ap];exact cC h agree,?_⟩
        have bJ:au+x≠id:=by
         rcases a7 with rfl|a7
         ·have:=m.lt;omega
         ·exact fun e=>mW id a7 e.symm
        rw [ta cy,ab,set_comm bJ]
      |other=>rw [cy,bQ]at cF;cases cF
     |call =>
      cases bQ:cG dV.op with
      |pure =>
       obtain⟨rfl,av⟩:=j9 bQ fM;exact⟨h,mV bQ (av _ _),aa⟩
      |load =>
       obtain⟨rfl,gl,eX,av⟩:=oo bQ fM;refine⟨h,pB bQ (pA bQ) (av _ _ ?_),aa⟩;unfold du at aa;rw [cy]at aa;simp only [fy]at aa
       have wR:js ops (cB ops) x=true:=by unfold js;rw [List.any_eq_true];refine⟨i,List.mem_range.2 m.ag,?_⟩;rw [fL];simp [bQ,m.no,hG]
       rw [if_pos wR]at aa;split at aa
       ·rename_i hs;obtain⟨wQ,h5,b7⟩:=pA bQ;rw [eX]at h5;simp at h5;subst h5;rcases b7 with b7|b7
        ·exact(rc b7 gG (by have:=m.lt;have:=m.ag;omega) (by have:=m.lt;omega) hG m.no (by rw [cy];decide) (by rw [cy];decide)).elim
        exact(Ad hs (by rcases b7 with b7|⟨b7,_,_⟩<;>omega)).symm
       ·cases aa
      |alloc=>rw [cy,bQ]at cF;cases cF
      |store=>rw [cy,bQ]at cF;cases cF
      |call=>rw [cy,bQ]at cF;cases cF
      |fc=>rw [cy,bQ]at cF;cases cF
      |other=>rw [cy,bQ]at cF;cases cF
     |fc =>
      cases bQ:cG dV.op with
      |pure =>
       obtain⟨rfl,av⟩:=j9 bQ fM;exact⟨h,mV bQ (av _ _),aa⟩
      |alloc =>
       obtain⟨br,rfl,av⟩:=pv bQ fM;have ap:=FL cy;have mW:∀k∈fA (bX b4) fe.op,k≠au+i:=fun k ot=>At m.ag ap ot hG
       have agree:∀k∈fA (bX b4) fe.op,(h.set (au+i) br).get k=h.get k:=fun k ot=>I.dZ _ _ (fun e=>mW k ot e.symm)
       refine⟨h.set (au+i) br,by rw [ta bQ];exact av _,?_⟩;rw [wP cy ap];rcases Ak cy fy with ⟨a7,ba⟩|⟨id,gl,a7,ba,cC⟩
       ·subst a7;exact ba _ agree
       ·subst ba
        have bJ:au+i≠id:=by
         rcases a7 with rfl|a7
         ·have:=m.lt;omega
         ·exact fun e=>mW id a7 e.symm
        rw [cC _ agree,set_comm bJ]
      |load=>rw [cy,bQ]at cF;cases cF
      |store=>rw [cy,bQ]at cF;cases cF
      |call=>rw [cy,bQ]at cF;cases cF
      |fc=>rw [cy,bQ]at cF;cases cF
      |other=>rw [cy,bQ]at cF;cases cF
     |other =>
      cases bQ:cG dV.op with
      |pure =>
       obtain⟨rfl,av⟩:=j9 bQ fM;exact⟨h,mV bQ (av _ _),aa⟩
      |load=>rw [cy,bQ]at cF;cases cF
      |alloc=>rw [cy,bQ]at cF;cases cF
      |store=>rw [cy,bQ]at cF;cases cF
      |call=>rw [cy,bQ]at cF;cases cF
      |fc=>rw [cy,bQ]at cF;cases cF
      |other=>rw [cy,bQ]at cF;cases cF
theorem FP{ops:Array Oper}(ay:lY ops){au x i:Nat}(m:rb ops x i){s s1 s2:dl}(aa:iT E call ops au x s=some s1)(ae:iT E call ops au i s1=some s2) :
 ∃t,iT E call ops au i s=some t∧iT E call ops au x t=some s2:=by
 have mX:x<ops.size:=by have:=m.lt;have:=m.ag;omega
 have gG:ops[x]? =some ops[x]:=Array.getElem?_eq_getElem mX;have fL:ops[i]? =some (ops[i]'m.ag):=Array.getElem?_eq_getElem m.ag;obtain⟨cF,s9⟩:=m.pair _ _ gG fL;obtain⟨e1,a2,a3⟩:=apart_spec s9;rw [s7 gG,Option.map_eq_some_iff]at aa;obtain⟨⟨jZ,ac⟩,a7,rfl⟩:=aa;rw [s7 fL,Option.map_eq_some_iff]at ae;obtain⟨⟨mU,Nc⟩,ba,rfl⟩:=ae;simp only at ba;rw [Al e1]at ba;obtain⟨fX,g1,g2⟩:=FH ay m gG fL a7 ba;refine⟨⟨fl s.c' (ops[i]'m.ag).dst mU,fX⟩,?_,?_⟩
 ·rw [s7 fL,g1];rfl
 ·rw [s7 gG];simp only;rw [Al a2,g2];simp only [Option.map_some];rw [FF a3]
theorem front{ops:Array Oper}(ay:lY ops){au i:Nat}{q:List Nat} :∀{p:List Nat}{s aX:dl},(∀x∈p,rb ops x i)→hy E call ops au (p++i::q) s=some aX →
 ∃t,iT E call ops au i s=some t∧hy E call ops au (p++q) t=some aX
 |[],s,aX,_,h=>by
  simp only [List.nil_append,hy]at h⊢;split at h
  ·rename_i t bz;exact⟨t,bz,h⟩
  ·cases h
 |x ::p,s,aX,hm,h=>by
  simp only [List.cons_append,hy]at h;split at h
  ·rename_i s1 cK;obtain⟨t,aa,ae⟩:=front ay (fun y bi=>hm y (by simp [bi])) h;obtain⟨u,g1,g2⟩:=FP ay (hm x a1) cK aa;refine⟨u,g1,?_⟩;simp only [List.cons_append,hy,g2];exact ae
  ·cases h
theorem FQ{ops:Array Oper}{au j:Nat}{s aX:dl}(h:iT E call ops au j s=some aX):mA E call ops au j s=some aX:=by
 unfold iT at h;unfold mA;split at h
 ·rename_i e;simp [e];simpa using h
 ·rename_i o e;split at h
  ·rename_i hw;split at h
   ·rename_i v ab az;rw [show gz E call (au+j) (bX s.c') s.heap o.op=some (v,ab)from s8 az];exact h
   ·cases h
  ·exact h
  ·cases h
end
section
variable {P:Program}{φ:Map}{E:bq}
theorem FR{ops:Array Oper}(h:kF ops=true):lY ops∧∀x i,x<i→i<ops.size→ordered (cB ops) x i=false→rb ops x i:=by
 unfold kF at h;simp only [List.all_eq_true,List.mem_range]at h
 have ou:lY ops:=by
  intro j o aj e he an
  have aW:j<ops.size:=by
   rcases Nat.lt_or_ge j ops.size with af|af
   ·exact af
   ·rw [Array.getElem?_eq_none af]at aj;cases aj
  have:=h j aW;rw [aj]at this;simp only [Bool.and_eq_true,List.all_eq_true]at this;have:=this.1 e he;simpa [an]using this
 refine⟨ou,fun x i ea ag iX=>⟨ea,ag,iX,fun fe dV gG fL=> ?_⟩⟩;have:=h i ag;rw [fL]at this;simp only [Bool.and_eq_true,List.all_eq_true,List.mem_range]at this;have:=this.2 x ea;rw [iX,gG]at this;simpa using this
def eo(ops:Array Oper)(listed:Array Bool):List Nat:=(List.range ops.size).filter fun i=> !listed.getD i true
theorem Au{ops:Array Oper}{listed:Array Bool}{i:Nat}(h:i∈Region.ready .any ops listed) :
 i<ops.size∧listed.getD i true=false∧∃o,ops[i]? =some o∧∀e∈o.after.toList,gi e=true→listed.getD e.on false=true:=by
 unfold Region.ready at h;simp only [List.mem_filter,List.mem_range,Bool.and_eq_true,Bool.not_eq_true']at h;obtain⟨aa,ae,aS⟩:=h;refine⟨aa,ae,ops[i],Array.getElem?_eq_getElem aa,fun e he an=> ?_⟩;rw [Array.getElem?_eq_getElem aa]at aS;simp only [Option.map_some,Option.getD_some,Array.all_eq_true_iff_forall_mem]at aS;have:=aS e (by simpa using he);unfold gi at an;simpa [an]using this
theorem FT{ops:Array Oper}(ay:lY ops){listed:Array Bool}(dC:listed.size=ops.size){i:Nat}{r:List Nat}(h:eo ops listed=i::r):i∈Region.ready .any ops listed:=by
 have ag:i∈eo ops listed:=by rw [h];simp
 have eI:=ag;unfold eo at ag;simp only [List.mem_filter,List.mem_range,Bool.not_eq_true']at ag;unfold Region.ready;simp only [List.mem_filter,List.mem_range,Bool.and_eq_true,Bool.not_eq_true'];refine⟨ag.1,ag.2,?_⟩;rw [Array.getElem?_eq_getElem ag.1];simp only [Option.map_some,Option.getD_some,Array.all_eq_true_iff_forall_mem];intro e he;cases an:Region.binds .any e with
 |false=>rfl
 |true =>
  simp only [Bool.not_true,Bool.false_or];have c1:=ay i _ (Array.getElem?_eq_getElem ag.1) e (by simpa using he) an;cases hle:listed.getD e.on false with
  |true=>rfl
  |false =>
   exfalso
   have fw:e.on∈eo ops listed:=by unfold eo;simp only [List.mem_filter,List.mem_range,Bool.not_eq_true'];refine⟨J,?_⟩;have lI:e.on<listed.size:= J;rw [Array.getD_eq_getD_getElem?,Array.getElem?_eq_getElem lI]at hle⊢;simpa using hle
   have rh:(eo ops listed).Pairwise (· < ·):=List.Pairwise.filter _ List.pairwise_lt_range;rw [h]at rh fw;rcases List.mem_cons.1 fw with kJ|kJ
   ·omega
   ·have:=(List.pairwise_cons.1 rh).1 _ kJ;omega
theorem FU{ops:Array Oper}{listed:Array Bool}(dC:listed.size=ops.size){i:Nat}{p q:List Nat}(h:eo ops listed=p++i::q):eo ops (listed.setIfInBounds i true)=p++q:=by
 have ie:(eo ops listed).Nodup:=List.Pairwise.filter _ List.nodup_range;have ag:i∈eo ops listed:=by rw [h];simp
 have wS:i<ops.size:=by unfold eo at ag;simp only [List.mem_filter,List.mem_range]at ag;exact ag.1
 have bk:eo ops (listed.setIfInBounds i true)=(eo ops listed).filter fun j=>decide (j≠i):=by
  unfold eo;rw [List.filter_filter];refine List.filter_congr fun j aW=> ?_
  have Av:=List.mem_range.1 aW;by_cases lX:j=i
  ·subst lX;simp [Array.getD_eq_getD_getElem?,dC,wS]
  ·have fV:¬i=j:=fun e=>lX e.symm
   simp [Array.getD_eq_getD_getElem?,Array.getElem?_setIfInBounds,lX,fV]
 rw [bk,h];rw [h]at ie
 have ab:∀j∈p,j≠i:=fun j aW e=>by subst e;exact(List.nodup_append.1 ie).2.2 j aW j a1 rfl
 have av:∀j∈q,j≠i:=fun j aW e=>by subst e;have:=(List.nodup_append.1 ie).2.1;exact(List.nodup_cons.1 this).1 aW
 rw [List.filter_append,List.filter_cons];simp only [ne_eq,not_true_eq_false,decide_false,Bool.false_eq_true,if_false];rw [List.filter_eq_self.2 (fun j aW=>by simpa using ab j aW),List.filter_eq_self.2 (fun j aW=>by simpa using av j aW)]
theorem FV(bA:e7 P E){aF:Nat→Prop}{aN:World}(ck:dq aF aN.heap.size){call:cu}(eb:j7 P aF aN call){ops:Array Oper}(ri:kF ops=true){au:Nat}{Q:Exit→Act→World→Prop} :
 ∀{hH:Nat}{listed:Array Bool}{s aX:dl}{a:Act}{w:World}{φ:Map},listed.size=ops.size→Ai ops listed→(eo ops listed).length≤hH→hy E call ops au (eo ops listed) s=some aX →
  eL φ aF aN s a w→(∀j∈eo ops listed,au+j<s.heap.U∧∀v,φ (au+j) v=none) →
  (∀bD aL aZ,dr φ aZ au→eL aZ aF aN aX bD aL→s.heap.U≤aX.heap.U→Q .normal bD aL)→wpAny P .any ops Q hH listed a w:=by
 intro hH;obtain⟨ou,FW⟩:=FR ri
 have po:∀{listed:Array Bool}{s aX:dl}{a:Act}{w:World}{φ:Map},listed.size=ops.size→hy E call ops au (eo ops listed) s=some aX→eL φ aF aN s a w →
  (∀bD aL aZ,dr φ aZ au→eL aZ aF aN aX bD aL→s.heap.U≤aX.heap.U→Q .normal bD aL)→Region.ready .any ops listed=[]→Q .normal a w:=by
  intro listed s aX a w φ dC h r ap aR;cases hu:eo ops listed with
  |nil =>
   rw [hu]at h;simp [hy]at h;subst h;exact ap a w φ (dr.refl _ _) r (Nat.le_refl _)
  |cons i q =>
   exfalso;have:=FT ou dC hu;rw [aR]at this;cases this
 induction hH with
 |zero =>
  intro listed s aX a w φ dC fK hlen h r hid ap;have hu:eo ops listed=[]:=List.length_eq_zero_iff.1 J;simp only [wpAny]
  have Aw:Region.ready .any ops listed=[]:=by
   cases aR:Region.ready .any ops listed with
   |nil=>rfl
   |cons i q =>
    exfalso;obtain⟨aa,ae,_⟩:=Au (by rw [aR];exact List.mem_cons_self);have:i∈eo ops listed:=by unfold eo;simp only [List.mem_filter,List.mem_range,Bool.not_eq_true'];exact⟨aa,ae⟩
    rw [hu]at this;cases this
  exact⟨Aw,po dC h r ap Aw⟩
 |succ hH ih =>
  intro listed s aX a w φ dC fK hlen h r hid ap;simp only [wpAny];refine⟨po dC h r ap,fun i ag=> ?_⟩;obtain⟨aa,ae,o,aj,tb⟩:=Au ag;have kV:i∈eo ops listed:=by unfold eo;simp only [List.mem_filter,List.mem_range,Bool.not_eq_true'];exact⟨aa,ae⟩
  obtain⟨p,q,ov⟩:=List.append_of_mem kV;have rh:(eo ops listed).Pairwise (· < ·):=List.Pairwise.filter _ List.pairwise_lt_range
  have hm:∀x∈p,rb ops x i:=by
   intro x ac;rw [ov]at rh;have c1:x<i:=(List.pairwise_append.1 rh).2.2 x ac i a1;refine FW x i c1 aa ?_;cases an:ordered (cB ops) x i with
   |false=>rfl
   |true =>
    exfalso;have mX:=Fz ou fK i o aj tb an;have wT:x∈eo ops listed:=by rw [ov];simp [ac]
    unfold eo at wT;simp only [List.mem_filter,List.mem_range,Bool.not_eq_true']at wT;have lI:x<listed.size:= J;rw [Array.getD_eq_getD_getElem?,Array.getElem?_eq_getElem lI]at mX;have aS:=wT.2;rw [Array.getD_eq_getD_getElem?,Array.getElem?_eq_getElem lI]at aS;simp at mX aS;rw [mX]at aS;cases aS
  rw [ov]at h;obtain⟨t,g1,g2⟩:=front ou hm h;refine Aa bA ck eb r (hid i kV) (FQ g1) fun bD aL aZ ac dE hle=> ?_
  have wU:=FU dC ov;refine ih (listed:=listed.setIfInBounds i true) (by simpa using dC) ?_ ?_ (by rw [wU];exact g2) dE (fun j aW=> ?_) fun oj jz ol wA wB Fv=> ?_
  ·intro j FX aW tc e he an;by_cases kM:e.on=i
   ·rw [kM];simp [Array.getD_eq_getD_getElem?,dC,aa]
   ·have fm:listed.getD e.on false=true:=by
     by_cases lX:j=i
     ·subst lX;rw [aj]at tc;simp at tc;subst tc;exact tb e he an
     ·refine fK j FX ?_ tc e he an;have fV:¬i=j:=fun e=>lX e.symm
      simpa [Array.getD_eq_getD_getElem?,Array.getElem?_setIfInBounds,fV]using aW
    have FY:¬i=e.on:=fun cn=>kM cn.symm
    simpa [Array.getD_eq_getD_getElem?,Array.getElem?_setIfInBounds,FY]using fm
  ·rw [wU];rw [ov]at hlen;simp at hlen⊢; omega
  ·rw [wU]at aW;have FZ:j∈eo ops listed:=by rw [ov];rcases List.mem_append.1 aW with aW|aW<;>simp [aW]
   have ie:(eo ops listed).Nodup:=List.Pairwise.filter _ List.nodup_range
   have lX:j≠i:=by
    rintro rfl;rw [ov]at ie;rcases List.mem_append.1 aW with aW|aW
    ·exact(List.nodup_append.1 ie).2.2 j aW j a1 rfl
    ·exact(List.nodup_cons.1 (List.nodup_append.1 ie).2.1).1 aW
   obtain⟨a7,ba⟩:=hid j FZ;exact⟨J,ac.new _ a7 J ba⟩
  ·refine ap _ _ _ (dr.trans ⟨ac.le,fun k n8 jb=>ac.new k ?_ J jb,ac.ro⟩ wA) wB J;have:=(hid i kV).1;omega
theorem F0(bA:e7 P E){aF:Nat→Prop}{aN:World}(ck:dq aF aN.heap.size){call:cu}(eb:j7 P aF aN call){ops:Array Oper}(ri:kF ops=true){au:Nat}{s aX:dl}{a:Act}{w:World}{φ:Map}
 {Q:Exit→Act→World→Prop} (h:hy E call ops au (List.range ops.size) s=some aX) (r:eL φ aF aN s a w) (hid:∀j,j<ops.size→au+j<s.heap.U∧∀v,φ (au+j) v=none)
 (ap:∀bD aL aZ,dr φ aZ au→eL aZ aF aN aX bD aL→s.heap.U≤aX.heap.U→Q .normal bD aL):wpAny P .any ops Q ops.size (Array.replicate ops.size false) a w:=by
 have hu:eo ops (Array.replicate ops.size false)=List.range ops.size:=by
  unfold eo;refine List.filter_eq_self.2 fun i ag=> ?_
  have:=List.mem_range.1 ag;simp [Array.getD_eq_getD_getElem?,Array.getElem?_replicate,this]
 refine FV bA ck eb ri a1 ?_ (by rw [hu];simp) (by rw [hu];exact h) r (fun j aW=>by rw [hu]at aW;exact hid j (List.mem_range.1 aW)) ap;intro j o aW;simp [Array.getD_eq_getD_getElem?,Array.getElem?_replicate]at aW;split at aW<;>simp at aW
end
end
end Go.bh
namespace Go.bh
noncomputable section
open Go.RowKit
section
variable {P:Program}{φ:Map}{E:bq}
def rj:ch→Exit
 |.normal=> .normal
 |.exit id=> .exit id
 |.goto l=> .goto l
 |.ret=> .ret
theorem eL.bump{aF:Nat→Prop}{aN w:World}{s:dl}{a:Act}(r:eL φ aF aN s a w)(n:Nat):eL φ aF aN ⟨s.c',{s.heap with U:=s.heap.U+n}⟩ a w :=
 ⟨r.c',r.heap.U J,r.below,r.defers⟩
theorem eL.drew{aF:Nat→Prop}{aN w:World}{s:dl}{a:Act}(r:eL φ aF aN s a w):eL φ aF aN s a w.drew :=
 ⟨r.c',r.heap.alike (Alike.qU w),r.below.drew,r.defers⟩
theorem F1{aF:Nat→Prop}{w:World}{h:I}(r:bP φ aF h w){i:Nat}(ag:h.U≤i):∀v,φ i v=none:=by
 intro v;cases av:φ i v with
 |none=>rfl
 |some p=>have:=(r.b6 i v p av).1;omega
theorem Ax(bA:e7 P E){aF:Nat→Prop}{aN w:World}(ck:dq aF aN.heap.size){call:cu}(eb:j7 P aF aN call)(cX:P.follows .mixedOrders=true){id:Nat}{ops:Array Oper}{draw:Bool}{s aX:dl}{a:Act}(r:eL φ aF aN s a w)(h:nZ E call ops draw s=some aX)
 {Q:Exit→Act→World→Prop} (ap:∀bD aL aZ,dr φ aZ s.heap.U→eL aZ aF aN aX bD aL→s.heap.U≤aX.heap.U→Q .normal bD aL):(Code.region id ops draw).wp P Q a w:=by
 have mT:∀j,j<ops.size→s.heap.U+j<s.heap.U+ops.size∧∀v,φ (s.heap.U+j) v=none:=fun j aW=>⟨J,F1 r.heap J⟩
 unfold nZ at h;cases draw with
 |false =>
  simp only [Bool.false_eq_true,if_false]at h;refine wp_region ?_;refine Ab bA ck eb h (r.bump _) List.nodup_range (fun j aW=>mT j (List.mem_range.1 aW)) fun bD aL aZ aa ae aS=>ap bD aL aZ aa ae ?_
  simp only at aS;omega
 |true =>
  simp only [if_true]at h;split at h
  ·rename_i ri;refine wp_region_any cX ?_;refine F0 bA ck eb ri h (r.bump _).drew mT fun bD aL aZ aa ae aS=>ap bD aL aZ aa ae ?_
   simp only at aS;omega
  ·cases h
def ow(P:Program)(c:Code)(Q:Exit→Act→World→Prop)(a:Act)(w:World):Prop :=
 ∀(b:Frame)(k:List Item)(cs:List Frame),∃e bD aL,Q e bD aL∧Arrives P (lone (b.at a (.code c:: .inLoop c::k)) cs w) b k cs e bD aL
theorem Ay{c:Code}{Q:Exit→Act→World→Prop}{a:Act}{w:World}(h:ow P c Q a w):(Code.loop c).wp P Q a w:=fun b k cs =>
 let ⟨e,bD,aL,q,r⟩:=h b k cs;⟨e,bD,aL,q,.of_steps (.one step_loop) r⟩
theorem wV{c:Code}{Q:Exit→Act→World→Prop}{a:Act}{w:World}(h:c.wp P (Exit.then (ow P c Q) Q) a w):ow P c Q a w:=by
 intro b k cs;obtain⟨e,jD,jE,av,iz⟩:=h b (.inLoop c::k) cs;cases e with
 |normal =>
  obtain⟨wW,wX,wY,wZ,w0⟩:=av b k cs;exact⟨wW,wX,wY,wZ,.of_steps (Steps.trans iz (.one step_inLoop)) w0⟩
 |exit id=>exact⟨_,jD,jE,av,.pass (x:= .inLoop c) rfl (fun _ _=> .inl a1) iz⟩
 |goto l=>exact⟨_,jD,jE,av,.pass (x:= .inLoop c) rfl (fun _ _=> .inl a1) iz⟩
 |ret=>exact⟨_,jD,jE,av,.pass (x:= .inLoop c) rfl (fun _ _=> .inl a1) iz⟩
 |panic Az=>exact⟨_,jD,jE,av,.pass (x:= .inLoop c) rfl (fun _ _=> .inl a1) iz⟩
 |outgrown=>exact⟨_,jD,jE,av,.pass (x:= .inLoop c) rfl (fun _ _=> .inl a1) iz⟩
def pC(P:Program)(body c:Code)(Q:Exit→Act→World→Prop)(a:Act)(w:World):Prop :=
 ∀(b:Frame)(k:List Item)(cs:List Frame),∃e bD aL,Q e bD aL∧Arrives P (lone (b.at a (.code c:: .inScope body::k)) cs w) b k cs e bD aL
theorem AA{c:Code}{Q:Exit→Act→World→Prop}{a:Act}{w:World}(h:pC P c c Q a w):(Code.scope c).wp P Q a w:=fun b k cs =>
 let ⟨e,bD,aL,q,r⟩:=h b k cs;⟨e,bD,aL,q,.of_steps (.one step_scope) r⟩
def mY(P:Program)(body:Code)(Q:Exit→Act→World→Prop):Exit→Act→World→Prop
 |.goto l,a,w =>
  match findLabel body l with
  |some rest=>pC P body rest Q a w
  |none=>Q (.goto l) a w
 |e,a,w=>Q e a w
theorem td{body c:Code}{Q:Exit→Act→World→Prop}{a:Act}{w:World}(h:c.wp P (mY P body Q) a w):pC P body c Q a w:=by
 intro b k cs;obtain⟨e,jD,jE,av,iz⟩:=h b (.inScope body::k) cs;cases e with
 |normal=>exact⟨.normal,jD,jE,av,Steps.trans iz (.one step_inScope)⟩
 |exit id=>exact⟨.exit id,jD,jE,av,fun dS ap=>iz dS (by simp [exitTo,ap])⟩
 |goto l =>
  simp only [mY]at av;cases aM:findLabel body l with
  |some rest =>
   rw [aM]at av;obtain⟨wW,wX,wY,wZ,w0⟩:=av b k cs;exact⟨wW,wX,wY,wZ,.of_steps (iz _ (by simp [gotoIn,aM])) w0⟩
  |none =>
   rw [aM]at av;exact⟨.goto l,jD,jE,av,fun dS ap=>iz dS (by simp [gotoIn,aM,ap])⟩
 |ret=>exact⟨.ret,jD,jE,av,iz⟩
 |panic Az=>exact⟨.panic Az,jD,jE,av,iz⟩
 |outgrown=>exact⟨.outgrown,jD,jE,av,iz⟩
def rk(P:Program)(E:bq)(aF:Nat→Prop)(aN:World)(s aX:dl)(e:ch)(a:Act)(w:World)(lZ:(Exit→Act→World→Prop)→Prop):Prop :=
 ∀{φ:Map}{Q:Exit→Act→World→Prop},eL φ aF aN s a w→(∀bD aL aZ,dr φ aZ s.heap.U→eL aZ aF aN aX bD aL→s.heap.U≤aX.heap.U→Q (rj e) bD aL)→lZ Q
theorem F2(bA:e7 P E){aF:Nat→Prop}{aN:World}(ck:dq aF aN.heap.size){call:cu}(eb:j7 P aF aN call)(cX:P.follows .mixedOrders=true):∀(n:Nat),
 (∀{c:Code}{s aX:dl}{e:ch}{a:Act}{w:World},da E call n none c s=some (e,aX)→rk P E aF aN s aX e a w fun Q=>c.wp P Q a w) ∧
 (∀{c:Code}{s aX:dl}{e:ch}{a:Act}{w:World},da E call n none (.loop c) s=some (e,aX)→rk P E aF aN s aX e a w fun Q=>ow P c Q a w) ∧
 (∀{b c:Code}{s aX:dl}{e:ch}{a:Act}{w:World},da E call n (some b) c s=some (e,aX)→rk P E aF aN s aX e a w fun Q=>pC P b c Q a w):=by
 intro n;induction n with
 |zero=>refine⟨?_,?_,?_⟩<;>(intros;simp_all [da])
 |succ n ih =>
  obtain⟨ox,w1,AB⟩:=ih
  have AC:∀{c:Code}{s aX:dl}{e:ch}{a:Act}{w:World},da E call (n+1) none (.loop c) s=some (e,aX)→rk P E aF aN s aX e a w fun Q=>ow P c Q a w:=by
   intro c s aX e a w h φ Q r ap;simp only [da]at h;refine wV ?_;cases aa:da E call n none c s with
   |none=>simp [aa]at h
   |some p =>
    obtain⟨bk,s1⟩:=p;rw [aa]at h;refine ox aa r fun bD aL aZ g1 g2 g3=> ?_
    cases bk with
    |normal =>
     simp only at h;show ow P c Q bD aL;exact w1 h g2 fun oj jz ol a7 ba cC=>ap oj jz ol (g1.trans (a7.mono g3)) ba J
    |exit id=>simp at h;obtain⟨rfl,rfl⟩:=h;exact ap bD aL aZ g1 g2 g3
    |goto id=>simp at h;obtain⟨rfl,rfl⟩:=h;exact ap bD aL aZ g1 g2 g3
    |ret=>simp at h;obtain⟨rfl,rfl⟩:=h;exact ap bD aL aZ g1 g2 g3
  have F3:∀{b c:Code}{s aX:dl}{e:ch}{a:Act}{w:World},da E call (n+1) (some b) c s=some (e,aX)→rk P E aF aN s aX e a w fun Q=>pC P b c Q a w:=by
   intro b c s aX e a w h φ Q r ap;simp only [da]at h;refine td ?_;cases aa:da E call n none c s with
   |none=>simp [aa]at h
   |some p =>
    obtain⟨bk,s1⟩:=p;rw [aa]at h;refine ox aa r fun bD aL aZ g1 g2 g3=> ?_
    cases bk with
    |normal=>simp at h;obtain⟨rfl,rfl⟩:=h;exact ap bD aL aZ g1 g2 g3
    |exit id=>simp at h;obtain⟨rfl,rfl⟩:=h;exact ap bD aL aZ g1 g2 g3
    |goto l =>
     simp only at h;show mY P b Q (.goto l) bD aL;simp only [mY];cases aM:findLabel b l with
     |some rest =>
      rw [aM]at h;exact AB h g2 fun oj jz ol a7 ba cC=>ap oj jz ol (g1.trans (a7.mono g3)) ba J
     |none =>
      rw [aM]at h;simp at h;obtain⟨rfl,rfl⟩:=h;exact ap bD aL aZ g1 g2 g3
    |ret=>simp at h;obtain⟨rfl,rfl⟩:=h;exact ap bD aL aZ g1 g2 g3
  refine⟨?_,AC,F3⟩;intro c s aX e a w h φ Q r ap;cases c with
  |skip=>simp [da]at h;obtain⟨rfl,rfl⟩:=h;exact wp_skip (ap a w φ (dr.refl _ _) r (Nat.le_refl _))
  |label l=>simp [da]at h;obtain⟨rfl,rfl⟩:=h;exact wp_label (ap a w φ (dr.refl _ _) r (Nat.le_refl _))
  |region id ops draw =>
   simp only [da,Option.map_eq_some_iff,Prod.mk.injEq]at h;obtain⟨s1,aa,rfl,rfl⟩:=h;exact Ax bA ck eb cX r aa ap
  |seq x y =>
   simp only [da]at h;refine wp_seq ?_;cases aa:da E call n none x s with
   |none=>simp [aa]at h
   |some p =>
    obtain⟨bk,s1⟩:=p;rw [aa]at h;refine ox aa r fun bD aL aZ g1 g2 g3=> ?_
    cases bk with
    |normal =>
     simp only at h;show y.wp P Q bD aL;exact ox h g2 fun oj jz ol a7 ba cC=>ap oj jz ol (g1.trans (a7.mono g3)) ba J
    |exit id=>simp at h;obtain⟨rfl,rfl⟩:=h;exact ap bD aL aZ g1 g2 g3
    |goto id=>simp at h;obtain⟨rfl,rfl⟩:=h;exact ap bD aL aZ g1 g2 g3
    |ret=>simp at h;obtain⟨rfl,rfl⟩:=h;exact ap bD aL aZ g1 g2 g3
  |cond x y z =>
   simp only [da]at h;have ac:=r.eval x;split at h
   ·rename_i an;rw [an]at ac;simp only [ar]at ac;exact wp_cond_true ac (ox h r ap)
   ·rename_i an;rw [an]at ac;simp only [ar]at ac;exact wp_cond_false ac (ox h r ap)
   ·cases h
  |block id c =>
   simp only [da]at h;refine wp_block ?_;cases aa:da E call n none c s with
   |none=>simp [aa]at h
   |some p =>
    obtain⟨bk,s1⟩:=p;rw [aa]at h;refine ox aa r fun bD aL aZ g1 g2 g3=> ?_
    cases bk with
    |normal=>simp at h;obtain⟨rfl,rfl⟩:=h;exact ap bD aL aZ g1 g2 g3
    |exit j =>
     simp at h;obtain⟨rfl,rfl⟩:=h;simp only [rj,Exit.inBlock];by_cases aW:j=id
     ·rw [if_pos aW]at ap⊢; exact ap bD aL aZ g1 g2 g3
     ·rw [if_neg aW]at ap⊢; exact ap bD aL aZ g1 g2 g3
    |goto l=>simp at h;obtain⟨rfl,rfl⟩:=h;exact ap bD aL aZ g1 g2 g3
    |ret=>simp at h;obtain⟨rfl,rfl⟩:=h;exact ap bD aL aZ g1 g2 g3
  |loop c=>exact Ay (AC h r ap)
  |scope c =>
   simp only [da]at h;exact AA (AB h r ap)
  |goto l=>simp [da]at h;obtain⟨rfl,rfl⟩:=h;exact wp_goto (ap a w φ (dr.refl _ _) r (Nat.le_refl _))
  |exit id=>simp [da]at h;obtain⟨rfl,rfl⟩:=h;exact wp_exit (ap a w φ (dr.refl _ _) r (Nat.le_refl _))
  |ret=>simp [da]at h;obtain⟨rfl,rfl⟩:=h;exact wp_ret (ap a w φ (dr.refl _ _) r (Nat.le_refl _))
  |rangeFunc f ps x y=>simp [da]at h
  |refuse w=>simp [da]at h
theorem w2(bt:E.D.dM P){aF:Nat→Prop}{aN w:World}{s:dl}{a:Act}(r:eL φ aF aN s a w):∀{gC:List ResultVar}{l:List R},gB E.D gC s=some l →
 ∃vs,(gC.mapM (fun(x:ResultVar)=>(match x with|.tmp t=>pure (a.tmps.getD t undef)|.cell b t=>do loadVar t (←asAddr (a.tmps.getD b undef)):Sem Value))).run P w=.ok vs w∧aT φ l vs
 |[],l,h=>by simp [gB]at h;subst h;exact⟨[],rfl,by simp [aT]⟩
 |.tmp t::gC,l,h=>by
  simp only [gB,Option.map_eq_some_iff]at h;obtain⟨m,aa,rfl⟩:=h;obtain⟨vs,a7,ba⟩:=w2 bt r aa;refine⟨a.tmps.getD t undef::vs,?_,?_⟩
  ·simp only [List.mapM_cons,Sem.run_bind,Sem.run_pure,Result.andThen_ok,a7]
  ·simp only [aT];exact⟨_,_,rfl,r.c'.wx t,ba⟩
 |.cell b t::gC,l,h=>by
  simp only [gB]at h;split at h
  ·rename_i p ab;split at h
   ·rename_i v m aa ae;simp at h;subst h;obtain⟨vs,a7,ba⟩:=w2 bt r ae;have an:=r.c'.wx b;rw [ab]at an;obtain⟨aK,g1,g2⟩:=zq bt r.heap an aa;simp only [ar]at an;obtain⟨dG,AD,kQ⟩:=an;rw [AD]at g1;simp only [Instr.loadAt,Instr.sureAddr,Sem.run_bind,Sem.run_pure,Result.andThen_ok]at g1;refine⟨aK::vs,?_,?_⟩
    ·have dD:(asAddr (a.tmps.getD b undef)).run P w=.ok dG w:=by rw [AD];rfl
     simp only [List.mapM_cons,Sem.run_bind,dD,Sem.run_pure,Result.andThen_ok,g1,a7]
    ·simp only [aT];exact⟨_,_,rfl,g2,ba⟩
   ·cases h
  ·cases h
theorem AE(bt:E.D.dM P){aF:Nat→Prop}{aN w:World}{s:dl}{a:Act}(r:eL φ aF aN s a w){fn:Func}{l:List R}(h:gB E.D fn.results.toList s=some l) :
 ∃aK,(results fn a.tmps).run P w=.ok aK w∧ar φ (jt l) aK:=by
 obtain⟨vs,aa,ae⟩:=w2 bt r h
 have hm:(fn.results.mapM (fun(x:ResultVar)=>(match x with|.tmp t=>pure (a.tmps.getD t undef)|.cell b t=>do loadVar t (←asAddr (a.tmps.getD b undef)):Sem Value))).run P w=.ok vs.toArray w:=by rw [←Array.toArray_toList (xs:=fn.results)];simp only [List.mapM_toArray,Sem.run_map,aa,Result.andThen_ok]
 have hlen:=ae.length;by_cases w3:l.length=1
 ·obtain⟨x,rfl⟩:=List.length_eq_one_iff.1 w3;obtain⟨y,rfl⟩:=List.length_eq_one_iff.1 (by rw [hlen,w3]);refine⟨y,?_,?_⟩
  ·unfold results;rw [Sem.run_bind]
   erw [hm]
   rfl
  ·simp only [aT]at ae;obtain⟨v,t,e,aS,bj⟩:=ae;simp at e;obtain⟨rfl,rfl⟩:=e;exact aS
 ·refine⟨.tuple vs.toArray,?_,?_⟩
  ·unfold results;rw [Sem.run_bind]
   erw [hm]
   simp only [Result.andThen_ok,Sem.run_pure];rw [dif_neg (by simp;omega)]
  ·have:jt l=.tuple l:=by
    unfold jt;split
    ·simp at w3
    ·rfl
   rw [this];simp only [ar];exact⟨_,rfl,by simpa using ae⟩
theorem F4(bA:e7 P E){aF:Nat→Prop}{aN:World}(ck:dq aF aN.heap.size)(ef:E.cond aF aN)(cX:P.follows .mixedOrders=true):∀n,j7 P aF aN (iU P E n):=by
 intro n;induction n with
 |zero=>intro f args h v af al;simp [iU]at al
 |succ n ih =>
  intro f args h v af al φ w cx dt b' dD;simp only [iU]at al;split at al
  ·rename_i g ah;exact bA.zR f g ah aF aN ck ef args h v af al φ w cx dt b' dD
  ·rename_i h1;split at al
   ·rename_i fn nP;split at al
    ·rename_i c sZ;refine⟨⟨fn,c,nP,sZ⟩,?_⟩;refine calls_of_wp nP sZ ?_;have hlen:cx.size=args.length:=by have:=dD.length;rwa [Array.length_toList]at this
     have r:eL φ aF aN ⟨args++List.replicate (fn.ntmps-args.length) ek,h⟩ {tmps:=cx++Array.replicate (fn.ntmps-cx.size) undef,defers:=[]} w:=by refine⟨?_,dt,b',rfl⟩;simp only [Array.toList_append,Array.toList_replicate,hlen];exact dD.append (aT.replicate (ar.ek φ) _)
     cases ac:da E (iU P E n) n none c ⟨args++List.replicate (fn.ntmps-args.length) ek,h⟩with
     |none=>simp [ac]at al
     |some p =>
      obtain⟨e,s⟩:=p;rw [ac]at al
      have fin:∀bD aL aZ,dr φ aZ h.U→eL aZ aF aN s bD aL→h.U≤s.heap.U→ ∀{l},gB E.D fn.results.toList s=some l→v=jt l→af=s.heap →
       bD.defers=[]∧∃AF,(results fn bD.tmps).run P aL=.ok AF aL∧∃aK aZ,Ending.returned AF=.returned aK∧dr φ aZ h.U∧ar aZ v aK∧bP aZ aF af aL∧Safe aF aN aL∧h.U≤af.U:=by
       intro bD aL aZ g1 g2 g3 l ay bg bx;subst bg bx;obtain⟨aK,a7,ba⟩:=AE bA.fp g2 ay;exact⟨g2.defers,aK,a7,aK,aZ,rfl,g1,ba,g2.heap,g2.below,g3⟩
      refine(F2 bA ck ih cX n).1 ac r fun bD aL aZ g1 g2 g3=> ?_
      cases e with
      |normal =>
       simp only [Option.map_eq_some_iff,Prod.mk.injEq]at al;obtain⟨l,ay,aa,ae⟩:=al;exact fin bD aL aZ g1 g2 g3 ay aa.symm ae.symm
      |ret =>
       simp only [Option.map_eq_some_iff,Prod.mk.injEq]at al;obtain⟨l,ay,aa,ae⟩:=al;exact fin bD aL aZ g1 g2 g3 ay aa.symm ae.symm
      |exit id=>simp at al
      |goto id=>simp at al
    ·cases al
   ·cases al
end
end
end Go.bh
namespace Go.bh
noncomputable section
open Go.RowKit
section
variable {P:Program}{E:bq}
def te:Option (R×I)→Bool
 |some (.bool true,_)=>true
 |_=>false
theorem F5{r:Option (R×I)}(h:te r=true):∃af,r=some (.bool true,af):=by
 unfold te at h;split at h
 ·exact⟨_,rfl⟩
 ·cases h
def F6:Map:=fun _ _=>none
theorem bP.empty(aF:Nat→Prop)(w:World)(n:Nat):bP F6 aF ⟨n,.nil⟩ w where
 b6 i v p h:=by cases h
 apart i v p j u q h:=by cases h
 same i v p u q h:=by cases h
theorem ci.F7(P:Program):ci.dM (sp P) P:=fun _ _ h=>h
theorem F8{P:Program}(h:(P.funcs.toList.all fun fn=> !(fn.name == "runtime.NumGoroutine"))=true):∀(f:Nat) fn,P.funcs[f]? =some fn→(fn.name == "runtime.NumGoroutine")=false:=by
 intro f fn aM
 have hm:fn∈P.funcs.toList:=by rw [←Array.getElem?_toList]at aM;exact List.mem_of_getElem? aM
 have:=List.all_eq_true.1 h fn hm;simpa using this
theorem F9{P:Program}{E:bq}(h:(E.eqs.all fun t=>vq P t)=true):∀t,E.fa t=true→mI P t:=by intro t bz;exact List.all_eq_true.1 h t (by simpa [bq.fa]using bz)
end
end
end Go.bh
namespace Go.bh
noncomputable section
open Go.RowKit
def di.be(r:Nat→Nat)(a:di):di:= {a with id:=r a.id}
mutual
def R.be(r:Nat→Nat):R→R
 |.ptr (some a)=> .ptr (some (a.be r))
 |.slice (some a) n c=> .slice (some (a.be r)) n c
 |.func fn f c=> .func fn (R.fN r f) (R.fN r c)
 |.iface t v=> .iface t (R.be r v)
 |.agg cs=> .agg (R.fN r cs)
 |.tuple vs=> .tuple (R.fN r vs)
 |.undef=> .undef
 |.bool b=> .bool b
 |.int k n=> .int k n
 |.str s=> .str s
 |.ptr none=> .ptr none
 |.slice none n c=> .slice none n c
 |.nilFunc=> .nilFunc
 |.nilIface=> .nilIface
def R.fN(r:Nat→Nat):List R→List R
 |[]=> []
 |a::l=>R.be r a::R.fN r l
end
theorem R.w4(r:Nat→Nat):∀(l:List R),R.fN r l=l.map (R.be r)
 |[]=>rfl
 |a::l=>by simp [R.fN,R.w4 r l]
mutual
def bH(D:Nat→Prop):R→Prop
 |.ptr (some a)=>D a.id
 |.slice (some a) _ _=>D a.id
 |.func _ f c=>ec D f∧ec D c
 |.iface _ v=>bH D v
 |.agg cs=>ec D cs
 |.tuple vs=>ec D vs
 |.undef=>True
 |.bool _=>True
 |.int _ _=>True
 |.str _=>True
 |.ptr none=>True
 |.slice none _ _=>True
 |.nilFunc=>True
 |.nilIface=>True
def ec(D:Nat→Prop):List R→Prop
 |[]=>True
 |a::l=>bH D a∧ec D l
end
theorem rl{D:Nat→Prop} :∀{l:List R},ec D l↔ ∀a∈l,bH D a
 |[]=>by simp [ec]
 |a::l=>by simp [ec,rl (l:=l)]
mutual
theorem ar.be{φ bO:Map}{r:Nat→Nat}(h:∀i v p,φ i v=some p→bO (r i) v=some p):∀{a:R}{v:Value},ar φ a v→ar bO (a.be r) v
 |.undef,_,_=>by simp [ar,R.be]
 |.bool b,v,k=>by simpa [ar,R.be]using k
 |.int _ n,v,k=>by simpa [ar,R.be]using k
 |.str s,v,k=>by simpa [ar,R.be]using k
 |.ptr none,v,k=>by simpa [ar,R.be]using k
 |.ptr (some a),v,k=>by simp only [ar,R.be]at k⊢;obtain⟨x,e,p,ab,q⟩:=k;exact⟨x,e,p,h _ _ _ ab,q⟩
 |.slice none len cap,v,k=>by simpa [ar,R.be]using k
 |.slice (some a) len cap,v,k=>by
  simp only [ar,R.be]at k⊢;obtain⟨x,c,e,dv,eE,q⟩:=k;refine⟨x,c,e,dv,eE,?_⟩;rcases q with ⟨aM,p,ab,q⟩|⟨f,aM,p,ab,q⟩
  ·exact .inl ⟨aM,p,h _ _ _ ab,q⟩
  ·exact .inr ⟨f,aM,p,h _ _ _ ab,q⟩
 |.func fn f c,v,k=>by simp only [ar,R.be]at k⊢;obtain⟨ew,dm,e,dY,eH⟩:=k;exact⟨ew,dm,e,aT.be h dY,aT.be h eH⟩
 |.nilFunc,v,k=>by simpa [ar,R.be]using k
 |.iface t a,v,k=>by simp only [ar,R.be]at k⊢;obtain⟨x,e,q⟩:=k;exact⟨x,e,ar.be h q⟩
 |.nilIface,v,k=>by simpa [ar,R.be]using k
 |.agg cs,v,k=>by simp only [ar,R.be]at k⊢;obtain⟨x,e,q⟩:=k;exact⟨x,e,aT.be h q⟩
 |.tuple cs,v,k=>by simp only [ar,R.be]at k⊢;obtain⟨x,e,q⟩:=k;exact⟨x,e,aT.be h q⟩
theorem aT.be{φ bO:Map}{r:Nat→Nat}(h:∀i v p,φ i v=some p→bO (r i) v=some p):∀{l:List R}{t:List Value},aT φ l t→aT bO (R.fN r l) t
 |[],t,k=>by simpa [aT,R.fN]using k
 |a::l,t,k=>by simp only [aT,R.fN]at k⊢;obtain⟨v,dw,e,a7,ba⟩:=k;exact⟨v,dw,e,ar.be h a7,aT.be h ba⟩
end
mutual
theorem ar.iA{φ bO:Map}{r:Nat→Nat}{D:Nat→Prop}(h:∀i,D i→ ∀v p,bO (r i) v=some p→φ i v=some p):∀{a:R}{v:Value},bH D a→ar bO (a.be r) v→ar φ a v
 |.undef,_,_,_=>by simp [ar]
 |.bool b,v,_,k=>by simpa [ar,R.be]using k
 |.int _ n,v,_,k=>by simpa [ar,R.be]using k
 |.str s,v,_,k=>by simpa [ar,R.be]using k
 |.ptr none,v,_,k=>by simpa [ar,R.be]using k
 |.ptr (some a),v,c,k=>by simp only [ar,R.be,bH]at k c⊢;obtain⟨x,e,p,ab,q⟩:=k;exact⟨x,e,p,h _ c _ _ ab,q⟩
 |.slice none len cap,v,_,k=>by simpa [ar,R.be]using k
 |.slice (some a) len cap,v,hI,k=>by
  simp only [ar,R.be,bH]at k hI⊢;obtain⟨x,c,e,dv,eE,q⟩:=k;refine⟨x,c,e,dv,eE,?_⟩;rcases q with ⟨aM,p,ab,q⟩|⟨f,aM,p,ab,q⟩
  ·exact .inl ⟨aM,p,h _ hI _ _ ab,q⟩
  ·exact .inr ⟨f,aM,p,h _ hI _ _ ab,q⟩
 |.func fn f c,v,hI,k=>by simp only [ar,R.be,bH]at k hI⊢;obtain⟨ew,dm,e,dY,eH⟩:=k;exact⟨ew,dm,e,aT.iA h hI.1 dY,aT.iA h hI.2 eH⟩
 |.nilFunc,v,_,k=>by simpa [ar,R.be]using k
 |.iface t a,v,hI,k=>by simp only [ar,R.be,bH]at k hI⊢;obtain⟨x,e,q⟩:=k;exact⟨x,e,ar.iA h hI q⟩
 |.nilIface,v,_,k=>by simpa [ar,R.be]using k
 |.agg cs,v,hI,k=>by simp only [ar,R.be,bH]at k hI⊢;obtain⟨x,e,q⟩:=k;exact⟨x,e,aT.iA h hI q⟩
 |.tuple cs,v,hI,k=>by simp only [ar,R.be,bH]at k hI⊢;obtain⟨x,e,q⟩:=k;exact⟨x,e,aT.iA h hI q⟩
theorem aT.iA{φ bO:Map}{r:Nat→Nat}{D:Nat→Prop}(h:∀i,D i→ ∀v p,bO (r i) v=some p→φ i v=some p):∀{l:List R}{t:List Value},ec D l→aT bO (R.fN r l) t→aT φ l t
 |[],t,_,k=>by simpa [aT,R.fN]using k
 |a::l,t,c,k=>by simp only [aT,R.fN,ec]at k c⊢;obtain⟨v,dw,e,a7,ba⟩:=k;exact⟨v,dw,e,ar.iA h c.1 a7,aT.iA h c.2 ba⟩
end
def ai.be(r:Nat→Nat)(b:ai):ai:= {b with bc:=b.bc.map (R.be r)}
theorem ai.AG(r:Nat→Nat)(b:ai)(v:Nat):(b.be r).bL v=b.bL v:=by show(if v=b.bf then(b.bc.map (R.be r)).length else if b.hY≤v∧v<b.bf then b.lD else 0)=b.bL v;rw [List.length_map];rfl
theorem R.tf(r:Nat→Nat)(e:R):(e.be r).cells=e.cells.map (R.be r):=by
 cases e with
 |ptr o=>cases o<;>simp [R.be,R.cells]
 |slice o n c=>cases o<;>simp [R.be,R.cells]
 |agg l=>simp [R.be,R.cells,R.w4]
 |_=>simp [R.be,R.cells]
theorem Row.be{φ bO:Map}{r:Nat→Nat}(h:∀i v p,φ i v=some p→bO (r i) v=some p){S T:Nat→Prop}{b:ai}{v:Nat}{p:Place}{w:World}(k:Row φ S b v p w)(rm:p.ro=false→ ¬T p.br):Row bO T (b.be r) v p w where
 br:=k.br
 base:=rm
 cells:=k.cells
 free:=k.free
 mark:=k.mark
 gD:=k.gD
 cont i e aa ae aS:=by rw [ai.AG]at ae;simp only [ai.be,List.getElem?_map,Option.map_eq_some_iff]at aS;obtain⟨e0,aS,rfl⟩:=aS;obtain⟨a7,ba,cC⟩:=k.cont i e0 aa ae aS;refine⟨by rw [R.tf,List.length_map];exact a7,ba,fun j a8 ac=> ?_⟩;rw [R.tf,List.getElem?_map,Option.map_eq_some_iff]at ac;obtain⟨F',ac,rfl⟩:=ac;obtain⟨x,g1,g2,g3⟩:=cC j F' ac;exact⟨x,g1,ar.be h g2,g3⟩
theorem bH.cells{D:Nat→Prop}{e:R}(h:bH D e):∀x∈e.cells,bH D x:=by
 intro x ac;cases e with
 |agg l=>simp only [bH]at h;exact rl.1 h x (by simpa [R.cells]using ac)
 |ptr o=>cases o<;>(simp only [R.cells,List.mem_singleton]at ac;subst ac;exact h)
 |slice o n c=>cases o<;>(simp only [R.cells,List.mem_singleton]at ac;subst ac;exact h)
 |_=>simp only [R.cells,List.mem_singleton]at ac;subst ac;exact h
theorem Row.iA{φ bO:Map}{r:Nat→Nat}{D:Nat→Prop}(h:∀i,D i→ ∀v p,bO (r i) v=some p→φ i v=some p){S T:Nat→Prop}{b:ai}{v:Nat}{p:Place}{w:World}(al:∀e∈b.bc,bH D e)(k:Row bO S (b.be r) v p w)
 (rm:p.ro=false→ ¬T p.br):Row φ T b v p w where
 br:=k.br
 base:=rm
 cells:=k.cells
 free:=k.free
 mark:=k.mark
 gD:=k.gD
 cont i e aa ae aS:=by
  have w5:(b.be r).bc[i]? =some (e.be r):=by simp [ai.be,aS]
  obtain⟨a7,ba,cC⟩:=k.cont i (e.be r) aa (by rw [ai.AG];exact ae) w5;rw [R.tf,List.length_map]at a7;refine⟨a7,ba,fun j a8 ac=> ?_⟩;obtain⟨x,g1,g2,g3⟩:=cC j (a8.be r) (by rw [R.tf,List.getElem?_map,ac];rfl);exact⟨x,g1,ar.iA h ((al e (List.mem_of_getElem? aS)).cells a8 (List.mem_of_getElem? ac)) g2,g3⟩
theorem Row.at{φ bO:Map}(h:φ.le bO){S:Nat→Prop}{b:ai}{v:Nat}{p:Place}{w aL:World}(k:Row φ S b v p w)(hs:w.heap.size≤aL.heap.size)(an:aL.heap[p.br]? =w.heap[p.br]?):Row bO S b v p aL where
 br:=Nat.lt_of_lt_of_le k.br hs
 base:=k.base
 cells o aj:=by have:=k.cells o aj;simp only [World.cell?,an]at this⊢; exact this
 free aR o aj:=by have:=k.free aR o aj;simp only [World.frozen?,an]at this⊢; exact this
 mark aR:=(k.mark aR).of_eq (n0 an)
 gD t bz:=by rw [n0 an];exact k.gD t bz
 cont i e aa ae aS:=by obtain⟨a7,ba,cC⟩:=k.cont i e aa ae aS;refine⟨a7,ba,fun j a8 ac=> ?_⟩;obtain⟨x,g1,g2,g3⟩:=cC j a8 ac;refine⟨x,?_,ar.mono h g2,g3⟩;simp only [World.cell?,Place.at,an]at g1⊢; exact g1
def In(h:I)(i:Nat):Prop:=(h.get i).isSome=true
structure tg(r:Nat→Nat)(h H:I):Prop where
 get:∀i b,h.get i=some b→i<h.U∧H.get (r i)=some (b.be r)
 inj:∀i j,In h i→In h j→r i=r j→i=j
 ha:∀i b,h.get i=some b→ ∀e∈b.bc,bH (In h) e
open Classical in
def f'(bO:Map)(r:Nat→Nat)(h:I):Map:=fun i v=>if In h i then bO (r i) v else none
theorem iB{bO:Map}{r:Nat→Nat}{h:I}{i v:Nat}{p:Place}(k:f' bO r h i v=some p):In h i∧bO (r i) v=some p:=by
 unfold f' at k;split at k
 ·rename_i ag;exact⟨ag,k⟩
 ·cases k
theorem l0{bO:Map}{r:Nat→Nat}{h:I}{i v:Nat}(ag:In h i):f' bO r h i v=bO (r i) v:=by unfold f';rw [if_pos ag]
theorem bP.f'{bO:Map}{S T:Nat→Prop}{H h:I}{w:World}{r:Nat→Nat}(k:bP bO S H w)(hw:tg r h H)(rm:∀i v p,f' bO r h i v=some p→p.ro=false→ ¬T p.br):bP (f' bO r h) T h w where
 b6 i v p ab:=by obtain⟨ag,av⟩:=iB ab;obtain⟨b,an⟩:=Option.isSome_iff_exists.1 ag;obtain⟨aa,ae⟩:=hw.get i b an;obtain⟨a7,B,ba,cC,eK,fJ,jx,wv,qX⟩:=k.b6 _ _ _ av;rw [ae]at ba;simp only [Option.some.injEq]at ba;subst ba;exact⟨aa,b,an,cC,eK,fJ,jx,wv,qX.iA (fun i ag v p ab=>by rw [l0 ag];exact ab) (hw.ha i b an) (rm i v p ab)⟩
 apart i v p j u q ab av an bJ:=by obtain⟨ag,c6⟩:=iB ab;obtain⟨aW,cJ⟩:=iB av;exact k.apart _ _ _ _ _ _ c6 cJ an fun e=>bJ (hw.inj i j ag aW e)
 same i v p u q ab av an:=by obtain⟨ag,c6⟩:=iB ab;obtain⟨_,cJ⟩:=iB av;exact k.same _ _ _ _ _ c6 cJ an
class jd (C:(Nat→Prop)→World→Prop):Prop where
 mono:∀{aF rn:Nat→Prop}{aN w:World},dq aF aN.heap.size→C aF aN→Safe aF aN w→(∀x,aF x→rn x)→C rn w
def bn(P:Program)(C:(Nat→Prop)→World→Prop)(f:FuncId)(args:List R)(h:I)(v:R)(af:I):Prop :=
 ∀(aF:Nat→Prop)(aN:World),dq aF aN.heap.size→C aF aN→ ∀(φ:Map)(w:World)(cx:Array Value),bP φ aF h w→Safe aF aN w→aT φ args cx.toList →
  (∃fn c,P.funcs[f]? =some fn∧fn.body=some c) ∧
  Calls P f cx w fun e aL=> ∃aK aZ,e=.returned aK∧dr φ aZ h.U∧ar aZ v aK∧bP aZ aF af aL∧Safe aF aN aL∧h.U≤af.U
theorem bn.Ga{P:Program}{C:(Nat→Prop)→World→Prop}{f:FuncId}{g:st}(k:wk P C f g){args:List R}{h af:I}{v:R}(ah:g args h=some (v,af)):bn P C f args h v af :=
 fun aF aN ck ef φ w cx dt b' dD=>k aF aN ck ef args h v af ah φ w cx dt b' dD
theorem bn.mZ{P:Program}{E:bq}(bA:e7 P E)(cX:P.follows .mixedOrders=true){n:Nat}{f:FuncId}{args:List R}{h af:I}{v:R}(al:iU P E n f args h=some (v,af)):bn P E.cond f args h v af :=
 fun aF aN ck ef φ w cx dt b' dD=>F4 bA ck ef cX n f args h v af al φ w cx dt b' dD
open Classical in
def push(bO aZ:Map)(r:Nat→Nat):Map:=fun j u=>if k:∃i p,r i=j∧aZ i u=some p then aZ k.choose u else bO j u
theorem bn.frame{P:Program}{C:(Nat→Prop)→World→Prop}[Gb:jd C]{f:FuncId}{args:List R}{h af:I}{v:R}(k:bn P C f args h v af){r:Nat→Nat}{H aH:I}(hw:tg r h H)(fk:ec (In h) args)
 (dT:∀i,h.U≤i→r i=H.U+(i-h.U)) (fo:∀i b,af.get i=some b→(In h i∨h.U≤i)→aH.get (r i)=some (b.be r)) (w6:aH.U=H.U+(af.U-h.U))
 (j8:∀j,j<H.U→(∀i,In h i→r i≠j)→aH.get j=H.get j):bn P C f (args.map (R.be r)) H (v.be r) aH:=by
 intro S aN bF w7 bO w cx dt oy dD
 let φ:=f' bO r h
 let rp:Nat→Prop:=fun x=>S x∨(x<w.heap.size∧∀i v p,φ i v=some p→p.ro=false→p.br≠x)
 have ou:dq rp w.heap.size:=by
  rintro x (ac|ac)
  ·exact Nat.lt_of_lt_of_le (bF x ac) oy.size
  ·exact ac.1
 have Gc:∀i v p,φ i v=some p→p.ro=false→ ¬rp p.br:=by
  rintro i v p ab cT (ac|ac)
  ·obtain⟨_,av⟩:=iB ab;obtain⟨_,B,_,_,_,_,_,_,oz⟩:=dt.b6 _ _ _ av;exact oz.base cT ac
  ·exact ac.2 i v p ab cT rfl
 have Gd:bP φ rp h w:=dt.f' hw Gc
 have Ge:aT φ args cx.toList:=by rw [←R.w4]at dD;exact aT.iA (fun i ag v p ab=>by show f' bO r h i v=some p;rw [l0 ag];exact ab) fk dD
 obtain⟨an,al⟩:=k rp w ou (Gb.mono bF w7 oy fun x ac=> .inl ac) φ w cx Gd (Safe.refl _ _) Ge;refine⟨an,al.mono fun e aL ⟨aK,aZ,he,j',bg,aR,hs,aI⟩=> ?_⟩
 have oA:∀i u p,aZ i u=some p→(In h i∧r i<H.U)∨h.U≤i:=by
  intro i u p ab;by_cases ag:i<h.U
  ·by_cases fw:In h i
   ·left;refine⟨fw,?_⟩;by_cases hex:∃AH sf,φ i AH=some sf
    ·obtain⟨AH,sf,a6⟩:=hex;exact(dt.b6 _ _ _ (iB a6).2).1
    ·have:=j'.new i ag (fun u=>by
      cases av:φ i u with
      |none=>rfl
      |some q=>exact absurd ⟨u,q,av⟩ hex) u
     rw [this]at ab;cases ab
   ·have:=j'.new i ag (fun u=>by show f' bO r h i u=none;unfold bh.f';rw [if_neg fw]) u;rw [this]at ab;cases ab
  ·exact .inr J
 have AI:∀i j u t p q,aZ i u=some p→aZ j t=some q→r i=r j→i=j:=by
  intro i j u t p q ab av e;rcases oA i u p ab with ⟨ag,w8⟩|ag<;>rcases oA j t q av with ⟨aW,Nd⟩|aW
  ·exact hw.inj i j ag aW e
  ·rw [dT j aW]at e;omega
  ·rw [dT i ag]at e;omega
  ·rw [dT i ag,dT j aW]at e;omega
 have bY:∀i u p,aZ i u=some p→push bO aZ r (r i) u=some p:=by
  intro i u p ab;have hex:∃dj iC,r dj=r i∧aZ dj u=some iC:=⟨i,p,rfl,ab⟩
  unfold push;rw [dif_pos hex];obtain⟨iC,bk,bV⟩:=hex.choose_spec;rw [AI _ _ _ _ _ _ bV ab bk];exact ab
 have bU:∀j u,(¬∃i p,r i=j∧aZ i u=some p)→push bO aZ r j u=bO j u:=by intro j u hex;unfold push;rw [dif_neg hex]
 have ez:∀j u p,bO j u=some p→(¬∃i p,r i=j∧aZ i u=some p)→ ∀i,In h i→r i≠j:=by
  intro j u p ab hex i ag e;subst e;have aa:φ i u=some p:=by show f' bO r h i u=some p;rw [l0 ag];exact ab
  exact hex ⟨i,p,rfl,j'.le _ _ _ aa⟩
 have ka:(bO:Map).le (push bO aZ r):=by
  intro j u p ab;by_cases hex:∃i p,r i=j∧aZ i u=some p
  ·obtain⟨i,q,rfl,av⟩:=hex;rw [bY i u q av];rcases oA i u q av with ⟨ag,w8⟩|ag
   ·have aa:φ i u=some p:=by show f' bO r h i u=some p;rw [l0 ag];exact ab
    rw [j'.le _ _ _ aa]at av;exact av.symm
   ·have:=(dt.b6 _ _ _ ab).1;rw [dT i ag]at this;omega
  ·rw [bU j u hex];exact ab
 have mW:∀j u p,bO j u=some p→(∀i,In h i→r i≠j)→rp p.br:=by intro j u p ab bJ;obtain⟨_,B,_,_,_,_,_,_,oz⟩:=dt.b6 _ _ _ ab;refine .inr ⟨oz.br,fun i v q av cT e=> ?_⟩;obtain⟨ag,cJ⟩:=iB av;have:=(dt.apart _ _ _ _ _ _ cJ ab e (bJ i ag)).1;rw [cT]at this;cases this
 refine⟨aK,push bO aZ r,he,⟨ka,?_,?_⟩,ar.be bY bg,⟨?_,?_,?_⟩,oy.trans (hs.less fun i ag=> .inl ag),J⟩
 ·intro j aW h1 u;by_cases hex:∃i p,r i=j∧aZ i u=some p
  ·obtain⟨i,q,rfl,av⟩:=hex;rcases oA i u q av with ⟨ag,w8⟩|ag
   ·have wS:i<h.U:=by obtain⟨b,an⟩:=Option.isSome_iff_exists.1 ag;exact(hw.get i b an).1
    have:=j'.new i wS (fun u=>by show f' bO r h i u=none;rw [l0 ag];exact h1 u) u;rw [this]at av;cases av
   ·rw [dT i ag]at aW;omega
  ·rw [bU j u hex];exact h1 u
 ·intro j u p ab cT;by_cases hex:∃i p,r i=j∧aZ i u=some p
  ·obtain⟨i,q,rfl,av⟩:=hex;rw [bY i u q av]at ab;simp only [Option.some.injEq]at ab;subst ab;exact(iB (j'.ro i u q av cT)).2
  ·rw [bU j u hex]at ab;exact ab
 ·intro j u p ab;by_cases hex:∃i p,r i=j∧aZ i u=some p
  ·obtain⟨i,q,rfl,av⟩:=hex;rw [bY i u q av]at ab;simp only [Option.some.injEq]at ab;subst ab;obtain⟨d1,b,d2,d3,d4,d5,d6,d7,d8⟩:=aR.b6 _ _ _ av
   have Gf:In h i∨h.U≤i:=by
    rcases oA i u q av with ⟨ag,_⟩|ag
    ·exact .inl ag
    ·exact .inr ag
   refine⟨?_,b.be r,fo i b d2 Gf,d3,d4,d5,d6,d7,d8.be bY fun cT ac=>d8.base cT (.inl ac)⟩;rcases oA i u q av with ⟨_,w8⟩|ag
   ·omega
   ·rw [dT i ag,w6];omega
  ·rw [bU j u hex]at ab;obtain⟨d1,B,d2,d3,d4,d5,d6,d7,d8⟩:=dt.b6 _ _ _ ab;have bJ:=ez j u p ab hex;exact⟨J,B,by rw [j8 j d1 bJ];exact d2,d3,d4,d5,d6,d7,d8.at ka hs.size (hs.block _ (mW j u p ab bJ))⟩
 ·have mixed:∀i u p j t q,aZ i u=some p→bO j t=some q→(∀i,In h i→r i≠j)→p.br=q.br→p.ro=true∧q.ro=true:=by
   intro i u p j t q ab av bJ an;have ac:=mW j t q av bJ;by_cases cT:p.ro=true
   ·obtain⟨ag,c6⟩:=iB (j'.ro i u p ab cT);exact dt.apart _ _ _ _ _ _ c6 av an (bJ i ag)
   ·obtain⟨_,b,_,_,_,_,_,_,d8⟩:=aR.b6 _ _ _ ab;exact absurd (an▸ac) (d8.base (by simpa using cT))
  intro i u p j t q ab av an bJ;by_cases hex:∃dj p,r dj=i∧aZ dj u=some p<;>by_cases jF:∃dj p,r dj=j∧aZ dj t=some p
  ·obtain⟨dj,iC,rfl,c6⟩:=hex;obtain⟨eG,iv,rfl,cJ⟩:=jF;rw [bY _ _ _ c6]at ab;rw [bY _ _ _ cJ]at av;simp only [Option.some.injEq]at ab av;subst ab;subst av;exact aR.apart _ _ _ _ _ _ c6 cJ an fun e=>bJ (by rw [e])
  ·obtain⟨dj,iC,rfl,c6⟩:=hex;rw [bY _ _ _ c6]at ab;rw [bU _ _ jF]at av;simp only [Option.some.injEq]at ab;subst ab;exact mixed _ _ _ _ _ _ c6 av (ez j t q av jF) an
  ·obtain⟨eG,iv,rfl,cJ⟩:=jF;rw [bU _ _ hex]at ab;rw [bY _ _ _ cJ]at av;simp only [Option.some.injEq]at av;subst av;exact(mixed _ _ _ _ _ _ cJ ab (ez i u p ab hex) an.symm).symm
  ·rw [bU _ _ hex]at ab;rw [bU _ _ jF]at av;exact dt.apart _ _ _ _ _ _ ab av an bJ
 ·intro i u p t q ab av an
  have both:∀dj iC,r dj=i→ ∀pi,aZ dj pi=some iC→ ∀t q,push bO aZ r i t=some q→aZ dj t=some q:=by
   intro dj iC e pi c6 t q av;by_cases jF:∃eG p,r eG=i∧aZ eG t=some p
   ·obtain⟨eG,iv,bV,cJ⟩:=jF;have:=AI dj eG _ _ _ _ c6 cJ (by rw [e,bV]);subst this;rw [←bV,bY _ _ _ cJ]at av;rw [cJ];exact av
   ·rw [bU _ _ jF]at av;rcases oA dj pi iC c6 with ⟨ag,_⟩|ag
    ·exact absurd e (ez i t q av jF dj ag)
    ·have:=(dt.b6 _ _ _ av).1;rw [←e,dT dj ag]at this;omega
  by_cases hex:∃dj p,r dj=i∧aZ dj u=some p
  ·obtain⟨dj,iC,e,c6⟩:=hex;exact aR.same dj _ _ _ _ (both dj iC e u c6 u p ab) (both dj iC e u c6 t q av) an
  ·by_cases jF:∃dj p,r dj=i∧aZ dj t=some p
   ·obtain⟨dj,iC,e,c6⟩:=jF;exact aR.same dj _ _ _ _ (both dj iC e t c6 u p ab) (both dj iC e t c6 t q av) an
   ·rw [bU _ _ hex]at ab;rw [bU _ _ jF]at av;exact dt.same _ _ _ _ _ ab av an
end
end Go.bh
namespace Go.bh
noncomputable section
section
variable {β:Type}
def eN(n:Nat)(k:Nat→β):β:=Nat.rec (motive:=fun _=>β) (k 0) (fun m _=>k (Nat.succ m)) n
theorem jG(n:Nat)(k:Nat→β):eN n k=k n:=by cases n<;>rfl
def w9(n:Int)(k:Int→β):β :=
 match n with
 |.ofNat m=>eN m fun m=>k (.ofNat m)
 |.negSucc m=>eN m fun m=>k (.negSucc m)
theorem Gg(n:Int)(k:Int→β):w9 n k=k n:=by cases n<;>simp [w9,jG]
def AJ(d:IntKind)(k:IntKind→β):β :=
 match d with
 |.i8=>k .i8|.i16=>k .i16|.i32=>k .i32|.i64=>k .i64|.u8=>k .u8|.u16=>k .u16|.u32=>k .u32|.u64=>k .u64
theorem Gh(d:IntKind)(k:IntKind→β):AJ d k=k d:=by cases d<;>rfl
def pD(b:Bool)(k:Bool→β):β :=
 match b with
 |true=>k true
 |false=>k false
theorem AK(b:Bool)(k:Bool→β):pD b k=k b:=by cases b<;>rfl
def th(a:di)(k:di→β):β :=
 match a with
 |⟨a,b,c,d,e⟩=>eN a fun a=>eN b fun b=>eN c fun c=>eN d fun d=>eN e fun e=>k ⟨a,b,c,d,e⟩
theorem AL(a:di)(k:di→β):th a k=k a:=by cases a;simp [th,jG]
def w'(b:UInt8)(k:UInt8→β):β :=
 match b with
 |⟨⟨⟨n,h⟩⟩⟩=>eN n fun m=>k (UInt8.ofNat m)
theorem Gi(b:UInt8)(k:UInt8→β):w' b k=k b:=by
 obtain⟨⟨⟨n,h⟩⟩⟩:=b;simp only [w',jG]
 congr 1
 apply UInt8.toNat_inj.1;simp [UInt8.toNat,UInt8.ofNat];omega
def ti:List UInt8→(List UInt8→β)→β
 |[],k=>k []
 |b::r,k=>w' b fun b=>ti r fun r=>k (b::r)
theorem AM:∀(l:List UInt8)(k:List UInt8→β),ti l k=k l
 |[],k=>rfl
 |b::r,k=>by simp only [ti,Gi,AM r]
def oB(v:R)(k:R→β):β :=
 match v with
 |.undef=>k .undef
 |.bool b=>pD b fun b=>k (.bool b)
 |.int d n=>AJ d fun d=>w9 n fun n=>k (.int d n)
 |.str s=>ti s fun s=>k (.str s)
 |.ptr none=>k (.ptr none)
 |.ptr (some a)=>th a fun a=>k (.ptr (some a))
 |.slice none n c=>eN n fun n=>eN c fun c=>k (.slice none n c)
 |.slice (some a) n c=>th a fun a=>eN n fun n=>eN c fun c=>k (.slice (some a) n c)
 |.nilFunc=>k .nilFunc
 |.nilIface=>k .nilIface
 |.func a b c=>k (.func a b c)
 |.iface t v=>k (.iface t v)
 |.agg l=>k (.agg l)
 |.tuple l=>k (.tuple l)
theorem AN(v:R)(k:R→β):oB v k=k v:=by
 cases v with
 |ptr o=>cases o<;>simp [oB,AL]
 |slice o n c=>cases o<;>simp [oB,AL,jG]
 |_=>simp [oB,AK,Gh,Gg,AM]
def oC:List R→(List R→β)→β
 |[],k=>k []
 |a::r,k=>oB a fun a=>oC r fun r=>k (a::r)
theorem AO:∀(l:List R)(k:List R→β),oC l k=k l
 |[],k=>rfl
 |a::r,k=>by simp only [oC,AN,AO r]
def rq(v:R)(k:R→β):β :=
 match v with
 |.agg l=>oC l fun l=>k (.agg l)
 |.iface t v=>eN t fun t=>oB v fun v=>k (.iface t v)
 |.func a b c=>oC b fun b=>oC c fun c=>k (.func a b c)
 |.tuple l=>oC l fun l=>k (.tuple l)
 |v=>oB v k
theorem AP(v:R)(k:R→β):rq v k=k v:=by unfold rq;split<;>simp [AN,AO,jG]
def pE:List R→(List R→β)→β
 |[],k=>k []
 |a::r,k=>rq a fun a=>pE r fun r=>k (a::r)
theorem xa:∀(l:List R)(k:List R→β),pE l k=k l
 |[],k=>rfl
 |a::r,k=>by simp only [pE,AP,xa r]
def rr(v:R)(k:R→β):β :=
 match v with
 |.tuple l=>pE l fun l=>k (.tuple l)
 |.iface t v=>eN t fun t=>rq v fun v=>k (.iface t v)
 |v=>rq v k
theorem xb(v:R)(k:R→β):rr v k=k v:=by unfold rr;split<;>simp [AP,xa,jG]
def xc(b:ai)(k:ai→β):β :=
 match b with
 |⟨l,es,ex,ro,v,m,f,none⟩=>pE l fun l=>eN es fun es=>pD ex fun ex=>pD ro fun ro=>eN v fun v=>eN m fun m=>eN f fun f=>k ⟨l,es,ex,ro,v,m,f,none⟩
 |⟨l,es,ex,ro,v,m,f,some (t,n)⟩=>pE l fun l=>eN es fun es=>pD ex fun ex=>pD ro fun ro=>eN v fun v=>eN m fun m=>eN f fun f=>k ⟨l,es,ex,ro,v,m,f,some (t,n)⟩
theorem Gj(b:ai)(k:ai→β):xc b k=k b:=by obtain⟨l,es,ex,ro,v,m,f,ty⟩:=b;cases ty<;>simp [xc,xa,jG,AK]
def ed(n:Nat)(t:ax R):List R:=(List.range n).map fun i=>(t.get i).getD ek
theorem tj(n:Nat)(t:ax R)(i:Nat):(ed n t)[i]? =if i<n then some ((t.get i).getD ek)else none:=by
 simp only [ed,List.getElem?_map];by_cases h:i<n
 ·rw [List.getElem?_range h,if_pos h];rfl
 ·rw [List.getElem?_eq_none (by simpa using h),if_neg h];rfl
def tk(n:Nat)(t:ax R)(i:Nat):Option R:=cond (Nat.blt i n) (some (Option.rec (motive:=fun _=>R) ek (fun v=>v) (t.get i))) none
theorem AQ(n:Nat)(t:ax R)(i:Nat):tk n t i=(ed n t)[i]? :=by
 rw [tj];unfold tk;by_cases h:i<n
 ·rw [show Nat.blt i n=true by simpa [Nat.blt_eq]using h,if_pos h];cases t.get i<;>rfl
 ·rw [show Nat.blt i n=false by cases an:Nat.blt i n with|false=>rfl|true=>exact absurd (Nat.blt_eq.mp an) h,if_neg h];rfl
def je(n:Nat)(t:ax R)(o:Operand):R :=
 match o with
 |.tmp i=>cond (Nat.blt i n) (Option.rec (motive:=fun _=>R) ek (fun v=>v) (t.get i)) .undef
 |.const v=>mv v
 |.global _=> .undef
 |.func f=> .func (.func f) [] []
theorem rs(n:Nat)(t:ax R):je n t=bX (ed n t):=by
 funext o
 cases o with
 |tmp i =>
  have:=AQ n t i;simp only [bX,List.getD_eq_getElem?_getD,←this];unfold tk;show cond (Nat.blt i n) (Option.rec (motive:=fun _=>R) ek (fun v=>v) (t.get i)) .undef=_;cases Nat.blt i n<;>rfl
 |const v=>rfl
 |global g=>rfl
 |func f=>rfl
theorem Gk(n:Nat)(t:ax R)(d:Nat)(v:R):ed n (t.set d v)=(ed n t).set d v:=by
 apply List.ext_getElem?;intro i;rw [tj,List.getElem?_set,tj];by_cases h:i<n
 ·simp only [h,if_true,ax.jp];by_cases az:d=i
  ·subst az;simp [ed,h]
  ·simp [az]
 ·simp only [h,if_false];by_cases az:d=i
  ·subst az;simp [ed,h]
  ·simp [az]
section
variable {α:Type}
def tl(f:Nat):Nat→α→(ax α→β)→β :=
 Nat.rec (motive:=fun _=>Nat→α→(ax α→β)→β) (fun _ v c=>c (.node (some v) .nil .nil))
  (fun _ ih k v c=>cond (Nat.beq k 0) (c (.node (some v) .nil .nil)) (cond (Nat.beq (Nat.mod k 2) 1) (ih (Nat.div k 2) v fun u=>c (.node none u .nil)) (ih (Nat.sub (Nat.div k 2) 1) v fun u=>c (.node none .nil u)))) f
theorem xd:∀(f k:Nat)(v:α)(c:ax α→β),tl f k v c=c (ax.fx f k v)
 |0,k,v,c=>rfl
 |f +1,k,v,c=>by
  show cond (Nat.beq k 0) (c (.node (some v) .nil .nil)) (cond (Nat.beq (k%2) 1) (tl f (k/2) v fun u=>c (.node none u .nil)) (tl f (k/2-1) v fun u=>c (.node none .nil u))) =
   c (cond (Nat.beq k 0) (.node (some v) .nil .nil) (cond (Nat.beq (k%2) 1) (.node none (ax.fx f (k/2) v) .nil) (.node none .nil (ax.fx f (k/2-1) v))))
  rw [xd f,xd f];cases Nat.beq k 0<;>cases Nat.beq (k%2) 1<;>rfl
def ru(t:ax α):Nat→α→(ax α→β)→β :=
 ax.rec (motive:=fun _=>Nat→α→(ax α→β)→β) (fun k v c=>tl k k v c)
  (fun o l r lC u2 k v c=>cond (Nat.beq k 0) (c (.node (some v) l r)) (cond (Nat.beq (Nat.mod k 2) 1) (lC (Nat.div k 2) v fun u=>c (.node o u r)) (u2 (Nat.sub (Nat.div k 2) 1) v fun u=>c (.node o l u)))) t
theorem tm:∀(t:ax α)(k:Nat)(v:α)(c:ax α→β),ru t k v c=c (t.set k v)
 |.nil,k,v,c=>xd k k v c
 |.node o l r,k,v,c=>by
  show cond (Nat.beq k 0) (c (.node (some v) l r)) (cond (Nat.beq (k%2) 1) (ru l (k/2) v fun u=>c (.node o u r)) (ru r (k/2-1) v fun u=>c (.node o l u))) =
   c (cond (Nat.beq k 0) (.node (some v) l r) (cond (Nat.beq (k%2) 1) (.node o (l.set (k/2) v) r) (.node o l (r.set (k/2-1) v))))
  rw [tm l,tm r];cases Nat.beq k 0<;>cases Nat.beq (k%2) 1<;>rfl
def tn(f:α→(α→β)→β)(t:ax α):Nat→(ax α→β)→β :=
 ax.rec (motive:=fun _=>Nat→(ax α→β)→β) (fun _ c=>c .nil)
  (fun o l r hC jX k c=>cond (Nat.beq k 0) (Option.rec (motive:=fun _=>β) (c (.node none l r)) (fun b=>f b fun b=>c (.node (some b) l r)) o) (cond (Nat.beq (Nat.mod k 2) 1) (hC (Nat.div k 2) fun u=>c (.node o u r)) (jX (Nat.sub (Nat.div k 2) 1) fun u=>c (.node o l u)))) t
theorem xe{f:α→(α→β)→β}(aM:∀a k,f a k=k a):∀(t:ax α)(k:Nat)(c:ax α→β),tn f t k c=c t
 |.nil,k,c=>rfl
 |.node o l r,k,c=>by show cond (Nat.beq k 0) (Option.rec (motive:=fun _=>β) (c (.node none l r)) (fun b=>f b fun b=>c (.node (some b) l r)) o) (cond (Nat.beq (k%2) 1) (tn f l (k/2) fun u=>c (.node o u r)) (tn f r (k/2-1) fun u=>c (.node o l u)))=_;rw [xe aM l,xe aM r];cases o<;>cases Nat.beq k 0<;>cases Nat.beq (k%2) 1<;>simp [aM]
end
def pF(s:ax R)(d:Option Tmp)(v:R)(k:ax R→β):β:=Option.rec (motive:=fun _=>β) (k s) (fun d=>ru s d v k) d
theorem Gl(n:Nat)(s:ax R)(d:Option Tmp)(v:R)(k:ax R→β):pF s d v k=k (Option.rec (motive:=fun _=>ax R) s (fun d=>s.set d v) d):=by cases d<;>simp [pF,tm]
theorem tp(n:Nat)(s:ax R)(d:Option Tmp)(v:R):ed n (Option.rec (motive:=fun _=>ax R) s (fun d=>s.set d v) d)=fl (ed n s) d v:=by cases d<;>simp [fl,Gk]
def xf(id:Nat)(h:I)(k:I→β):β :=
 match h with
 |⟨n,l⟩=>tn xc l id fun l=>k ⟨n,l⟩
theorem Gm(id:Nat)(h:I)(k:I→β):xf id h k=k h:=by cases h;simp [xf,xe Gj]
def xg(h:I)(k:I→β):β :=
 match h with
 |⟨n,l⟩=>eN n fun n=>k ⟨n,l⟩
theorem Gn(h:I)(k:I→β):xg h k=k h:=by cases h;simp [xg,jG]
inductive xh where
 |no|at (id:Nat)|all
def tq(t:xh)(h:I)(k:I→β):β :=
 match t with
 |.no=>k h
 |.at id=>xf id h k
 |.all=>xg h k
theorem Gp(t:xh)(h:I)(k:I→β):tq t h k=k h:=by cases t<;>simp [tq,Gm,Gn]
def AR(v:R)(k:R→β):β :=
 match v with
 |.undef=>k .undef
 |.bool b=>k (.bool b)
 |.int d n=>k (.int d n)
 |.str s=>k (.str s)
 |.ptr a=>k (.ptr a)
 |.slice a n c=>k (.slice a n c)
 |.nilFunc=>k .nilFunc
 |.nilIface=>k .nilIface
 |.func a b c=>k (.func a b c)
 |.iface t v=>k (.iface t v)
 |.agg l=>k (.agg l)
 |.tuple l=>k (.tuple l)
theorem Gq(v:R)(k:R→β):AR v k=k v:=by cases v<;>rfl
def shallow(o:Op):Bool :=
 match o with
 |.move (.tmp _)|.assign (.tmp _)|.pick _ (.tmp _) (.tmp _)|.extract _ _|.load _ _=>true
 |.call c=>match c.callee with|.value _=>true|_=>false
 |_=>false
def tr(o:Op)(v:R)(k:R→β):β:=cond (shallow o) (AR v k) (rr v k)
theorem Gr(o:Op)(v:R)(k:R→β):tr o v k=k v:=by unfold tr;cases shallow o<;>simp [Gq,xb]
end
def AS(nid:Nat)(ρ:Operand→R)(o:Op)(v:R):xh :=
 match o with
 |.alloc _|.box _ _|.buildSlice _ _ _|.makeSlice _ _ _=> .at nid
 |.store _ a _=>match ρ a with|.ptr (some a)=> .at a.id|_=> .no
 |.call c =>
  match c.callee with
  |.value _=> .all
  |.builtin .append=>match v with|.slice (some a) _ _=> .at a.id|_=> .no
  |_=> .no
 |.convert _ _ _=>match v with|.slice (some a) _ _=> .at a.id|_=> .no
 |_=> .no
section
variable {E:bq}
def rv(ops:Array Oper)(n:Nat)(s:ax R)(o:Oper):Option Bool :=
 match o.guard with
 |none=>some true
 |some (j,want) =>
  match (ops[j]?).bind (·.dst)with
  |some d =>
   match tk n s d with
   |some (.bool b)=>some (b == want)
   |some (.tuple [])=>some false
   |_=>none
  |none=>none
theorem AT(ops:Array Oper)(n:Nat)(s:ax R)(o:Oper):rv ops n s o=gA ops (ed n s) o:=by unfold rv gA;simp only [AQ];rfl
structure fO where
 c':ax R
 heap:I
def fO.to(n:Nat)(s:fO):dl:=⟨ed n s.c',s.heap⟩
def m'(E:bq)(call:cu)(ops:Array Oper)(draw:Bool)(n au:Nat)(l:List Oper):Nat→ax R→I→Option fO :=
 List.rec (motive:=fun _=>Nat→ax R→I→Option fO) (fun _ s h=>some ⟨s,h⟩)
  (fun o _ ih i s h =>
   match rv ops n s o with
   |some true =>
    match (cond draw (du E call ops au i (je n s) h o.op) (gz E call (Nat.add au i) (je n s) h o.op))with
    |some (v,af)=>tr o.op v fun v=>tq (AS (Nat.add au i) (je n s) o.op v) af fun af=>pF s o.dst v fun aX=>ih (Nat.succ i) aX af
    |none=>none
   |some false=>pF s o.dst ek fun aX=>ih (Nat.succ i) aX h
   |none=>none) l
theorem AU(call:cu)(ops:Array Oper)(draw:Bool)(n au i:Nat)(s:ax R)(h:I)(o:Oper)(r:List Oper):m' E call ops draw n au (o::r) i s h =
 match rv ops n s o with
 |some true =>
  match (cond draw (du E call ops au i (je n s) h o.op) (gz E call (au+i) (je n s) h o.op))with
  |some (v,af)=>m' E call ops draw n au r (i+1) (Option.rec (motive:=fun _=>ax R) s (fun d=>s.set d v) o.dst) af
  |none=>none
 |some false=>m' E call ops draw n au r (i+1) (Option.rec (motive:=fun _=>ax R) s (fun d=>s.set d ek) o.dst) h
 |none=>none:=by
 show (match rv ops n s o with
  |some true =>
   match (cond draw (du E call ops au i (je n s) h o.op) (gz E call (au+i) (je n s) h o.op))with
   |some (v,af)=>tr o.op v fun v=>tq (AS (au+i) (je n s) o.op v) af fun af=>pF s o.dst v fun aX=>m' E call ops draw n au r (i+1) aX af
   |none=>none
  |some false=>pF s o.dst ek fun aX=>m' E call ops draw n au r (i+1) aX h
  |none=>none)=_
 simp only [Gr,Gp,Gl n]
theorem xi{call:cu}{ops:Array Oper}{n au:Nat} :∀(l:List Oper)(i:Nat)(s:ax R)(h:I),(∀j,l[j]? =ops[i+j]?) →
 (m' E call ops false n au l i s h).map (fO.to n)=kE E call ops au (List.range' i l.length) ⟨ed n s,h⟩
 |[],i,s,h,_=>rfl
 |o ::r,i,s,h,ay=>by
  have aj:ops[i]? =some o:=by have:=ay 0;simpa using this.symm
  have aR:∀j,r[j]? =ops[i+1+j]? :=fun j=>by have:=ay (j+1);simp at this;rw [this];congr 1;omega
  rw [AU];simp only [List.length_cons,List.range'_succ,kE,mA,aj,AT,rs,cond_false];cases hw:gA ops (ed n s) o with
  |none=>rfl
  |some b =>
   cases b with
   |true =>
    simp only;cases aD:gz E call (au+i) (bX (ed n s)) h o.op with
    |none=>rfl
    |some p =>
     obtain⟨v,af⟩:=p;simp only;rw [xi r (i+1) _ _ aR,tp]
   |false =>
    simp only;rw [xi r (i+1) _ _ aR,tp]
theorem xj{call:cu}{ops:Array Oper}{n au:Nat} :∀(l:List Oper)(i:Nat)(s:ax R)(h:I),(∀j,l[j]? =ops[i+j]?) →
 (m' E call ops true n au l i s h).map (fO.to n)=hy E call ops au (List.range' i l.length) ⟨ed n s,h⟩
 |[],i,s,h,_=>rfl
 |o ::r,i,s,h,ay=>by
  have aj:ops[i]? =some o:=by have:=ay 0;simpa using this.symm
  have aR:∀j,r[j]? =ops[i+1+j]? :=fun j=>by have:=ay (j+1);simp at this;rw [this];congr 1;omega
  rw [AU];simp only [List.length_cons,List.range'_succ,hy,iT,aj,AT,rs,cond_true];cases hw:gA ops (ed n s) o with
  |none=>rfl
  |some b =>
   cases b with
   |true =>
    simp only;cases aD:du E call ops au i (bX (ed n s)) h o.op with
    |none=>rfl
    |some p =>
     obtain⟨v,af⟩:=p;simp only;rw [xj r (i+1) _ _ aR,tp]
   |false =>
    simp only;rw [xj r (i+1) _ _ aR,tp]
def ry(E:bq)(call:cu)(ops:Array Oper)(draw:Bool)(n:Nat)(s:fO):Option fO :=
 match s with
 |⟨s,⟨au,l⟩⟩=>cond (!draw || kF ops) (eN (Nat.add au ops.size) fun m=>m' E call ops draw n au ops.toList 0 s ⟨m,l⟩) none
theorem Gs(call:cu)(ops:Array Oper)(draw:Bool)(n:Nat)(s:fO):(ry E call ops draw n s).map (fO.to n)=nZ E call ops draw (s.to n):=by
 obtain⟨s,au,l⟩:=s;have ay:∀j:Nat,ops.toList[j]? =ops[0+j]? :=fun j=> a1
 have aR:List.range ops.size=List.range' 0 ops.toList.length:=by rw [List.range_eq_range',Array.length_toList]
 unfold ry nZ;cases draw with
 |false=>simp only [Bool.not_false,Bool.true_or,cond_true,jG,Bool.false_eq_true,if_false,xi _ _ _ _ ay,aR,fO.to,Nat.add_eq]
 |true =>
  cases az:kF ops with
  |false=>simp
  |true=>simp only [Bool.not_true,Bool.false_or,az,cond_true,if_true,jG,xj _ _ _ _ ay,aR,fO.to,Nat.add_eq]
def gO(E:bq)(call:cu)(n hH:Nat):Option Code→Code→fO→Option (ch×fO) :=
 Nat.rec (motive:=fun _=>Option Code→Code→fO→Option (ch×fO)) (fun _ _ _=>none)
 (fun m ih b c s =>
 match b with
 |some body =>
  match ih none c s with
  |some (.goto l,aX) =>
   match findLabel body l with
   |some rest=>ih (some body) rest aX
   |none=>some (.goto l,aX)
  |r=>r
 |none =>
  match c with
  |.skip=>some (.normal,s)
  |.label _=>some (.normal,s)
  |.region _ ops draw =>
   match ry E call ops draw n s with
   |some aX=>some (.normal,aX)
   |none=>none
  |.seq a b =>
   match ih none a s with
   |some (.normal,aX)=>ih none b aX
   |r=>r
  |.cond x a b =>
   match je n s.c' x with
   |.bool true=>ih none a s
   |.bool false=>ih none b s
   |_=>none
  |.block id c =>
   match ih none c s with
   |some (.exit j,aX)=>some (if j=id then .normal else .exit j,aX)
   |r=>r
  |.loop c =>
   match ih none c s with
   |some (.normal,aX)=>ih none (.loop c) aX
   |r=>r
  |.scope c=>ih (some c) c s
  |.goto l=>some (.goto l,s)
  |.exit id=>some (.exit id,s)
  |.ret=>some (.ret,s)
  |_=>none) hH
def l1(n:Nat)(p:ch×fO):ch×dl:=(p.1,p.2.to n)
theorem Gt(call:cu)(k:Nat):∀(n:Nat)(b:Option Code)(c:Code)(s:fO),(gO E call k n b c s).map (l1 k)=da E call n b c (s.to k):=by
 intro n;induction n with
 |zero=>intro b c s;rfl
 |succ n ih =>
  intro b c s;cases b with
  |some body =>
   show Option.map (l1 k) (match gO E call k n none c s with
    |some (.goto l,aX) =>
     match findLabel body l with
     |some rest=>gO E call k n (some body) rest aX
     |none=>some (.goto l,aX)
    |r=>r)=_
   simp only [da,←ih];cases ac:gO E call k n none c s with
   |none=>rfl
   |some p =>
    obtain⟨e,aX⟩:=p;cases e with
    |goto l =>
     simp only [Option.map_some,l1];cases aM:findLabel body l with
     |none=>rfl
     |some rest=>simp only [aM];exact ih (some body) rest aX
    |_=>rfl
  |none =>
   cases c
   case region id ops draw =>
    show Option.map (l1 k) (match ry E call ops draw k s with
     |some aX=>some (.normal,aX)
     |none=>none)=_
    simp only [da,←Gs];cases ry E call ops draw k s<;>rfl
   case seq a b =>
    show Option.map (l1 k) (match gO E call k n none a s with
     |some (.normal,aX)=>gO E call k n none b aX
     |r=>r)=_
    simp only [da,←ih];cases ac:gO E call k n none a s with
    |none=>rfl
    |some p=>obtain⟨e,aX⟩:=p;cases e<;>first|exact ih none b aX|rfl
   case cond x a b =>
    show Option.map (l1 k) (match je k s.c' x with
     |.bool true=>gO E call k n none a s
     |.bool false=>gO E call k n none b s
     |_=>none)=_
    simp only [da,←ih,rs];have he:bX (s.to k).c' x=bX (ed k s.c') x:=rfl;rw [he];cases bX (ed k s.c') x with
    |bool t=>cases t<;>rfl
    |_=>rfl
   case block id c =>
    show Option.map (l1 k) (match gO E call k n none c s with
     |some (.exit j,aX)=>some (if j=id then .normal else .exit j,aX)
     |r=>r)=_
    simp only [da,←ih];cases ac:gO E call k n none c s with
    |none=>rfl
    |some p=>obtain⟨e,aX⟩:=p;cases e<;>rfl
   case loop c =>
    show Option.map (l1 k) (match gO E call k n none c s with
     |some (.normal,aX)=>gO E call k n none (.loop c) aX
     |r=>r)=_
    simp only [da,←ih];cases ac:gO E call k n none c s with
    |none=>rfl
    |some p=>obtain⟨e,aX⟩:=p;cases e<;>first|exact ih none (.loop c) aX|rfl
   case scope c=>exact ih (some c) c s
   all_goals rfl
def rz:List R→Nat→ax R→(ax R→Option (R×I))→Option (R×I)
 |[],_,t,k=>k t
 |v::r,i,t,k=>rr v fun v=>ru t i v fun t=>rz r (Nat.succ i) t k
theorem AV:∀(l:List R)(i:Nat)(t:ax R) (k:ax R→Option (R×I)),
 ∃dw,rz l i t k=k dw∧∀j,dw.get j=if j<i then t.get j else if h:j-i<l.length then some l[j-i]else t.get j
 |[],i,t,k=>⟨t,rfl,fun j=> a1⟩
 |v ::r,i,t,k=>by
  obtain⟨dw,aa,ae⟩:=AV r (i+1) (t.set i v) k;refine⟨dw,by simp only [rz,xb,tm];exact aa,fun j=> ?_⟩;rw [ae j,ax.jp];by_cases aW:j<i
  ·rw [if_pos J,if_neg J,if_pos aW]
  ·rw [if_neg aW];by_cases he:i=j
   ·subst he;rw [if_pos J,if_pos rfl];simp
   ·rw [if_neg J,if_neg he];by_cases ay:j- (i+1)<r.length
    ·rw [dif_pos ay,dif_pos (by simp;omega)];obtain⟨m,hm⟩:∃m,j-i=m+1:=⟨j-i-1,J⟩
     have iY:j- (i+1)=m:= J;simp only [hm,iY,List.getElem_cons_succ]
    ·rw [dif_neg ay,dif_neg (by simp;omega)]
theorem Gu{l:List R}{m:Nat}{t:ax R}(h:∀j,t.get j=if j<0 then(ax.nil:ax R).get j else if h:j-0<l.length then some l[j-0]else(ax.nil:ax R).get j) :
 ed (l.length+(m-l.length)) t=l++List.replicate (m-l.length) ek:=by
 apply List.ext_getElem?;intro i;rw [tj,h i,if_neg (Nat.not_lt_zero i)];simp only [Nat.sub_zero,ax.kA];by_cases ag:i<l.length
 ·rw [if_pos J,dif_pos ag,List.getElem?_append_left ag,List.getElem?_eq_getElem ag];rfl
 ·rw [dif_neg ag,List.getElem?_append_right J,List.getElem?_replicate];by_cases aI:i<l.length+(m-l.length)
  ·rw [if_pos aI,if_pos J];rfl
  ·rw [if_neg aI,if_neg J]
def na(D:ci)(n:Nat)(gC:List ResultVar)(s:fO):Option (List R) :=
 match gC with
 |[]=>some []
 |.tmp t::r=>(na D n r s).map fun l=>je n s.c' (.tmp t)::l
 |.cell a t::r =>
  match je n s.c' (.tmp a)with
  |.ptr (some p) =>
   match bp D t p s.heap,na D n r s with
   |some v,some l=>some (v::l)
   |_,_=>none
  |_=>none
theorem tt(D:ci)(n:Nat)(s:fO):∀(gC:List ResultVar),na D n gC s=gB D gC (s.to n)
 |[]=>rfl
 |.tmp t::r=>by simp only [na,gB,tt D n s r,rs];rfl
 |.cell a t::r=>by simp only [na,gB,tt D n s r,rs];rfl
def tu(r:Option (R×I)):Option (R×I) :=
 match r with
 |some (v,⟨n,l⟩)=>eN n fun n=>rr v fun v=>some (v,⟨n,l⟩)
 |none=>none
theorem Gv(r:Option (R×I)):tu r=r:=by
 cases r with
 |none=>rfl
 |some p=>obtain⟨v,n,l⟩:=p;simp [tu,jG,xb]
def h6(P:Program)(E:bq)(hH:Nat):cu :=
 Nat.rec (motive:=fun _=>cu) (fun _ _ _=>none)
 (fun n ih f args h =>
  match E.o9 f with
  |some g=>g args h
  |none =>
  match P.funcs[f]? with
  |some fn =>
   match fn.body with
   |some c =>
    eN (args.length+(fn.ntmps-args.length)) fun k=>rz args 0 .nil fun lC =>
    match gO E ih k n none c ⟨lC,h⟩with
    |some (.exit _,_)=>none
    |some (.goto _,_)=>none
    |some (_,s) =>
     match na E.D k fn.results.toList s with
     |some l=>tu (some (jt l,s.heap))
     |none=>none
    |none=>none
   |none=>none
  |none=>none) hH
theorem oD(P:Program)(E:bq):∀(n:Nat),h6 P E n=iU P E n:=by
 intro n;induction n with
 |zero=>rfl
 |succ n ih =>
  funext f args h
  show(match E.o9 f with
  |some g=>g args h
  |none =>
  match P.funcs[f]? with
  |some fn =>
   match fn.body with
   |some c =>
    eN (args.length+(fn.ntmps-args.length)) fun k=>rz args 0 .nil fun lC =>
    match gO E (h6 P E n) k n none c ⟨lC,h⟩with
    |some (.exit _,_)=>none
    |some (.goto _,_)=>none
    |some (_,s) =>
     match na E.D k fn.results.toList s with
     |some l=>tu (some (jt l,s.heap))
     |none=>none
    |none=>none
   |none=>none
  |none=>none)=_
  simp only [iU,ih,jG,Gv];cases E.o9 f with
  |some g=>rfl
  |none =>
  simp only;cases aM:P.funcs[f]? with
  |none=>rfl
  |some fn =>
   simp only;cases fn.body with
   |none=>rfl
   |some c =>
    simp only
    obtain⟨t,aa,ae⟩:=AV args 0 .nil fun lC =>
     match gO E (iU P E n) (args.length+(fn.ntmps-args.length)) n none c ⟨lC,h⟩with
     |some (.exit _,_)=>none
     |some (.goto _,_)=>none
     |some (_,s) =>
      match na E.D (args.length+(fn.ntmps-args.length)) fn.results.toList s with
      |some l=>some (jt l,s.heap)
      |none=>none
     |none=>none
    rw [aa]
    have hs:(fO.mk t h).to (args.length+(fn.ntmps-args.length))=⟨args++List.replicate (fn.ntmps-args.length) ek,h⟩:=by simp only [fO.to,Gu ae]
    have ac:=Gt (E:=E) (iU P E n) (args.length+(fn.ntmps-args.length)) n none c ⟨t,h⟩;rw [hs]at ac;rw [←ac];cases bi:gO E (iU P E n) (args.length+(fn.ntmps-args.length)) n none c ⟨t,h⟩with
    |none=>rfl
    |some p =>
     obtain⟨e,s⟩:=p;simp only [Option.map_some,l1];cases e with
     |exit id=>rfl
     |goto l=>rfl
     |normal=>simp only [tt];cases gB E.D fn.results.toList (s.to (args.length+(fn.ntmps-args.length)))<;>rfl
     |ret=>simp only [tt];cases gB E.D fn.results.toList (s.to (args.length+(fn.ntmps-args.length)))<;>rfl
theorem Gw{P:Program}{E:bq}{n:Nat}{f:FuncId}{args:List R}{h:I}(k:te (h6 P E n f args h)=true):∃af,iU P E n f args h=some (.bool true,af):=by rw [oD]at k;exact F5 k
end
end
end Go.bh
namespace Go.bh
noncomputable section
abbrev a':=List (Nat×R)
def fq:a'→Nat→Option R
 |[],_=>none
 |(k,v)::r,t=>cond (Nat.beq k t) (some v) (fq r t)
def rA(t:Nat):a'→a'
 |[]=> []
 |(k,v)::r=>cond (Nat.beq k t) (rA t r) ((k,v)::rA t r)
def tv(F:a')(d:Option Tmp)(v:R):a' :=
 match d with
 |some d=>(d,v)::rA d F
 |none=>F
def nb(F:a'):List Nat→a'
 |[]=> []
 |t::r=>match fq F t with|some v=>(t,v)::nb F r|none=>nb F r
def Has(F:a')(s:List R):Prop:= ∀t v,fq F t=some v→s[t]? =some v
theorem kb(a b:Nat):(a=b∧Nat.beq a b=true)∨(a≠b∧Nat.beq a b=false):=by
 by_cases h:a=b
 ·exact .inl ⟨h,beq_true h⟩
 ·exact .inr ⟨h,beq_false h⟩
theorem oE(k:Nat)(v:R)(r:a')(t:Nat):fq ((k,v)::r) t=if k=t then some v else fq r t:=by simp only [fq];rcases kb k t with ⟨h,e⟩|⟨h,e⟩<;>simp [h,e]
theorem xk(d t:Nat)(h:d≠t):∀(F:a'),fq (rA d F) t=fq F t
 |[]=>rfl
 |(k,v)::r=>by
  simp only [rA];rcases kb k d with ⟨ap,e⟩|⟨ap,e⟩
  ·rw [e,cond_true,oE,if_neg J,xk d t h r]
  ·rw [e,cond_false,oE,oE,xk d t h r]
theorem Has.set{F:a'}{s:List R}(hs:Has F s){d:Option Tmp}(az:∀t,d=some t→t<s.length)(v:R):Has (tv F d v) (fl s d v):=by
 cases d with
 |none=>exact hs
 |some d =>
  intro t u hu;have gq:=az d rfl;simp only [tv,oE]at hu;simp only [fl,List.getElem?_set];by_cases h:d=t
  ·subst h;rw [if_pos rfl]at hu;rw [if_pos rfl,if_pos gq];exact hu
  ·rw [if_neg h,xk d t h]at hu;rw [if_neg h];exact hs t u hu
theorem tw{F:a'}{t:Nat}{v:R} :∀{l:List Nat},fq (nb F l) t=some v→fq F t=some v
 |[],h=>by cases h
 |k ::r,h=>by
  simp only [nb]at h;split at h
  ·rename_i u hu;rw [oE]at h;split at h
   ·rename_i e;subst e;rw [hu];exact h
   ·exact tw h
  ·exact tw h
def aY(F:a'):Operand→R
 |.tmp t=>match fq F t with|some v=>v|none=> .undef
 |.const v=>mv v
 |.global _=> .undef
 |.func f=> .func (.func f) [] []
def pG(F:a'):Operand→Bool
 |.tmp t=>match fq F t with|some _=>true|none=>false
 |_=>true
theorem Has.get{F:a'}{s:List R}(hs:Has F s){o:Operand}(ap:pG F o=true):aY F o=bX s o:=by
 cases o with
 |tmp t =>
  simp only [pG]at ap;split at ap
  ·rename_i v bg;simp only [aY,bX,bg,List.getD_eq_getElem?_getD,hs t v bg,Option.getD_some]
  ·cases ap
 |const v=>rfl
 |global g=>rfl
 |func f=>rfl
def xl(ops:Array Oper)(F:a')(o:Oper):Option Bool :=
 match o.guard with
 |none=>some true
 |some (j,want) =>
  match (ops[j]?).bind (·.dst)with
  |some d =>
   match fq F d with
   |some (.bool b)=>some (b == want)
   |some (.tuple [])=>some false
   |_=>none
  |none=>none
theorem AW{ops:Array Oper}{F:a'}{s:List R}(hs:Has F s){o:Oper}{b:Bool}(h:xl ops F o=some b):gA ops s o=some b:=by
 unfold xl at h;unfold gA;split at h
 ·rename_i ah;simp only [ah];exact h
 ·rename_i j want ah;simp only [ah];split at h
  ·rename_i d az;simp only [az];split at h
   ·rename_i gl an;simp only [hs _ _ an];exact h
   ·rename_i an;simp only [hs _ _ an];exact h
   ·cases h
  ·cases h
inductive Hint where
 |val (i:Nat) (v:R)
 |act (i:Nat) (v:R) (g:I→I)
 |AX (i:Nat) (v:R) (g:I→I)
 |l2 (i:Nat) (v:R)
 |go (i:Nat)
 |hb (i:Nat) (e:R)
 |tz (i:Nat) (e:R)
 |guard (i:Nat) (b:Bool)
 |test (t:Nat) (b:Bool)
 |keep (l:List Nat)
 |loop (F:a') (h:I) (e:ch)
 |cut (F:a') (h:I) (e:ch)
 |cell (v:R)
 |l3 (i:Nat) (v:R) (g:I→I)
 |run (i m:Nat)
 |AY (i m:Nat)
 |rounds (n:Nat)
 |enter (i:Nat)
def cz:cu:=fun _ _ _=>none
structure AZ(P:Program)(C:(Nat→Prop)→World→Prop)(f:FuncId)(args:List R)(h:I)(v:R)(af:I):Prop where
 Gx:bn P C f args h v af
structure fr where
 f:FuncId
 args:List R
 h:I
 v:R
 af:I
def fr.holds(call:cu)(k:fr):Prop:=call k.f k.args k.h=some (k.v,k.af)
abbrev A0(n:Int):Prop:= -9223372036854775808≤n∧n≤9223372036854775807
def de(k:IntKind)(n:Int):Prop :=
 match k with
 |.i64=>A0 n
 |.i8=> -128≤n∧n≤127
 |.i32=> -2147483648≤n∧n≤2147483647
 |.u8=>0≤n∧n≤255
 |k=>k.min≤n∧n≤k.max
theorem l4{k:IntKind}{n:Int}(h:de k n):k.wrap n=n:=by cases k<;>simp only [de,A0,IntKind.min,IntKind.max,IntKind.signed,IntKind.bits,IntKind.wrap]at h⊢ <;>simp at h⊢ <;>omega
def bB(k:IntKind)(x y:Int):Int:=k.wrap (BitVec.ofInt k.bits x &&& BitVec.ofInt k.bits y).toNat
def bR(k:IntKind)(x y:Int):Int:=k.wrap (BitVec.ofInt k.bits x ||| BitVec.ofInt k.bits y).toNat
def tA(k:IntKind)(x y:Int):Int:=k.wrap (BitVec.ofInt k.bits x ^^^ BitVec.ofInt k.bits y).toNat
def nc(k:IntKind)(x y:Int):Int:=k.wrap (BitVec.ofInt k.bits x &&& ~~~(BitVec.ofInt k.bits y)).toNat
def h7(k:IntKind)(x y:Int):Int:=k.wrap (x*2^(min y.toNat k.bits))
def bI(k:IntKind)(x y:Int):Int:=x.fdiv (2^(min y.toNat k.bits))
section
variable(P:Program)(E:bq)
def xm(nid:Nat)(ρ:Operand→R)(h:I)(o:Op):Option (R×I×Prop) :=
 match o with
 |.binOp op t x y _ =>
  match ρ x,ρ y with
  |.int k a,.int dS b =>
   match op with
   |.shl=>some (.int k (h7 k a b),h,0≤b)
   |.shr=>some (.int k (bI k a b),h,0≤b)
   |_ =>
   match decEq k dS with
   |isTrue _ =>
    match op with
    |.and=>some (.int k (bB k a b),h,True)
    |.or=>some (.int k (bR k a b),h,True)
    |.xor=>some (.int k (tA k a b),h,True)
    |.andNot=>some (.int k (nc k a b),h,True)
    |.add=>some (.int k (a+b),h,de k (a+b))
    |.sub=>some (.int k (a-b),h,de k (a-b))
    |.mul=>some (.int k (a*b),h,de k (a*b))
    |.quo=>some (.int k (a.tdiv b),h,b≠0∧de k (a.tdiv b))
    |.rem=>some (.int k (a.tmod b),h,b≠0)
    |_=>none
   |isFalse _=>none
  |.str a,.str b =>
   match op with
   |.add=>some (.str (a++b),h,a.length+b.length<2^62)
   |_=>none
  |_,_=>none
 |.unOp op t x =>
  match op,ρ x with
  |.xor,.int k n=>some (.int k (tA k (if k.signed then-1 else k.max) n),h,True)
  |.neg,.int k n=>some (.int k (0-n),h,de k (0-n))
  |_,_=>none
 |.index t x i =>
  match E.D t,ρ x,ρ i with
  |some d,.str s,.int _ i =>
   match d.kind with
   |.string=>some (.int .u8 (s.getD i.toNat 0).toNat,h,0≤i∧i<s.length)
   |_=>none
  |_,_,_=>none
 |.slice t x aE ag mx =>
  match mx with
  |some _=>none
  |none =>
   match E.D t,ρ x with
   |some d,.str s =>
    match d.kind with
    |.string =>
     match aE.map ρ,ag.map ρ with
     |none,none=>some (.str s,h,True)
     |some (.int _ l),none=>some (.str (s.drop l.toNat),h,0≤l∧l≤s.length)
     |none,some (.int _ u)=>some (.str (s.take u.toNat),h,0≤u∧u≤s.length)
     |some (.int _ l),some (.int _ u)=>some (.str ((s.take u.toNat).drop l.toNat),h,0≤l∧l≤u∧u≤s.length)
     |_,_=>none
    |_=>none
   |some d,.slice (some a) len cap =>
    match d.kind with
    |.slice e =>
     match E.D e with
     |some bM =>
      cond (Nat.beq a.fld 0&&Nat.beq a.es bM.size)
      (match aE.map ρ,ag.map ρ with
      |none,none=>some (.slice (some a) len cap,h,len≤cap)
      |some (.int _ l),none=>some (.slice (some {a with idx:=a.idx+l.toNat}) (len-l.toNat) (cap-l.toNat),h,0≤l∧l≤len∧len≤cap)
      |none,some (.int _ u)=>some (.slice (some a) u.toNat cap,h,0≤u∧u≤cap)
      |some (.int _ l),some (.int _ u)=>some (.slice (some {a with idx:=a.idx+l.toNat}) (u.toNat-l.toNat) (cap-l.toNat),h,0≤l∧l≤u∧u≤cap)
      |_,_=>none) none
     |none=>none
    |_=>none
   |_,_=>none
 |.indexAddr t x i =>
  match E.D t,ρ x,ρ i with
  |some d,.slice (some a) len _,.int _ i =>
   match d.kind with
   |.slice e =>
    match E.D e with
    |some bM=>cond (Nat.beq a.fld 0&&Nat.beq a.es bM.size) (some (.ptr (some {a with idx:=a.idx+i.toNat}),h,0≤i∧i<len)) none
    |none=>none
   |_=>none
  |_,_,_=>none
 |.convert s d x =>
  match E.D s,E.D d,ρ x with
  |some _,some eT,.int _ n=>match eT.kind with|.int k=>some (.int k n,h,de k n)|_=>none
  |_,_,_=>none
 |.call c =>
  match c.callee with
  |.builtin .append =>
   match c.args.toList.map ρ,c.argTypes[0]?,c.argTypes[1]? with
   |[.slice (some a) len cap,x],some t,some u =>
    match E.D u,E.D t,h.get a.id with
    |some il,some d,some b =>
     match d.kind with
     |.slice e =>
      match E.D e with
      |some bM =>
       match en bM.size x h with
       |some (dU::gn) =>
        cond ((match il.kind with|.slice _=>true|.string=>true|_=>false)&&Nat.blt 0 bM.size&&bM.nU&&Nat.beq a.fld 0&&Nat.beq a.es bM.size&&!b.exact&&!b.ro&&(match b.ty with|none=>true|some q=>Nat.beq q.1 e&&Nat.beq q.2 0))
         (some (.slice (some {a with bf:=a.bf+1}) (len+(dU::gn).length) (len+(dU::gn).length),h.set a.id (b.grow (dU::gn)),
          a.bf=b.bf∧a.idx+len=b.bc.length∧cap<len+(dU::gn).length∧(len+(dU::gn).length+(len+(dU::gn).length)/4+512)*bM.bytes≤2^48∧len+(dU::gn).length<2^62)) none
       |_=>none
      |none=>none
     |_=>none
    |_,_,_=>none
   |_,_,_=>none
  |_=>none
 |.makeSlice t l c =>
  match E.D t,ρ l,ρ c with
  |some d, .int _ l,.int _ c =>
   match d.kind with
   |.slice e =>
    match E.D e with
    |some x =>
     match x.zero with
     |some z =>
      cond (Nat.blt 0 x.size&&z.fits x.kind.isAgg x.size)
       (some (gL nid x.size l.toNat c.toNat,h.set nid (.aq (List.replicate c.toNat z) x.size true),0≤l∧l≤c∧c<2^62∧x.bytes*c≤2^48)) none
     |none=>none
    |none=>none
   |_=>none
  |_,_,_=>none
 |_=>none
theorem Gy{nid:Nat}{ρ:Operand→R}{h af:I}{o:Op}{v:R}{p:Prop}(k:xm E nid ρ h o=some (v,af,p))(ab:p)(call:cu):bb E call nid ρ h o=some (v,af):=by
 cases o<;>simp only [xm]at k<;>try (cases k;done)
 case binOp op t x y ty =>
  split at k
  ·rename_i a7 a ba b ac bi;split at k
   ·simp only [Option.some.injEq,Prod.mk.injEq]at k;obtain⟨rfl,rfl,rfl⟩:=k;simp only [bb,ac,bi,iS,qv];rw [if_neg J];rfl
   ·simp only [Option.some.injEq,Prod.mk.injEq]at k;obtain⟨rfl,rfl,rfl⟩:=k;simp only [bb,ac,bi,iS,qv];rw [if_neg J];rfl
   split at k
   ·rename_i ap _;subst ap;simp only [bb,ac,bi,iS];split at k<;>first|(cases k;done)|(simp only [Option.some.injEq,Prod.mk.injEq]at k)
    all_goals (obtain⟨rfl,rfl,rfl⟩:=k)
    ·simp [hv,bB]
    ·simp [hv,bR]
    ·simp [hv,tA]
    ·simp [hv,nc]
    ·simp [hv,l4 ab]
    ·simp [hv,l4 ab]
    ·simp [hv,l4 ab]
    ·simp [hv,l4 ab.2,ab.1]
    ·simp [hv,ab]
   ·cases k
  ·rename_i a b ac bi;split at k
   ·simp only [Option.some.injEq,Prod.mk.injEq]at k;obtain⟨rfl,rfl,rfl⟩:=k;simp only [bb,ac,bi,iS,qw];rw [if_pos ab];rfl
   ·cases k
  ·cases k
 case unOp op t x =>
  split at k
  ·rename_i ju n ac;simp only [Option.some.injEq,Prod.mk.injEq]at k;obtain⟨rfl,rfl,rfl⟩:=k;simp [bb,ac,qx,hv,tA]
  ·rename_i ju n ac;simp only [Option.some.injEq,Prod.mk.injEq]at k;obtain⟨rfl,rfl,rfl⟩:=k;simp only [bb,ac,qx,l4 ab];rfl
  ·cases k
 case index t x i =>
  split at k
  ·rename_i d s ju i az ac ag;split at k
   ·rename_i ap;simp only [Option.some.injEq,Prod.mk.injEq]at k;obtain⟨rfl,rfl,rfl⟩:=k;simp only [bb,ac,ag,g',az,ap];rw [if_pos ab.1];have c1:i.toNat<s.length:=by have:=ab.2;omega
    simp [List.getD_eq_getElem?_getD,List.getElem?_eq_getElem c1]
   ·cases k
  ·cases k
 case slice t x aE ag mx =>
  split at k
  ·cases k
  ·split at k
   ·rename_i d s az ac;split at k
    ·rename_i ap;split at k<;>first|(cases k;done)|(simp only [Option.some.injEq,Prod.mk.injEq]at k)
     all_goals (obtain⟨rfl,rfl,rfl⟩:=k)
     ·rename_i aa ae;simp [bb,ac,aa,ae,eg,az,ap,eD]
     ·rename_i a7 l aa ae;simp only [bb,ac,aa,ae,eg,az,ap,eD,Option.map_none,Option.isSome_none,Bool.false_eq_true,if_false];rw [if_pos ⟨ab.1,ab.2⟩];simp
     ·rename_i a7 u aa ae;simp only [bb,ac,aa,ae,eg,az,ap,eD,Option.map_none,Option.isSome_none,Bool.false_eq_true,if_false];rw [if_pos ⟨ab.1,ab.2⟩];simp
     ·rename_i a7 l ba u aa ae;simp only [bb,ac,aa,ae,eg,az,ap,eD,Option.map_none,Option.isSome_none,Bool.false_eq_true,if_false];rw [if_pos ⟨J,ab.2.2⟩];simp only;rw [if_pos ⟨ab.1,J⟩];simp
    ·cases k
   ·rename_i d a len cap az ac;split at k
    ·rename_i e ap;split at k
     ·rename_i bM dP;cases av:(Nat.beq a.fld 0&&Nat.beq a.es bM.size)with
      |false=>rw [av]at k;cases k
      |true =>
       rw [av,cond_true]at k;simp only [Bool.and_eq_true]at av;have bY:=Nat.eq_of_beq_eq_true av.1;have bU:=Nat.eq_of_beq_eq_true av.2;split at k<;>first|(cases k;done)|(simp only [Option.some.injEq,Prod.mk.injEq]at k)
       all_goals (obtain⟨rfl,rfl,rfl⟩:=k)
       ·rename_i aa ae;have:len≤cap:=ab;cases a;simp only at bY bU;simp [bb,ac,aa,ae,eg,az,ap,eD,dP,bY,bU]
       ·rename_i a7 l aa ae;simp only [bb,ac,aa,ae,eg,az,ap,eD,dP,Option.map_none,Option.isSome_none,Bool.false_eq_true,if_false];rw [if_pos ⟨ab.1,ab.2.1⟩];simp [bY,bU]
       ·rename_i a7 u aa ae;simp only [bb,ac,aa,ae,eg,az,ap,eD,dP,Option.map_none,Option.isSome_none,Bool.false_eq_true,if_false];rw [if_pos ⟨ab.1,ab.2⟩];cases a;simp only at bY bU;simp [bY,bU]
       ·rename_i a7 l ba u aa ae;simp only [bb,ac,aa,ae,eg,az,ap,eD,dP,Option.map_none,Option.isSome_none,Bool.false_eq_true,if_false];rw [if_pos ⟨J,ab.2.2⟩];simp only;rw [if_pos ⟨ab.1,J⟩];simp [bY,bU]
     ·cases k
    ·cases k
   ·cases k
 case indexAddr t x i =>
  split at k
  ·rename_i d a len c ju i az ac ag;split at k
   ·rename_i e he;split at k
    ·rename_i bM dP;cases av:(Nat.beq a.fld 0&&Nat.beq a.es bM.size)with
     |false=>rw [av]at k;cases k
     |true =>
      rw [av,cond_true]at k;simp only [Bool.and_eq_true]at av;simp only [Option.some.injEq,Prod.mk.injEq]at k;obtain⟨rfl,rfl,rfl⟩:=k;simp only [bb,ac,ag,qA,az,he,dP];rw [if_pos ⟨ab.1,ab.2,Nat.eq_of_beq_eq_true av.2,Nat.eq_of_beq_eq_true av.1⟩];rfl
    ·cases k
   ·cases k
  ·cases k
 case convert s d x =>
  split at k
  ·rename_i jV eT ju n hs az ac;split at k
   ·rename_i ba eW;simp only [Option.some.injEq,Prod.mk.injEq]at k;obtain⟨rfl,rfl,rfl⟩:=k;simp [bb,ac,qB,hs,az,eW,l4 ab]
   ·cases k
  ·cases k
 case call c =>
  split at k
  ·rename_i an;split at k
   ·rename_i a len cap x t u fk bz hu;split at k
    ·rename_i il d b oh az ah;split at k
     ·rename_i e ap;split at k
      ·rename_i bM dP;split at k
       ·rename_i dU gn eh;generalize dT:dU::gn=new at k eh;have bJ:new≠[]:=by rw [←dT];simp
        generalize av:((match il.kind with|.slice _=>true|.string=>true|_=>false)&&Nat.blt 0 bM.size&&bM.nU&&Nat.beq a.fld 0&&Nat.beq a.es bM.size&&!b.exact&&!b.ro&&(match b.ty with|none=>true|some q=>Nat.beq q.1 e&&Nat.beq q.2 0))=Gz at k;cases Gz with
        |false=>cases k
        |true =>
         rw [cond_true]at k;simp only [Option.some.injEq,Prod.mk.injEq]at k;obtain⟨rfl,rfl,rfl⟩:=k;simp only [Bool.and_eq_true,Bool.not_eq_true']at av;obtain⟨⟨⟨⟨⟨⟨⟨db,c2⟩,c3⟩,c4⟩,c5⟩,j6⟩,lT⟩,kT⟩:=av;obtain⟨eZ,eM,gP,GA,GB⟩:=ab;have bY:=Nat.eq_of_beq_eq_true c4;have bU:=Nat.eq_of_beq_eq_true c5
         have h0:b.ty=none∨b.ty=some (e,0):=by
          cases GC:b.ty with
          |none=>exact .inl rfl
          |some q =>
           rw [GC]at kT;simp only [Bool.and_eq_true]at kT;exact .inr (by rw [←Nat.eq_of_beq_eq_true kT.1,←Nat.eq_of_beq_eq_true kT.2])
         have GD:fb E.D t (.slice (some a) len cap) x nid h=some (.slice (some {a with bf:=a.bf+1}) (len+new.length) (len+new.length),h.set a.id (b.grow new)):=by simp only [fb,az,ap,dP,eh];rw [if_pos ⟨Nat.blt_eq.mp c2,GA,GB,c3⟩,if_pos ⟨bU,bY⟩];simp only [ah];rw [if_neg J,if_neg (by rw [j6];simp),if_pos ⟨lT,eZ,eM,bJ,h0⟩]
         simp only [bb,an,fk,e5,bz,hu,oh];cases wl:il.kind<;>rw [wl]at db<;>simp only [Bool.false_eq_true]at db<;>exact GD
       ·cases k
      ·cases k
     ·cases k
    ·cases k
   ·cases k
  ·cases k
 case makeSlice t l c =>
  split at k
  ·rename_i d a7 ct ba dm az ay al;split at k
   ·rename_i e he;split at k
    ·rename_i x ac;split at k
     ·rename_i z ds;cases an:(Nat.blt 0 x.size&&z.fits x.kind.isAgg x.size)with
      |false=>rw [an]at k;cases k
      |true =>
       rw [an,cond_true]at k;simp only [Option.some.injEq,Prod.mk.injEq]at k;obtain⟨rfl,rfl,rfl⟩:=k;simp only [Bool.and_eq_true]at an;simp only [bb,ay,al,qy,az,he,ac,ds];rw [if_pos ⟨ab.1,ab.2.1,ab.2.2.1,ab.2.2.2,Nat.blt_eq.mp an.1,an.2⟩]
     ·cases k
    ·cases k
   ·cases k
  ·cases k
def xn(ρ:Operand→R)(h:I)(o:Op)(e:R):Option (R×Prop) :=
 match o with
 |.load t x =>
  match ρ x with
  |.ptr (some a) =>
   match E.D t,h.get a.id with
   |some d,some b =>
    match gK d.kind.isAgg d.size a.fld e with
    |some v=>some (v,b.elem? a.bf a.idx=some e)
    |none=>none
   |_,_=>none
  |_=>none
 |_=>none
theorem GF{nid:Nat}{ρ:Operand→R}{h:I}{o:Op}{e v:R}{p:Prop}(k:xn E ρ h o e=some (v,p))(ab:p)(call:cu):bb E call nid ρ h o=some (v,h):=by
 unfold xn at k;split at k
 ·rename_i t x;split at k
  ·rename_i a aD;split at k
   ·rename_i d b az an;split at k
    ·rename_i aK bg;simp only [Option.some.injEq,Prod.mk.injEq]at k;obtain⟨rfl,rfl⟩:=k;simp [bb,aD,bp,az,an,ab,bg]
    ·cases k
   ·cases k
  ·cases k
 ·cases k
def stOp(ρ:Operand→R)(h:I)(o:Op)(e:R):Option (I×Prop) :=
 match o with
 |.store t x y =>
  match ρ x with
  |.ptr (some a) =>
   match E.D t,h.get a.id with
   |some d,some b =>
    cond ((ρ y).fits d.kind.isAgg d.size&&!b.ro)
     (match o6 a.fld (ρ y) e with
     |some cn=>some (h.set a.id {b with bc:=b.bc.set a.idx cn,hY:=b.bf},a.bf=b.bf∧b.bc[a.idx]? =some e)
     |none=>none) none
   |_,_=>none
  |_=>none
 |_=>none
theorem GG{nid:Nat}{ρ:Operand→R}{h af:I}{o:Op}{e:R}{p:Prop}(k:stOp E ρ h o e=some (af,p))(ab:p)(call:cu):bb E call nid ρ h o=some (ek,af):=by
 unfold stOp at k;split at k
 ·rename_i t x y;split at k
  ·rename_i a aD;split at k
   ·rename_i d b az an;cases al:((ρ y).fits d.kind.isAgg d.size&&!b.ro)with
    |false=>rw [al]at k;cases k
    |true =>
     rw [al,cond_true]at k;split at k
     ·rename_i cn he;simp only [Option.some.injEq,Prod.mk.injEq]at k;obtain⟨rfl,rfl⟩:=k;simp [bb,aD,ii,az,an,ab.1,ab.2,he,al]
     ·cases k
   ·cases k
  ·cases k
 ·cases k
def jH(nid:Nat)(ρ:Operand→R)(h:I)(o:Op)(v:R)(af:I):Prop×List fr :=
 match o with
 |.call c =>
  match c.callee with
  |.value f=>match ρ f with|.func (.func g) fs cs=>(AZ P E.cond g (fs++c.args.toList.map ρ++cs) h v af,[⟨g,fs++c.args.toList.map ρ++cs,h,v,af⟩])|_=>(False,[])
  |.builtin b=>(e5 E b c.argTypes (c.args.toList.map ρ) nid h=some (v,af),[])
  |_=>(False,[])
 |o=>(bb E cz nid ρ h o=some (v,af),[])
def gQ(nid:Nat)(ρ:Operand→R)(h:I)(o:Op)(v:R):Prop×List fr :=
 match o with
 |.load t x=>(match ρ x with|.ptr (some a)=>bp E.D t a h=some v|_=>False,[])
 |.indexAddr t x i=>(qA E.D t (ρ x) (ρ i)=some v,[])
 |.index t x i=>(g' E.D t (ρ x) (ρ i)=some v,[])
 |.slice t x aE ag mx=>(eg E.D t (ρ x) (aE.map ρ) (ag.map ρ) (mx.map ρ)=some v,[])
 |.binOp op t x y _=>(iS E.D E.fa (ik x || ik y) op t (ρ x) (ρ y)=some v,[])
 |o=>jH P E nid ρ h o v h
def pH:Op→Bool
 |.call c=>match c.callee with|.value _=>false|_=>true
 |_=>true
theorem tB{nid:Nat}{ρ:Operand→R}{h:I}{o:Op}(ab:pH o=true)(call:cu):bb E cz nid ρ h o=bb E call nid ρ h o:=by
 cases o
 case call c =>
  simp only [pH]at ab;cases al:c.callee<;>simp only [al]at ab<;>simp only [bb,al];cases ab
 case makeFunc f a b=>cases f<;>rfl
 all_goals rfl
theorem xo{nid:Nat}{ρ:Operand→R}{h:I}{o:Op}{v:R}{af:I}(k:(jH P E nid ρ h o v af).1){call:cu}(al:∀c∈(jH P E nid ρ h o v af).2,c.holds call) :
 bb E call nid ρ h o=some (v,af):=by
 cases o
 case call c =>
  simp only [jH]at k al;split at k
  ·rename_i f aM;simp only [aM]at al;split at k
   ·rename_i g fs cs ah;simp only [ah]at al;simp only [bb,aM,ah,kD];exact al _ (List.mem_singleton.2 rfl)
   ·exact k.elim
  ·rename_i b an;simp only [bb,an];exact k
  ·exact k.elim
 all_goals exact(tB E rfl call).symm.trans k
theorem A1{nid:Nat}{ρ:Operand→R}{h:I}{o:Op}{v:R}(k:(gQ P E nid ρ h o v).1){call:cu}(al:∀c∈(gQ P E nid ρ h o v).2,c.holds call) :
 bb E call nid ρ h o=some (v,h):=by
 cases o
 case load t x =>
  simp only [gQ]at k;split at k
  ·rename_i a aD;simp only [bb,aD,k];rfl
  ·exact k.elim
 case indexAddr t x i=>simp only [gQ]at k;simp only [bb,k];rfl
 case index t x i=>simp only [gQ]at k;simp only [bb,k];rfl
 case slice t x aE ag mx=>simp only [gQ]at k;simp only [bb,k];rfl
 case binOp op t x y z=>simp only [gQ]at k;simp only [bb,k];rfl
 all_goals exact xo P E k al
theorem xp{nid:Nat}{ρ:Operand→R}{h:I}{o:Op}{v:R}{af:I}(k:(jH P E nid ρ h o v af).1):∀c∈(jH P E nid ρ h o v af).2,bn P E.cond c.f c.args c.h c.v c.af:=by
 cases o
 case call c0 =>
  simp only [jH]at k⊢;cases b7:c0.callee with
  |value f =>
   rw [b7]at k;simp only at k⊢;cases aM:ρ f with
   |func fn fs cs =>
    rw [aM]at k;cases fn with
    |func g =>
     simp only at k⊢;intro c al;simp only [List.mem_singleton]at al;subst al;exact k.Gx
    |_=>exact k.elim
   |_=>rw [aM]at k;exact k.elim
  |invoke r m=>rw [b7]at k;exact k.elim
  |builtin b=>intro c al;simp at al
 all_goals (intro c al;simp [jH]at al)
theorem A2{nid:Nat}{ρ:Operand→R}{h:I}{o:Op}{v:R}(k:(gQ P E nid ρ h o v).1):∀c∈(gQ P E nid ρ h o v).2,bn P E.cond c.f c.args c.h c.v c.af:=by
 cases o;case load t x=>intro c al;simp [gQ]at al
 case indexAddr t x i=>intro c al;simp [gQ]at al
 case index t x i=>intro c al;simp [gQ]at al
 case slice t x aE ag mx=>intro c al;simp [gQ]at al
 case binOp op t x y z=>intro c al;simp [gQ]at al
 all_goals exact xp P E k
def bm(l:List Prop):Prop:= ∀p∈l,p
theorem bm.head{p:Prop}{l:List Prop}(h:bm (p::l)):p:=h p a1
theorem bm.tail{p:Prop}{l:List Prop}(h:bm (p::l)):bm l:=fun q av=>h q (by simp [av])
theorem bm.left{a b:List Prop}(h:bm (a++b)):bm a:=fun p ab=>h p (by simp [ab])
theorem bm.right{a b:List Prop}(h:bm (a++b)):bm b:=fun p ab=>h p (by simp [ab])
def ga(ops:Array Oper)(au i:Nat)(ρ:Operand→R)(h:I)(o:Op)(af:I):List Prop :=
 match cG o with
 |.load=>match hx ρ o with|some b=>cond (mC ops i || (Nat.blt b au || (Nat.blt b (au+ops.size)&&(ordered (cB ops) (b-au) i&&!lF ops (cB ops) i)))) [] [False]|none=> [False]
 |.store=>match jW ρ o with|some b=>cond (js ops (cB ops) i&&Nat.blt b au) [False] []|none=> [False]
 |.call=>cond (js ops (cB ops) i) [mB (au+ops.size) h af=true] []
 |.fc=>cond (lG ops au i (fA ρ o)) [] [False]
 |_=> []
def xq(au N:Nat):List Nat→List Prop
 |[]=> []
 |b::r=>(b<au∨N≤b)::xq au N r
def tC(ops:Array Oper)(au:Nat)(ρ:Operand→R)(o:Op):List Prop :=
 match cG o with
 |.load=>match hx ρ o with|some b=> [b<au]|none=> [False]
 |.fc=>xq au (au+ops.size) (fA ρ o)
 |_=> [False]
theorem A3{au N:Nat} :∀{l:List Nat},bm (xq au N l)→ ∀b∈l,b<au∨N≤b
 |[],_,b,an=>by cases an
 |a::r,h,b,an=>by
  rcases List.mem_cons.1 an with rfl|an
  ·exact h.head
  ·exact A3 h.tail b an
theorem A4{ops:Array Oper}{au i:Nat}{ρ:Operand→R}{h af:I}{o:Op}(k:bm (tC ops au ρ o)):bm (ga ops au i ρ h o af):=by
 unfold tC at k;unfold ga;split at k
 ·rename_i al;rw [al];simp only;split at k
  ·rename_i b an;have:Nat.blt b au=true:=Nat.blt_eq.mpr k.head;rw [this,Bool.true_or,Bool.or_true];intro p ab;cases ab
  ·exact k.head.elim
 ·rename_i al;rw [al];simp only
  have:lG ops au i (fA ρ o)=true:=by
   unfold lG;rw [List.all_eq_true];intro b an;rcases A3 k b an with h|h
   ·simp [h]
   ·simp [h]
  rw [this];intro p ab;cases ab
 ·exact k.head.elim
abbrev xr:=Option (R×I×List Hint×List Prop×List fr)
def kW(draw:Bool)(ops:Array Oper)(au i:Nat)(F:a')(h:I)(o:Op)(hs:List Hint):xr :=
 cond (pH o)
  (match bb E cz (au+i) (aY F) h o with
  |some (v,af)=>some (v,af,hs,cond draw (ga ops au i (aY F) h o af) [],[])
  |none=>cond (!draw || (gj o&&(im ops i || gk ops au i (aY F) o))) (match dN E (au+i) (aY F) h o with|some (v,af)=>some (v,af,hs,[],[])|none=>none) none) none
abbrev pI:=FuncId→List R→I→List Hint→Option (R×I×List Hint×List Prop)
def rB(dW:pI)(draw:Bool)(ops:Array Oper)(au i:Nat)(F:a')(h:I)(o:Op)(x:Hint)(hs:List Hint):xr :=
 match x with
 |.enter _ =>
  match o with
  |.call c =>
   match c.callee with
   |.value f =>
    match aY F f with
    |.func (.func g) fs cs =>
     match dW g (fs++c.args.toList.map (aY F)++cs) h hs with
     |some (v,af,cI,lV)=>some (v,af,cI,cond draw (ga ops au i (aY F) h o af) []++lV,[⟨g,fs++c.args.toList.map (aY F)++cs,h,v,af⟩])
     |none=>none
    |_=>none
   |_=>none
  |_=>none
 |.val _ v=>some (v,h,hs,(gQ P E (au+i) (aY F) h o v).1::cond draw (ga ops au i (aY F) h o h) [],(gQ P E (au+i) (aY F) h o v).2)
 |.act _ v g=>some (v,g h,hs,(jH P E (au+i) (aY F) h o v (g h)).1::cond draw (ga ops au i (aY F) h o (g h)) [],(jH P E (au+i) (aY F) h o v (g h)).2)
 |.AX _ v g=>some (v,g h,hs,(jH P E (au+i) (aY F) h o v (g h)).1::cond draw (tC ops au (aY F) o) [],(jH P E (au+i) (aY F) h o v (g h)).2)
 |.l2 _ v=>some (v,h,hs,(gQ P E (au+i) (aY F) h o v).1::cond draw (tC ops au (aY F) o) [],(gQ P E (au+i) (aY F) h o v).2)
 |.go _ =>
  match xm E (au+i) (aY F) h o with
  |some (v,af,p)=>some (v,af,hs,p::cond draw (ga ops au i (aY F) h o af) [],[])
  |none=>none
 |.hb _ e =>
  match xn E (aY F) h o e with
  |some (v,p)=>some (v,h,hs,p::cond draw (ga ops au i (aY F) h o h) [],[])
  |none=>none
 |.tz _ e =>
  match stOp E (aY F) h o e with
  |some (af,p)=>some (ek,af,hs,p::cond draw (ga ops au i (aY F) h o af) [],[])
  |none=>none
 |.l3 _ v g =>
  cond (gj o&&(!draw || (im ops i || gk ops au i (aY F) o)))
  (match bb E cz (au+i) (aY F) h o with
  |none=>some (v,g h,hs,[dN E (au+i) (aY F) h o=some (v,g h)],[])
  |some _=>none) none
 |.run _ m =>
  match o with
  |.call c =>
   match c.callee with
   |.value f =>
    match aY F f with
    |.func (.func g) fs cs =>
     match iU P E m g (fs++c.args.toList.map (aY F)++cs) h with
     |some (v,af)=>some (v,af,hs,cond draw (ga ops au i (aY F) h o af) [],[⟨g,fs++c.args.toList.map (aY F)++cs,h,v,af⟩])
     |none=>none
    |_=>none
   |_=>none
  |_=>none
 |.AY _ m =>
  match o with
  |.call c =>
   match c.callee with
   |.value f =>
    match aY F f with
    |.func (.func g) fs cs =>
     match h6 P E m g (fs++c.args.toList.map (aY F)++cs) h with
     |some (v,af)=>some (v,af,hs,cond draw (ga ops au i (aY F) h o af) [],[⟨g,fs++c.args.toList.map (aY F)++cs,h,v,af⟩])
     |none=>none
    |_=>none
   |_=>none
  |_=>none
 |_=>none
def Hint.at:Hint→Option Nat
 |.val i _=>some i
 |.act i _ _=>some i
 |.AX i _ _=>some i
 |.l2 i _=>some i
 |.go i=>some i
 |.hb i _=>some i
 |.tz i _=>some i
 |.l3 i _ _=>some i
 |.run i _=>some i
 |.AY i _=>some i
 |.enter i=>some i
 |_=>none
def pop(dW:pI)(q:Nat)(ops:Array Oper)(draw:Bool)(au i:Nat)(F:a')(h:I)(o:Op)(hs:List Hint):xr :=
 match hs with
 |x::r =>
  match x.at with
  |some j=>cond (Nat.beq (1000*q+i) j) (rB P E dW draw ops au i F h o x r) (kW E draw ops au i F h o hs)
  |none=>kW E draw ops au i F h o hs
 |[]=>kW E draw ops au i F h o hs
def h8(call:cu)(ops:Array Oper)(draw:Bool)(au i:Nat)(ρ:Operand→R)(h:I)(o:Op):Option (R×I) :=
 if draw then du E call ops au i ρ h o else gz E call (au+i) ρ h o
theorem GH{nid:Nat}{ρ cq:Operand→R}{h:I}{o:Op}(bN:∀x∈o.operands.toList,ρ x=cq x):dN E nid ρ h o=dN E nid cq h o:=by
 cases o
 case call c =>
  simp only [Op.operands,Call.operands,Array.toList_append,List.mem_append]at bN;simp only [dN];have aD:=pw (xs:=c.args) (fun x ac=>bN x (.inr ac));cases gp:c.callee with
  |value f =>
   rw [gp]at bN;simp only [aD,bN f (.inl a1)]
  |invoke r m=>rfl
  |builtin b=>rfl
 case convert s d x =>
  simp only [Op.operands]at bN;simp only [dN];rw [bN x a1]
 all_goals rfl
theorem GI{o:Op}(h:gj o=true):cG o=.pure:=by cases o<;>simp only [gj,Bool.false_eq_true]at h<;>rfl
theorem xt{call:cu}{ops:Array Oper}{draw:Bool}{au i:Nat}{ρ:Operand→R}{h af:I}{o:Op}{v:R}(aD:bb E call (au+i) ρ h o=none)(ac:dN E (au+i) ρ h o=some (v,af))
 (az:draw=true→gj o=true∧(im ops i=true∨gk ops au i ρ o=true)):h8 E call ops draw au i ρ h o=some (v,af):=by
 unfold h8;cases draw with
 |false=>simp only [Bool.false_eq_true,if_false,gz,aD,ac]
 |true =>
  obtain⟨aa,ae⟩:=az rfl;simp only [if_true];unfold du;simp only [GI aa,aD,aa,ae,and_self,if_true,ac]
theorem gR{call:cu}{ops:Array Oper}{draw:Bool}{au i:Nat}{ρ:Operand→R}{h af:I}{o:Op}{v:R}(aD:bb E call (au+i) ρ h o=some (v,af))(az:bm (cond draw (ga ops au i ρ h o af) [])) :
 h8 E call ops draw au i ρ h o=some (v,af):=by
 unfold h8;cases draw with
 |false=>simp only [Bool.false_eq_true,if_false,gz,aD]
 |true =>
  have az:bm (ga ops au i ρ h o af):=az;simp only [if_true];unfold du;unfold ga at az;cases fK:cG o<;>simp only [fK]at az⊢ <;>try exact aD
  ·rw [aD]
  ·split
   ·rename_i b an;rw [an]at az;simp only at az;cases av:(mC ops i || (Nat.blt b au || (Nat.blt b (au+ops.size)&&(ordered (cB ops) (b-au) i&&!lF ops (cB ops) i))))with
    |false=>rw [av]at az;exact az.head.elim
    |true =>
     simp only [Bool.or_eq_true,Bool.and_eq_true,Bool.not_eq_true']at av;rw [if_pos]
     ·exact aD
     ·rcases av with av|av|⟨av,cJ,GJ⟩
      ·exact .inl av
      ·exact .inr (.inl (Nat.blt_eq.mp av))
      ·exact .inr (.inr ⟨Nat.blt_eq.mp av,cJ,GJ⟩)
   ·rename_i an;rw [an]at az;exact az.head.elim
  ·split
   ·rename_i b an;rw [an]at az;simp only at az;cases av:(js ops (cB ops) i&&Nat.blt b au)with
    |true=>rw [av]at az;exact az.head.elim
    |false =>
     rw [if_neg]
     ·exact aD
     ·rintro ⟨aa,ae⟩;rw [aa,Nat.blt_eq.mpr ae]at av;cases av
   ·rename_i an;rw [an]at az;exact az.head.elim
  ·simp only [aD];cases ay:js ops (cB ops) i with
   |false=>simp
   |true =>
    rw [ay,cond_true]at az;simp only [if_true];rw [if_pos az.head]
  ·cases av:lG ops au i (fA ρ o)with
   |true=>simp [aD]
   |false=>rw [av]at az;exact az.head.elim
theorem xu{ops:Array Oper}{draw:Bool}{au i:Nat}{F:a'}{h af:I}{o:Op}{hs cI:List Hint}{v:R}{cs:List Prop}{cf:List fr}(ab:kW E draw ops au i F h o hs=some (v,af,cI,cs,cf))(al:bm cs)(call:cu) :
 h8 E call ops draw au i (aY F) h o=some (v,af):=by
 unfold kW at ab;cases an:pH o
 ·rw [an]at ab;cases ab
 ·rw [an,cond_true]at ab;split at ab
  ·rename_i v1 aa aD;simp only [Option.some.injEq,Prod.mk.injEq]at ab;obtain⟨rfl,rfl,_,rfl,_⟩:=ab;exact gR E ((tB E an call).symm.trans aD) al
  ·rename_i aD;cases av:(!draw || (gj o&&(im ops i || gk ops au i (aY F) o)))with
   |false=>rw [av]at ab;cases ab
   |true =>
    rw [av,cond_true]at ab;split at ab
    ·rename_i v1 aa ac;simp only [Option.some.injEq,Prod.mk.injEq]at ab;obtain⟨rfl,rfl,_,rfl,_⟩:=ab;refine xt E ((tB E an call).symm.trans aD) ac fun pq=> ?_
     rw [pq]at av;simpa using av
    ·cases ab
theorem GK{dW:pI}{ops:Array Oper}{draw:Bool}{au i:Nat}{F:a'}{h af:I}{o:Op}{x:Hint}{hs cI:List Hint}{v:R}{cs:List Prop}{cf:List fr}(ab:rB P E dW draw ops au i F h o x hs=some (v,af,cI,cs,cf))(al:bm cs){call:cu}
 (ap:∀c∈cf,c.holds call):h8 E call ops draw au i (aY F) h o=some (v,af):=by
 unfold rB at ab;split at ab
 ·split at ab
  ·rename_i c;split at ab
   ·rename_i f aM;split at ab
    ·rename_i g fs oF ah;split at ab
     ·rename_i v1 aa cK lV eb;simp only [Option.some.injEq,Prod.mk.injEq]at ab;obtain⟨rfl,rfl,_,rfl,rfl⟩:=ab;refine gR E ?_ al.left;simp only [bb,aM,ah,kD];exact ap _ (List.mem_singleton.2 rfl)
     ·cases ab
    ·cases ab
   ·cases ab
  ·cases ab
 ·simp only [Option.some.injEq,Prod.mk.injEq]at ab;obtain⟨rfl,rfl,_,rfl,rfl⟩:=ab;exact gR E (A1 P E al.head ap) al.tail
 ·simp only [Option.some.injEq,Prod.mk.injEq]at ab;obtain⟨rfl,rfl,_,rfl,rfl⟩:=ab;exact gR E (xo P E al.head ap) al.tail
 ·simp only [Option.some.injEq,Prod.mk.injEq]at ab;obtain⟨rfl,rfl,_,rfl,rfl⟩:=ab;refine gR E (xo P E al.head ap) ?_;have bz:=al.tail;cases draw with
  |false=>intro p ab;cases ab
  |true=>exact A4 bz
 ·simp only [Option.some.injEq,Prod.mk.injEq]at ab;obtain⟨rfl,rfl,_,rfl,rfl⟩:=ab;refine gR E (A1 P E al.head ap) ?_;have bz:=al.tail;cases draw with
  |false=>intro p ab;cases ab
  |true=>exact A4 bz
 ·split at ab
  ·rename_i v1 aa p ah;simp only [Option.some.injEq,Prod.mk.injEq]at ab;obtain⟨rfl,rfl,_,rfl,_⟩:=ab;exact gR E (Gy E ah al.head call) al.tail
  ·cases ab
 ·split at ab
  ·rename_i v1 p ah;simp only [Option.some.injEq,Prod.mk.injEq]at ab;obtain⟨rfl,rfl,_,rfl,_⟩:=ab;exact gR E (GF E ah al.head call) al.tail
  ·cases ab
 ·split at ab
  ·rename_i aa p ah;simp only [Option.some.injEq,Prod.mk.injEq]at ab;obtain⟨rfl,rfl,_,rfl,_⟩:=ab;exact gR E (GG E ah al.head call) al.tail
  ·cases ab
 ·cases av:(gj o&&(!draw || (im ops i || gk ops au i (aY F) o)))with
  |false=>rw [av]at ab;cases ab
  |true =>
   rw [av,cond_true]at ab;simp only [Bool.and_eq_true]at av;split at ab
   ·rename_i aD;simp only [Option.some.injEq,Prod.mk.injEq]at ab;obtain⟨rfl,rfl,_,rfl,_⟩:=ab
    have pj:pH o=true:=by cases o<;>first|rfl|(simp [gj]at av)
    refine xt E ((tB E pj call).symm.trans aD) al.head fun pq=>⟨av.1,?_⟩
    have:=av.2;rw [pq]at this;simpa using this
   ·cases ab
 ·split at ab
  ·rename_i c;split at ab
   ·rename_i f aM;split at ab
    ·rename_i g fs oF ah;split at ab
     ·rename_i v1 aa eb;simp only [Option.some.injEq,Prod.mk.injEq]at ab;obtain⟨rfl,rfl,_,rfl,rfl⟩:=ab;refine gR E ?_ al;simp only [bb,aM,ah,kD];exact ap _ (List.mem_singleton.2 rfl)
     ·cases ab
    ·cases ab
   ·cases ab
  ·cases ab
 ·split at ab
  ·rename_i c;split at ab
   ·rename_i f aM;split at ab
    ·rename_i g fs oF ah;split at ab
     ·rename_i v1 aa eb;simp only [Option.some.injEq,Prod.mk.injEq]at ab;obtain⟨rfl,rfl,_,rfl,rfl⟩:=ab;refine gR E ?_ al;simp only [bb,aM,ah,kD];exact ap _ (List.mem_singleton.2 rfl)
     ·cases ab
    ·cases ab
   ·cases ab
  ·cases ab
 ·cases ab
theorem A5{dW:pI}{q:Nat}{ops:Array Oper}{draw:Bool}{au i:Nat}{F:a'}{h af:I}{o:Op}{hs cI:List Hint}{v:R}{cs:List Prop}{cf:List fr}(ab:pop P E dW q ops draw au i F h o hs=some (v,af,cI,cs,cf))(al:bm cs){call:cu}
 (ap:∀c∈cf,c.holds call):h8 E call ops draw au i (aY F) h o=some (v,af):=by
 unfold pop at ab;split at ab
 ·split at ab
  ·rename_i j aW;cases an:Nat.beq (1000*q+i) j
   ·rw [an,cond_false]at ab;exact xu E ab al call
   ·rw [an,cond_true]at ab;exact GK P E ab al ap
  ·exact xu E ab al call
 ·exact xu E ab al call
def xv(dW:pI):Prop:= ∀f args h hs v af cI cs,dW f args h hs=some (v,af,cI,cs)→bm cs→bn P E.cond f args h v af
theorem A6(bA:e7 P E)(cX:P.follows .mixedOrders=true){dW:pI}(hJ:xv P E dW){q:Nat}{ops:Array Oper}{draw:Bool}{au i:Nat}{F:a'}{h af:I}{o:Op}{hs cI:List Hint}{v:R}{cs:List Prop}{cf:List fr}(ab:pop P E dW q ops draw au i F h o hs=some (v,af,cI,cs,cf))(al:bm cs) :
 ∀c∈cf,bn P E.cond c.f c.args c.h c.v c.af:=by
 have plain:∀{lU:List Hint},kW E draw ops au i F h o lU=some (v,af,cI,cs,cf)→ ∀c∈cf,bn P E.cond c.f c.args c.h c.v c.af:=by
  intro lU ab;unfold kW at ab;cases an:pH o
  ·rw [an]at ab;cases ab
  ·rw [an,cond_true]at ab;split at ab
   ·simp only [Option.some.injEq,Prod.mk.injEq]at ab;obtain⟨_,_,_,_,rfl⟩:=ab;intro c al;simp at al
   ·cases av:(!draw || (gj o&&(im ops i || gk ops au i (aY F) o)))with
    |false=>rw [av]at ab;cases ab
    |true =>
     rw [av,cond_true]at ab;split at ab
     ·simp only [Option.some.injEq,Prod.mk.injEq]at ab;obtain⟨_,_,_,_,rfl⟩:=ab;intro c al;simp at al
     ·cases ab
 unfold pop at ab;split at ab
 ·split at ab
  ·rename_i j aW;cases an:Nat.beq (1000*q+i) j
   ·rw [an,cond_false]at ab;exact plain ab
   ·rw [an, cond_true]at ab;unfold rB at ab;split at ab
    ·split at ab
     ·split at ab
      ·split at ab
       ·split at ab
        ·rename_i eb;simp only [Option.some.injEq,Prod.mk.injEq]at ab;obtain⟨_,_,_,rfl,rfl⟩:=ab;intro c hm;simp only [List.mem_singleton]at hm;subst hm;exact hJ _ _ _ _ _ _ _ _ eb al.right
        ·cases ab
       ·cases ab
      ·cases ab
     ·cases ab
    ·simp only [Option.some.injEq,Prod.mk.injEq]at ab;obtain⟨rfl,rfl,_,rfl,rfl⟩:=ab;exact A2 P E al.head
    ·simp only [Option.some.injEq,Prod.mk.injEq]at ab;obtain⟨rfl,rfl,_,rfl,rfl⟩:=ab;exact xp P E al.head
    ·simp only [Option.some.injEq,Prod.mk.injEq]at ab;obtain⟨rfl,rfl,_,rfl,rfl⟩:=ab;exact xp P E al.head
    ·simp only [Option.some.injEq,Prod.mk.injEq]at ab;obtain⟨rfl,rfl,_,rfl,rfl⟩:=ab;exact A2 P E al.head
    all_goals first
     |(split at ab
       ·simp only [Option.some.injEq,Prod.mk.injEq]at ab;obtain⟨_,_,_,_,rfl⟩:=ab;intro c al;simp at al
       ·cases ab
       done)
     |(cases ab;done)
     |skip
    ·cases av:(gj o&&(!draw || (im ops i || gk ops au i (aY F) o)))with
     |false=>rw [av]at ab;cases ab
     |true =>
      rw [av,cond_true]at ab;split at ab
      ·simp only [Option.some.injEq,Prod.mk.injEq]at ab;obtain⟨_,_,_,_,rfl⟩:=ab;intro c al;simp at al
      ·cases ab
    ·split at ab
     ·split at ab
      ·split at ab
       ·split at ab
        ·rename_i eb;simp only [Option.some.injEq,Prod.mk.injEq]at ab;obtain⟨_,_,_,_,rfl⟩:=ab;intro c al;simp only [List.mem_singleton]at al;subst al;exact bn.mZ bA cX eb
        ·cases ab
       ·cases ab
      ·cases ab
     ·cases ab
    ·split at ab
     ·split at ab
      ·split at ab
       ·split at ab
        ·rename_i eb;simp only [Option.some.injEq,Prod.mk.injEq]at ab;obtain⟨_,_,_,_,rfl⟩:=ab;intro c al;simp only [List.mem_singleton]at al;subst al;rw [oD]at eb;exact bn.mZ bA cX eb
        ·cases ab
       ·cases ab
      ·cases ab
     ·cases ab
  ·exact plain ab
 ·exact plain ab
def xw(n:Nat)(o:Oper):Bool :=
 match o.dst with
 |some d=>Nat.blt d n
 |none=>true
def l5(E:bq)(call:cu)(ops:Array Oper)(draw:Bool)(au:Nat)(l:List Nat)(s:dl):Option dl :=
 if draw then hy E call ops au l s else kE E call ops au l s
theorem GL{call:cu}{ops:Array Oper}{draw:Bool}{au i:Nat}{l:List Nat}{s:List R}{h af:I}{o:Oper}{v:R}(aj:ops[i]? =some o)(hw:gA ops s o=some true)
 (aD:h8 E call ops draw au i (bX s) h o.op=some (v,af)):l5 E call ops draw au (i::l) ⟨s,h⟩=l5 E call ops draw au l ⟨fl s o.dst v,af⟩:=by
 unfold l5 h8 at *;cases draw with
 |false=>simp only [Bool.false_eq_true,if_false]at aD⊢; simp only [kE,mA,aj,hw,aD]
 |true=>simp only [if_true]at aD⊢; simp only [hy,iT,aj,hw,aD]
theorem GM{call:cu}{ops:Array Oper}{draw:Bool}{au i:Nat}{l:List Nat}{s:List R}{h:I}{o:Oper}(aj:ops[i]? =some o)(hw:gA ops s o=some false) :
 l5 E call ops draw au (i::l) ⟨s,h⟩=l5 E call ops draw au l ⟨fl s o.dst ek,h⟩:=by
 unfold l5;cases draw with
 |false=>simp only [Bool.false_eq_true,if_false,kE,mA,aj,hw]
 |true=>simp only [if_true,hy,iT,aj,hw]
theorem A7(s:List R)(d:Option Tmp)(v:R):(fl s d v).length=s.length:=by cases d<;>simp [fl]
structure xx(a b:List R)(h k:I)(v u:R)(af dS:I):Prop where
 agree:a=b→h=k→v=u∧af=dS
def A8(a b:fr):List Prop:=cond (Nat.beq a.f b.f) [xx a.args b.args a.h b.h a.v b.v a.af b.af] []
def tD:List fr→List Prop
 |[]=> []
 |a::r=>r.flatMap (A8 a)++tD r
open Classical in
def nd:List fr→cu
 |[],_,_,_=>none
 |k::r,f,args,h=>if k.f=f∧k.args=args∧k.h=h then some (k.v,k.af)else nd r f args h
theorem A9:∀{cf:List fr}{f:FuncId}{args:List R}{h:I}{v:R}{af:I},nd cf f args h=some (v,af)→ ∃k∈cf,k.f=f∧k.args=args∧k.h=h∧k.v=v∧k.af=af
 |[],f,args,h,v,af,al=>by cases al
 |k ::r,f,args,h,v,af,al=>by
  simp only [nd]at al;split at al
  ·rename_i e;simp only [Option.some.injEq,Prod.mk.injEq]at al;exact⟨k,a1,e.1,e.2.1,e.2.2,al.1,al.2⟩
  ·obtain⟨dS,hm,q⟩:=A9 al;exact⟨dS,by simp [hm],q⟩
theorem A':∀{cf:List fr},bm (tD cf)→ ∀c∈cf,c.holds (nd cf)
 |[],_,c,al=>by simp at al
 |k ::r,hu,c,al=>by
  simp only [tD]at hu;unfold fr.holds;simp only [nd];split
  ·rename_i e;rcases List.mem_cons.1 al with rfl|hm
   ·rfl
   ·have:=hu.left
    have av:k.v=c.v∧k.af=c.af:=by have aa:xx k.args c.args k.h c.h k.v c.v k.af c.af:=this _ (List.mem_flatMap.2 ⟨c,hm,by unfold A8;rw [beq_true e.1];simp⟩);exact aa.agree e.2.1 e.2.2
    rw [av.1,av.2]
  ·rename_i e;rcases List.mem_cons.1 al with rfl|hm
   ·exact absurd ⟨rfl,rfl,rfl⟩ e
   ·exact A' hu.right c hm
theorem GN{cf:List fr}(ap:∀c∈cf,bn P E.cond c.f c.args c.h c.v c.af){aF:Nat→Prop}{aN:World}(ck:dq aF aN.heap.size)(ef:E.cond aF aN):j7 P aF aN (nd cf):=by intro f args h v af al φ w cx dt b' dD;obtain⟨k,hm,rfl,rfl,rfl,rfl,rfl⟩:=A9 al;exact ap k hm aF aN ck ef φ w cx dt b' dD
def oG:Nat→List R→a'
 |_,[]=> []
 |i,v::r=>(i,v)::oG (i+1) r
def jf(D:ci)(F:a')(h:I):List ResultVar→List Hint→Option (List R×List Prop)
 |[],[]=>some ([],[])
 |[],_=>none
 |.tmp t::r,hs=>match fq F t,jf D F h r hs with|some v,some (l,cs)=>some (v::l,cs)|_,_=>none
 |.cell a t::r,.cell v::hs=>match fq F a,jf D F h r hs with|some (.ptr (some p)),some (l,cs)=>some (v::l,(bp D t p h=some v)::cs)|_,_=>none
 |.cell a t::r,hs =>
  match fq F a with
  |some (.ptr (some p)) =>
   match bp D t p h with
   |some v=>match jf D F h r hs with|some (l,cs)=>some (v::l,cs)|none=>none
   |none=>none
  |_=>none
end
end
end Go.bh
namespace Go.bh
noncomputable section
open Go.RowKit
section
variable {P:Program}{E:bq}
def tE(φ:Map)(S:Nat→Prop)(aN:World)(n:Nat)(F:a')(h:I)(a:Act)(w:World):Prop:= ∃s:List R,s.length=n∧Has F s∧eL φ S aN ⟨s,h⟩ a w
def h9(P:Program)(C:(Nat→Prop)→World→Prop)(base n:Nat)(lZ:(Exit→Act→World→Prop)→Act→World→Prop)(F:a')(h:I)(e:ch)(cj:a')(af:I):Prop :=
 ∀(S:Nat→Prop)(aN:World),dq S aN.heap.size→C S aN→ ∀(c7 φ:Map)(a:Act)(w:World),(∀i v p,c7 i v=some p→i<base)→dr c7 φ base→tE φ S aN n F h a w →
  ∀Q:Exit→Act→World→Prop,(∀aZ bD aL,dr c7 aZ base→tE aZ S aN n cj af bD aL→Q (rj e) bD aL)→lZ Q a w
def cQ(P:Program)(C:(Nat→Prop)→World→Prop)(base n:Nat)(c:Code)(F:a')(h:I)(e:ch)(cj:a')(af:I):Prop:=h9 P C base n (fun Q a w=>c.wp P Q a w) F h e cj af
def b8(P:Program)(C:(Nat→Prop)→World→Prop)(base n:Nat)(c:Code)(F:a')(h:I)(e:ch)(cj:a')(af:I):Prop:=h9 P C base n (fun Q a w=>ow P c Q a w) F h e cj af
def oH(P:Program)(body:Option Code)(c:Code):(Exit→Act→World→Prop)→Act→World→Prop :=
 match body with
 |none=>fun Q a w=>c.wp P Q a w
 |some b=>fun Q a w=>pC P b c Q a w
theorem cQ.ei{C:(Nat→Prop)→World→Prop}{base n:Nat}{c:Code}{F cj:a'}{h af:I}{e:ch}(k:b8 P C base n c F h e cj af):cQ P C base n (.loop c) F h e cj af :=
 fun S aN bF ef c7 φ a w a6 ap r Q ep=>Ay (k S aN bF ef c7 φ a w a6 ap r Q ep)
theorem b8.step{C:(Nat→Prop)→World→Prop}{base n:Nat}{c:Code}{F aA kc:a'}{h aa ae:I}{e:ch}(a7:cQ P C base n c F h .normal aA aa)(ba:b8 P C base n c aA aa e kc ae):b8 P C base n c F h e kc ae :=
 fun S aN bF ef c7 φ a w a6 ap r Q ep=>wV (a7 S aN bF ef c7 φ a w a6 ap r _ fun aZ bD aL cW dE=>ba S aN bF ef c7 aZ bD aL a6 cW dE Q ep)
theorem b8.last{C:(Nat→Prop)→World→Prop}{base n:Nat}{c:Code}{F aA:a'}{h aa:I}{e:ch}(he:e≠ .normal)(a7:cQ P C base n c F h e aA aa):b8 P C base n c F h e aA aa :=
 fun S aN bF ef c7 φ a w a6 ap r Q ep=>wV (a7 S aN bF ef c7 φ a w a6 ap r _ fun aZ bD aL cW dE=>by
  have:=ep aZ bD aL cW dE;cases e with
  |normal=>exact absurd rfl he
  |_=>exact this)
def cY(base n:Nat)(F:a')(h:I)(aA:a')(aa:I):Prop :=
 ∀(S:Nat→Prop)(aN:World)(c7 φ:Map)(a:Act)(w:World),(∀i v p,c7 i v=some p→i<base)→dr c7 φ base→tE φ S aN n F h a w→ ∃pJ,dr c7 pJ base∧tE pJ S aN n aA aa a w
theorem h9.pre{C:(Nat→Prop)→World→Prop}{base n:Nat}{lZ:(Exit→Act→World→Prop)→Act→World→Prop}{F G cj:a'}{h g af:I}{e:ch}(k:h9 P C base n lZ F h e cj af)(i:cY base n G g F h):h9 P C base n lZ G g e cj af :=
 fun S aN bF ef c7 φ a w a6 ap r Q ep=>by obtain⟨pJ,eV,dY⟩:=i S aN c7 φ a w a6 ap r;exact k S aN bF ef c7 pJ a w a6 eV dY Q ep
theorem h9.post{C:(Nat→Prop)→World→Prop}{base n:Nat}{lZ:(Exit→Act→World→Prop)→Act→World→Prop}{F cj Ba:a'}{h af fH:I}{e:ch}(k:h9 P C base n lZ F h e cj af)(i:cY base n cj af Ba fH):h9 P C base n lZ F h e Ba fH :=
 fun S aN bF ef c7 φ a w a6 ap r Q ep=>k S aN bF ef c7 φ a w a6 ap r Q fun aZ bD aL cW dE=>by obtain⟨pJ,eV,dY⟩:=i S aN c7 aZ bD aL a6 cW dE;exact ep pJ bD aL eV dY
def a'.le(G F:a'):Prop:= ∀t v,fq G t=some v→fq F t=some v
theorem a'.pK(F:a')(l:List Nat):a'.le (nb F l) F:=fun _ _ h=>tw h
theorem cY.facts{base n:Nat}{F G:a'}{h:I}(k:a'.le G F):cY base n F h G h :=
 fun S aN c7 φ a w a6 ap ⟨s,aI,df,r⟩=>⟨φ,ap,s,aI,fun t v bg=>df t v (k t v bg),r⟩
theorem Bb:∀(l:List R)(i t:Nat)(v:R),fq (oG i l) t=some v→i≤t∧l[t-i]? =some v
 |[],i,t,v,h=>by cases h
 |a ::r,i,t,v,h=>by
  simp only [oG,oE]at h;split at h
  ·rename_i e;subst e;exact⟨Nat.le_refl _,by simpa using h⟩
  ·rename_i e;obtain⟨aa,ae⟩:=Bb r (i+1) t v h;refine⟨J,?_⟩;rw [show t-i=(t- (i+1))+1 by omega,List.getElem?_cons_succ];exact ae
theorem tF{D:ci}{F:a'}{h:I}{s:List R}(df:Has F s):∀{gC:List ResultVar}{hs:List Hint}{l:List R}{cs:List Prop},jf D F h gC hs=some (l,cs)→bm cs→gB D gC ⟨s,h⟩=some l
 |[],hs,l,cs,ab,al=>by
  cases hs with
  |nil=>simp only [jf,Option.some.injEq,Prod.mk.injEq]at ab;obtain⟨rfl,_⟩:=ab;rfl
  |cons a r=>simp [jf]at ab
 |.tmp t::r,hs,l,cs,ab,al=>by
  simp only [jf]at ab;split at ab
  ·rename_i v ct oF bg ac;simp only [Option.some.injEq,Prod.mk.injEq]at ab;obtain⟨rfl,rfl⟩:=ab;simp only [gB,tF df ac al,List.getD_eq_getElem?_getD,df t v bg];rfl
  ·cases ab
 |.cell a t::r,hs,l,cs,ab,al=>by
  have go :∀{hs:List Hint}{l:List R}{cs:List Prop},(match fq F a with
   |some (.ptr (some p)) =>
    match bp D t p h with
    |some v=>match jf D F h r hs with|some (l,cs)=>some (v::l,cs)|none=>none
    |none=>none
   |_=>none)=some (l,cs)→bm cs→gB D (.cell a t::r) ⟨s,h⟩=some l:=by
   intro hs l cs ab al;split at ab
   ·rename_i p bg;split at ab
    ·rename_i v ay;split at ab
     ·rename_i ct oF ac;simp only [Option.some.injEq,Prod.mk.injEq]at ab;obtain⟨rfl,rfl⟩:=ab;simp only [gB,tF df ac al,List.getD_eq_getElem?_getD,df a _ bg,Option.getD_some,ay]
     ·cases ab
    ·cases ab
   ·cases ab
  cases hs with
  |nil=>exact go (hs:=[]) ab al
  |cons q hs =>
   cases q with
   |cell v =>
    simp only [jf]at ab;split at ab
    ·rename_i p ct oF bg ac;simp only [Option.some.injEq,Prod.mk.injEq]at ab;obtain⟨rfl,rfl⟩:=ab;have GO:bm oF:=fun p ab=>al p (by simp [ab])
     simp only [gB,tF df ac GO,List.getD_eq_getElem?_getD,df a _ bg,Option.getD_some,al.head]
    ·cases ab
   |_=>exact go (hs:=_::hs) ab al
theorem bn.GP(bA:e7 P E){f:FuncId}{fn:Func}{c:Code}(aM:P.funcs[f]? =some fn)(an:fn.body=some c){args:List R}{h af:I}{e:ch}(he:e=.normal∨e=.ret){cj:a'}{gC:List Hint}{l:List R}{cs:List Prop}
 (aR:cQ P E.cond h.U (args.length+(fn.ntmps-args.length)) c (oG 0 args) h e cj af) (ab:jf E.D cj af fn.results.toList gC=some (l,cs)) (al:bm cs) (aI:h.U≤af.U):bn P E.cond f args h (jt l) af:=by
 intro S aN bF eO φ w cx dt oy dD;refine⟨⟨fn,c,aM,an⟩,calls_of_wp aM an ?_⟩;have hlen:cx.size=args.length:=by have:=dD.length;rwa [Array.length_toList]at this
 have df:Has (oG 0 args) (args++List.replicate (fn.ntmps-args.length) ek):=by intro t u hu;obtain⟨_,ae⟩:=Bb args 0 t u hu;simp only [Nat.sub_zero]at ae;obtain⟨c1,_⟩:=List.getElem?_eq_some_iff.1 ae;rw [List.getElem?_append_left c1];exact ae
 have r:eL φ S aN ⟨args++List.replicate (fn.ntmps-args.length) ek,h⟩ {tmps:=cx++Array.replicate (fn.ntmps-cx.size) undef,defers:=[]} w:=by refine⟨?_,dt,oy,rfl⟩;simp only [Array.toList_append,Array.toList_replicate,hlen];exact dD.append (aT.replicate (ar.ek φ) _)
 refine aR S aN bF eO φ φ _ w (fun i v p ab=>(dt.b6 i v p ab).1) (dr.refl _ _) ⟨_,a1,df,r⟩ _ fun aZ bD aL ap ⟨aX,dU,f1,dY⟩=> ?_
 have ay:=tF f1 ab al;obtain⟨aK,a7,ba⟩:=AE bA.fp dY ay;rcases he with rfl|rfl
 ·exact⟨dY.defers,aK,a7,aK,aZ,rfl,ap,ba,dY.heap,dY.below,aI⟩
 ·exact⟨dY.defers,aK,a7,aK,aZ,rfl,ap,ba,dY.heap,dY.below,aI⟩
theorem cY.be{base n:Nat}{F aA:a'}{h aa:I}{r:Nat→Nat}(hw:tg r aa h)(aM:∀t v,fq aA t=some v→t<n∧fq F t=some (v.be r)∧bH (In aa) v)
 (aJ:∀i,i<base→In h i→In aa i) (bl:∀i,i<base→In aa i→r i=i) (cZ:∀i,In aa i→r i<base→i<base):cY base n F h aA aa:=by
 intro S aN c7 φ a w a6 ap ⟨s,aI,df,oI⟩;have GQ:a.tmps.toList.length=n:=by rw [oI.c'.length];exact aI
 refine⟨f' φ r aa,⟨?_,?_,?_⟩,(List.range n).map (fun t=>(fq aA t).getD .undef),a1,?_,⟨?_,oI.heap.f' hw ?_,oI.below,oI.defers⟩⟩
 ·intro i v p ab;have ag:=a6 i v p ab;have c6:=ap.le i v p ab;obtain⟨_,b,an,_⟩:=oI.heap.b6 i v p c6;have fw:=aJ i ag (by unfold In;rw [an];rfl);rw [l0 fw,bl i ag fw];exact c6
 ·intro i ag h1 u;have:=ap.new i ag h1;unfold f';split
  ·rename_i fw;rw [bl i ag fw];exact this u
  ·rfl
 ·intro i v p ab cT;obtain⟨fw,c6⟩:=iB ab;have aa:=ap.ro _ _ _ c6 cT;have ae:=cZ i fw (a6 _ _ _ aa);rw [bl i ae fw]at aa;exact aa
 ·intro t v bg;obtain⟨bz,_,_⟩:=aM t v bg;simp [bz,bg]
 ·refine aT.iV (by simp [GQ]) fun t x V ac u1=> ?_
  have bz:t<n:=by have:=(List.getElem?_eq_some_iff.1 ac).1;simpa using this
  simp only [List.getElem?_map,List.getElem?_range bz,Option.map_some,Option.some.injEq]at ac;cases ay:fq aA t with
  |none=>rw [ay]at ac;simp at ac;subst ac;simp [ar]
  |some v =>
   rw [ay]at ac;simp at ac;subst ac;obtain⟨_,g1,g2⟩:=aM t v ay;obtain⟨Nf,bk,bV⟩:=oI.c'.get (df t _ g1);rw [u1]at bk;simp at bk;subst bk;exact ar.iA (fun i ag v p ab=>by rw [l0 ag];exact ab) g2 bV
 ·intro i v p ab cT;obtain⟨_,c6⟩:=iB ab;obtain⟨_,B,_,_,_,_,_,_,oz⟩:=oI.heap.b6 _ _ _ c6;exact oz.base cT
def loops:Code→List Code
 |.seq a b=>loops a++loops b
 |.cond _ a b=>loops a++loops b
 |.block _ c=>loops c
 |.scope c=>loops c
 |.loop c=>c::loops c
 |_=> []
def GR(P:Program)(f:FuncId):Code :=
 match P.funcs[f]? with
 |some fn=>match fn.body with|some c=>c|none=> .skip
 |none=> .skip
def GS(P:Program)(f:FuncId)(k:Nat):Code:=(loops (GR P f))[k]?.getD .skip
theorem bn.be{C:(Nat→Prop)→World→Prop}{f:FuncId}{args:List R}{h af ae:I}{v v2:R}{r:Nat→Nat}(k:bn P C f args h v af)(hw:tg r ae af)(bg:v=v2.be r)(fK:bH (In ae) v2)
 (aJ:∀i,i<h.U→In af i→In ae i) (bl:∀i,i<h.U→In ae i→r i=i) (cZ:∀i,In ae i→r i<h.U→i<h.U) (aI:h.U≤ae.U):bn P C f args h v2 ae:=by
 subst bg;intro S aN bF eO φ w cx dt oy dD;obtain⟨g1,g2⟩:=k S aN bF eO φ w cx dt oy dD;refine⟨g1,g2.mono fun e aL ⟨aK,aZ,he,j',bg,aR,hs,hc⟩=> ?_⟩;refine⟨aK,f' aZ r ae,he,⟨?_,?_,?_⟩,ar.iA (fun i ag v p ab=>by rw [l0 ag];exact ab) fK bg,aR.f' hw ?_,hs,aI⟩
 ·intro i u p ab;have ag:=(dt.b6 i u p ab).1;have c6:=j'.le i u p ab;obtain⟨_,b,an,_⟩:=aR.b6 i u p c6;have fw:=aJ i ag (by unfold In;rw [an];rfl);rw [l0 fw,bl i ag fw];exact c6
 ·intro i ag h1 u;have:=j'.new i ag h1;unfold f';split
  ·rename_i fw;rw [bl i ag fw];exact this u
  ·rfl
 ·intro i u p ab cT;obtain⟨fw,c6⟩:=iB ab;have aa:=j'.ro _ _ _ c6 cT;have ae:=cZ i fw (dt.b6 _ _ _ aa).1;rw [bl i ae fw]at aa;exact aa
 ·intro i u p ab cT;obtain⟨_,c6⟩:=iB ab;obtain⟨_,B,_,_,_,_,_,_,oz⟩:=aR.b6 _ _ _ c6;exact oz.base cT
theorem bm.nil:bm []:=fun p ab=>by simp at ab
theorem bm.cons{p:Prop}{l:List Prop}(h:p)(k:bm l):bm (p::l):=fun q av=>by
 rcases List.mem_cons.1 av with rfl|av
 ·exact h
 ·exact k q av
def cO(v:R):Prop:=(∀r,v.be r=v)∧bH (fun _=>False) v
theorem cO.bool(b:Bool):cO (.bool b):=⟨fun _=>rfl,trivial⟩
theorem cO.int(k:IntKind)(n:Int):cO (.int k n):=⟨fun _=>rfl,trivial⟩
theorem cO.str(s:List UInt8):cO (.str s):=⟨fun _=>rfl,trivial⟩
mutual
theorem bH.mono{D rC:Nat→Prop}(h:∀i,D i→rC i):∀{v:R},bH D v→bH rC v
 |.ptr (some a),k=>by simp only [bH]at k⊢; exact h _ k
 |.slice (some a) _ _,k=>by simp only [bH]at k⊢; exact h _ k
 |.func _ f c,k=>by simp only [bH]at k⊢; exact⟨ec.mono h k.1,ec.mono h k.2⟩
 |.iface _ v,k=>by simp only [bH]at k⊢; exact bH.mono h k
 |.agg cs,k=>by simp only [bH]at k⊢; exact ec.mono h k
 |.tuple vs,k=>by simp only [bH]at k⊢; exact ec.mono h k
 |.undef,_=>by simp [bH]
 |.bool _,_=>by simp [bH]
 |.int _ _,_=>by simp [bH]
 |.str _,_=>by simp [bH]
 |.ptr none,_=>by simp [bH]
 |.slice none _ _,_=>by simp [bH]
 |.nilFunc,_=>by simp [bH]
 |.nilIface,_=>by simp [bH]
theorem ec.mono{D rC:Nat→Prop}(h:∀i,D i→rC i):∀{l:List R},ec D l→ec rC l
 |[],_=>by simp [ec]
 |a::l,k=>by simp only [ec]at k⊢; exact⟨bH.mono h k.1,ec.mono h k.2⟩
end
theorem bn.bare{C:(Nat→Prop)→World→Prop}[jd C]{f:FuncId}{args:List R}{v:R}{af:I}(k:bn P C f args ⟨0,.nil⟩ v af)(aD:∀a∈args,cO a)(bg:cO v)(H:I):bn P C f args H v H:=by
 have a7:bn P C f args ⟨0,.nil⟩ v ⟨0,.nil⟩:=by
  refine k.be (r:=fun i=>i) (v2:=v) ⟨?_,?_,?_⟩ (bg.1 _).symm (bH.mono (fun i ag=>ag.elim) bg.2) ?_ ?_ ?_ (Nat.le_refl _)
  ·intro i b an;cases an
  ·intro i j ag;cases ag
  ·intro i b an;cases an
  ·intro i ag;simp at ag
  ·intro i ag;simp at ag
  ·intro i ag;cases ag
 have ba:=a7.frame (r:=fun i=>H.U+i) (H:=H) (aH:=H) ⟨?_,?_,?_⟩ (rl.2 fun a hm=>bH.mono (fun i ag=>ag.elim) (aD a hm).2) (fun i _=> a1) ?_ a1 (fun _ _ _=>rfl)
 ·rw [bg.1]at ba
  have:args.map (R.be fun i=>H.U+i)=args:=by
   conv=>rhs;rw [←List.map_id args]
   exact List.map_congr_left fun a hm=>(aD a hm).1 _
  rw [this]at ba;exact ba
 ·intro i b an;cases an
 ·intro i j ag;cases ag
 ·intro i b an;cases an
 ·intro i b an;cases an
mutual
def R.jg:R→Bool
 |.ptr (some _)=>false
 |.slice (some _) _ _=>false
 |.func _ f c=>R.kX f&&R.kX c
 |.iface _ v=>R.jg v
 |.agg cs=>R.kX cs
 |.tuple vs=>R.kX vs
 |_=>true
def R.kX:List R→Bool
 |[]=>true
 |a::l=>R.jg a&&R.kX l
end
mutual
theorem xy:∀{v:R},v.jg=true→(∀r,v.be r=v)∧bH (fun _=>False) v
 |.ptr (some a),k=>by simp [R.jg]at k
 |.slice (some a) _ _,k=>by simp [R.jg]at k
 |.func fn f c,k=>by simp only [R.jg,Bool.and_eq_true]at k;have aa:=rD k.1;have ae:=rD k.2;exact⟨fun r=>by simp only [R.be,aa.1 r,ae.1 r],by simp only [bH];exact⟨aa.2,ae.2⟩⟩
 |.iface t v,k=>by simp only [R.jg]at k;have aa:=xy k;exact⟨fun r=>by simp only [R.be,aa.1 r],by simp only [bH];exact aa.2⟩
 |.agg cs,k=>by simp only [R.jg]at k;have aa:=rD k;exact⟨fun r=>by simp only [R.be,aa.1 r],by simp only [bH];exact aa.2⟩
 |.tuple vs,k=>by simp only [R.jg]at k;have aa:=rD k;exact⟨fun r=>by simp only [R.be,aa.1 r],by simp only [bH];exact aa.2⟩
 |.undef,_=>⟨fun _=>rfl,by simp [bH]⟩
 |.bool _,_=>⟨fun _=>rfl,by simp [bH]⟩
 |.int _ _,_=>⟨fun _=>rfl,by simp [bH]⟩
 |.str _,_=>⟨fun _=>rfl,by simp [bH]⟩
 |.ptr none,_=>⟨fun _=>rfl,by simp [bH]⟩
 |.slice none _ _,_=>⟨fun _=>rfl,by simp [bH]⟩
 |.nilFunc,_=>⟨fun _=>rfl,by simp [bH]⟩
 |.nilIface,_=>⟨fun _=>rfl,by simp [bH]⟩
theorem rD:∀{l:List R},R.kX l=true→(∀r,R.fN r l=l)∧ec (fun _=>False) l
 |[],_=>⟨fun _=>rfl,by simp [ec]⟩
 |a::l,k=>by simp only [R.kX,Bool.and_eq_true]at k;have aa:=xy k.1;have ae:=rD k.2;exact⟨fun r=>by simp only [R.fN,aa.1 r,ae.1 r],by simp only [ec];exact⟨aa.2,ae.2⟩⟩
end
theorem cO.of{v:R}(h:v.jg=true):cO v:=xy h
end
end
end Go.bh
