/-
  Parts of the proof, one behind the other:
  THE LIFT, PART J: one operation.
  THE LIFT, PART K: one region in the order of the text.
  THE LIFT, PART L: regions that draw their order: whatever order is drawn, the answer is that of the order of the text.
  THE LIFT, PART M: code and calls: what the abstract machine answers the model answers.
  THE LIFT, PART N: from an answer of the abstract machine to the model's call; types that '==' takes cell by cell.
  LIBRARY FUNCTIONS BY THE KIT's CONTRACTS: strings.Join, strings.Repeat, as the abstract machine takes them: a text out of texts, the rows stay.
  A FUNCTION OF PLAIN ARGUMENTS, BY A TABLE: what it answers at these arguments is shown by closed runs on the empty heap, and holds wherever it is called.
  ROWS THAT ARE READ ALONE, AND ROWS THAT ARE TAKEN INTO THE RELATION: what a proof by hand needs to call what the machine runs.
  cluster.All: what goes over the clusters of a text hands them on, one by one (by the kit's laws on ranges over functions).
  cluster.Split: the clusters of a text, in a new row.
  THE LIFT, PART R: the abstract machine once more, so written that the kernel runs it with every value worked out at once. What it answers the abstract machine answers.
  The closed runs that cluster.Split leans on, of a few texts, and Split as the machine takes it.
  Library functions of this program by the kit's contracts: strings.Join, strings.Repeat, (*strings.Builder).copyCheck, strconv.toError.
  cluster.Split and strconv.toError as the machine takes them, and the environment of the table's statements.
  THE LIFT, PART U: one call, told of a small memory, holds in every memory that holds the small one (with other numbers for the rows).
-/
import Derived.Laws.IdiomCopy
import Derived.Scope
import Derived.Shelf.Strings.OnBuilder
import Derived.Shelf.Strings.Repeat
import Derived.Test.YtjpfnbihopoeeaaGreatDoorProg
import Derived.RangeFuncBox
import Derived.RangeFuncNested
import Derived.RangeFuncLeaves
import Derived.Shelf.Abstract
import Derived.WalkKit
import Derived.OwnWalkIn
import Derived.TacticsInMore
import Derived.LoopNIn
import Derived.LoopIn
import Derived.Maps.AppendAt
import Derived.Shelf.Pu.ToError
import Derived.Test.YtjpfnbihopoeeaaGreatDoorKTableSortsA
set_option linter.unusedVariables false
set_option linter.unusedSimpArgs false
set_option linter.unusedSectionVars false
namespace Go.Lift
noncomputable section
open Go.RowKit
def CallOk (P:Program) (N0:Nat→Prop) (w0:World) (call:ACall):Prop :=
  ∀ f args h v h',call f args h=some (v,h')→ ∀ (φ:Map) (w:World) (args':Array Value),HRel φ N0 h w→Safe N0 w0 w→VRels φ args args'.toList →
    (∃ fn c,P.funcs[f]? =some fn∧fn.body=some c) ∧
    Calls P f args' w fun e w'=> ∃ v' φ',e= .returned v'∧Keep φ φ' h.next∧VRel φ' v v'∧HRel φ' N0 h' w'∧Safe N0 w0 w'∧h.next≤h'.next
def PrimOk (P:Program) (C:(Nat→Prop)→World→Prop) (f:FuncId) (g:APrim):Prop :=
  ∀ (N0:Nat→Prop) (w0:World),Low N0 w0.heap.size→C N0 w0→ ∀ args h v h',g args h=some (v,h')→ ∀ (φ:Map) (w:World) (args':Array Value),HRel φ N0 h w→Safe N0 w0 w→VRels φ args args'.toList →
    (∃ fn c,P.funcs[f]? =some fn∧fn.body=some c) ∧
    Calls P f args' w fun e w'=> ∃ v' φ',e= .returned v'∧Keep φ φ' h.next∧VRel φ' v v'∧HRel φ' N0 h' w'∧Safe N0 w0 w'∧h.next≤h'.next
def extRow:Nat→Option (Array Value→Sem Value)
  | 0=>some Extern.BytealgCount.count
  | 1=>some Extern.BytealgIndexByte.indexByte
  | 2=>some Extern.BytealgCompare.compare
  | _=>none
structure EnvOk(P:Program)(E:AEnv):Prop where
  tys:E.D.Ok P
  eqs: ∀ t,E.eqT t=true→EqOk P t
  names: ∀ (f:Nat) fn,P.funcs[f]? =some fn→(fn.name == "runtime.NumGoroutine")=false
  prims: ∀ (f:Nat) g,E.prim f=some g→PrimOk P E.cond f g
  exts: ∀ (f:Nat) k,E.ext f=some k→ ∃ fn e,P.funcs[f]? =some fn∧fn.body.isNone=true∧Extern.findNext fn=none∧Extern.find fn=some e∧extRow k=some e
section
variable {P:Program}{φ:Map}{E:AEnv}
def Steps1(P:Program)(φ:Map)(N0:Nat→Prop)(w0:World)(h:AHeap)(nid:Nat)(v:AVal)(h':AHeap)(r:Result Next):Prop :=
  (∃ v' w' φ',(r= .ok (.value v') w'∨(r= .ok .skip w'∧v'=undef))∧Ext φ φ' h.next nid∧VRel φ' v v'∧HRel φ' N0 h' w'∧Safe N0 w0 w'∧h.next≤h'.next)
  ∨(∃ f args w',r= .ok (.enter f args) w'∧Calls P f args w' fun e w''=> ∃ v' φ',e= .returned v'∧Ext φ φ' h.next nid∧VRel φ' v v'∧HRel φ' N0 h' w''∧Safe N0 w0 w''∧h.next≤h'.next)
theorem Steps1.of_outs {N0:Nat→Prop}{w0:World}{h:AHeap}{nid:Nat}{v:AVal}{h':AHeap}{s:Sem Value}{w:World}(k:Outs P φ N0 w0 h nid v h' s w){r:Result Next}
    (hr:r=(s.run P w).andThen fun v w=> .ok (.value v) w):Steps1 P φ N0 w0 h nid v h' r:=by
  obtain⟨v',w',φ',h1,h2,h3,h4,h5,h6⟩:=k
  refine .inl ⟨v',w',φ',.inl ?_,h2,h3,h4,h5,by omega⟩
  rw [hr,h1];rfl
theorem Steps1.of_pure {N0:Nat→Prop}{w0:World}{h:AHeap}{nid:Nat}{v:AVal}{s:Sem Value}{w:World}(r0:HRel φ N0 h w)(hb:Safe N0 w0 w)(k: ∃ v',s.run P w= .ok v' w∧VRel φ v v'){r:Result Next}
    (hr:r=(s.run P w).andThen fun v w=> .ok (.value v) w):Steps1 P φ N0 w0 h nid v h r :=
  Steps1.of_outs (Outs.pure r0 hb k) hr
theorem ORel.of_map {ρ:Operand→AVal}{ρ':Operand→Value}(hρ: ∀ x,VRel φ (ρ x) (ρ' x))(o:Option Operand):ORel φ (o.map ρ) (o.map ρ'):=by
  cases o with
  | none=>trivial
  | some x=>exact hρ x
theorem args_rel {ρ:Operand→AVal}{ρ':Operand→Value}(hρ: ∀ x,VRel φ (ρ x) (ρ' x))(xs:Array Operand):VRels φ (xs.toList.map ρ) (xs.map ρ').toList:=by
  rw [Array.toList_map];exact VRels.map _ _ _ fun x _=>hρ x
theorem simples_flat {l:List AVal}(h:l.all (·.simple)=true):flat l=l:=by
  induction l with
  | nil=>rfl
  | cons a r ih =>
    simp only [List.all_cons,Bool.and_eq_true]at h
    have e:a.cells= [a]:=by cases a<;>first | rfl | (simp [AVal.simple]at h)
    show a.cells++flat r=a::r
    rw [e,ih h.2];rfl
theorem sim_copyIn {D:Tys} (hD:D.Ok P) {N0:Nat→Prop} {h h':AHeap} {w0 w:World} (r:HRel φ N0 h w) (hb0:Safe N0 w0 w) {t u ty:TypeId} {s x v:AVal} {s' x':Value} (hs:VRel φ s s') (hx:VRel φ x x') (ho:acopyIn D t s x h=some (v,h')) :
    ∃ v' w',(Builtin.copy_ #[t,u] ty #[s',x']).run P w= .ok v' w'∧VRel φ v v'∧HRel φ N0 h' w'∧Safe N0 w0 w'∧h'.next=h.next:=by
  unfold acopyIn at ho
  split at ho
  · rename_i d a len cap ax n capx hd
    obtain⟨di,du,hdi,hdu,hdk, -⟩:=hD.get hd
    split at ho
    · rename_i e hk
      rw [hdk]at hk
      have:=tkOf_slice hk;subst this
      split at ho
      · rename_i xd bx b hxd hbx hbb
        obtain⟨xi,xu,hxi, -, -,hxs, -⟩:=hD.get hxd
        split at ho
        · rename_i hc
          obtain⟨c1,c2,c3,c4,c5,c6,c7,c8,c9,c10⟩:=hc
          split at ho
          · rename_i cs hel
            split at ho
            · rename_i hc2
              obtain⟨c11,c12⟩:=hc2
              simp only [Option.some.injEq,Prod.mk.injEq]at ho
              obtain⟨rfl,rfl⟩:=ho
              simp only [VRel]at hs hx
              obtain⟨xs,cap1,rfl,hl1,hl2,hso⟩:=hs
              obtain⟨xx,capx1,rfl,hx1,hx2,hxo⟩:=hx
              rcases hso with ⟨hf,_⟩ | ⟨f,hf,q,hq,hqe,hqlo,rfl⟩
              · omega
              · obtain⟨p,hp,hpe,hpl,_⟩:=hxo.plain c3
                rw [c4]at hpe
                have hcz: ¬ capx1=0:=by omega
                rcases hpl with hz | ⟨hlo,rfl,hfit⟩
                · exact absurd hz hcz
                · obtain⟨news,n1,n2,n3,n4,n5⟩:=r.readElems hp hbx hlo c7 c8
                  rw [simples_flat c12]at n1
                  have hnl:news.length=n:=by rw [n5,← hpe,Nat.mul_one]
                  rw [c10]at hq
                  have hlim:b.lim b.ver=b.elems.length:=by simp [ABlk.lim]
                  have hidx:a.idx<b.elems.length:=(List.getElem?_eq_some_iff.1 hel).1
                  have hcl:cs.length=q.es:=by
                    obtain⟨_,c,h2,_,_,_,_,_,h8⟩:=r.dom a.id b.ver q hq
                    rw [hbb]at h2;simp at h2;subst h2
                    exact(h8.cont a.idx (.agg cs) hqlo (by rw [hlim];exact hidx) hel).1
                  have hff:a.fld-1=f:=by omega
                  have hdl:((bx.elems.drop ax.idx).take n).length=n:=by have:=n1.length;omega
                  obtain⟨k1,k2⟩:=r.store hq hbb c9 (idx:=a.idx) (fld:=f) (e:= .agg cs) (e':= .agg (putAll cs f ((bx.elems.drop ax.idx).take n))) hqlo hel n1 n3 (by rw [hdl];omega) rfl
                  rw [hff]
                  refine⟨_,_,run_copy_cells w t u ty e q.blk (q.off+(a.idx-q.lo)*q.es+f) len cap1 (p.at ax.idx 0) n capx1 news hdu (by rw [hxi];simp [hxs▸c1]) (by rw [hnl];exact(Nat.min_eq_left c6).symm) ?_ (fun j hj=>(k2 j hj).1) (fun j hj=>(k2 j hj).2) n3,?_,k1,?_,rfl⟩
                  · intro j v hv
                    have:=n2 j v hv
                    cases j with
                    | zero=>simpa [Place.at,Addr.add]using this
                    | succ j=>simpa [Place.at,Addr.add]using this
                  · rw [hnl];rfl
                  · obtain⟨_,c,h2,g3,g4,g5,g6,g7,h8⟩:=r.dom a.id b.ver q hq
                    rw [hbb]at h2;simp at h2;subst h2
                    exact below_setCells q.blk (h8.base (g6 c9)) news _ hb0
            · cases ho
          · cases ho
        · cases ho
      · cases ho
    · cases ho
  · cases ho
theorem sim_builtin (hE:EnvOk P E) {N0:Nat→Prop} {h h':AHeap} {w0 w:World} (r:HRel φ N0 h w) (hb0:Safe N0 w0 w) (hN:Low N0 w0.heap.size) {nid:Nat} (hid: ∀ v,φ nid v=none) (hn:nid<h.next)
    {b:Builtin} {ts:Array TypeId} (ty:TypeId) (consts:Array Bool) {args:List AVal} {args':Array Value} (ha:VRels φ args args'.toList) {v:AVal} (ho:abuiltin E b ts args nid h=some (v,h')) :
    Steps1 P φ N0 w0 h nid v h' ((builtin b ts ty consts args').run P w):=by
  unfold abuiltin at ho
  split at ho
  · split at ho
    · rename_i x t ht
      simp only [Option.map_eq_some_iff,Prod.mk.injEq]at ho
      obtain⟨v1,h1,rfl,rfl⟩:=ho
      exact Steps1.of_pure r hb0 (sim_len hE.tys ty ha ht h1 w) (by simp [builtin])
    · cases ho
  · split at ho
    · rename_i s x t u ht hu
      have hk:(∃ ud,E.D u=some ud∧(ud.kind matches .slice _ | .string)=true∧aappend E.D t s x nid h=some (v,h')):=by
        split at ho
        · rename_i ud hud
          split at ho
          · rename_i he;exact⟨ud,hud,by simp [he],ho⟩
          · rename_i he;exact⟨ud,hud,by simp [he],ho⟩
          · cases ho
        · cases ho
      obtain⟨ud,hud,hkind,ho⟩:=hk
      obtain⟨ui,uu,hui,huu,huk, -⟩:=hE.tys.get hud
      have hsrc:(∃ e',P.underlying u=some (.slice e'))∨P.underlying u=some .string:=by
        rw [huk]at hkind
        cases uu<;>simp [tkOf]at hkind
        · right;exact huu
        · left;exact⟨_,huu⟩
      simp only [VRels]at ha
      obtain⟨s',l1,e1,hs,x',l2,e2,hx,e3⟩:=ha
      subst e2 e3
      have hargs:args'= #[s',x']:=by apply Array.ext';simpa using e1
      have ho':=sim_append hE.tys r hb0 hN hid hn ty hs hx hsrc ho
      refine Steps1.of_outs (s:=Builtin.append_ ts ty args') (w:=w) ?_ (by simp [builtin])
      obtain⟨v',w',φ',k1,k2⟩:=ho'
      refine⟨v',w',φ',?_,k2⟩
      rw [← k1,hargs]
      have et:ts[0]? =(#[t,u]:Array TypeId)[0]? :=by rw [ht];rfl
      have eu:ts[1]? =(#[t,u]:Array TypeId)[1]? :=by rw [hu];rfl
      simp only [Builtin.append_,et,eu]
    · cases ho
  · split at ho
    · rename_i x r'
      simp only [Option.map_eq_some_iff,Prod.mk.injEq]at ho
      obtain⟨v1,h1,rfl,rfl⟩:=ho
      exact Steps1.of_pure r hb0 (sim_max ts ty ha h1 w) (by simp [builtin])
    · cases ho
  · split at ho
    · rename_i x r'
      simp only [Option.map_eq_some_iff,Prod.mk.injEq]at ho
      obtain⟨v1,h1,rfl,rfl⟩:=ho
      exact Steps1.of_pure r hb0 (sim_min ts ty ha h1 w) (by simp [builtin])
    · cases ho
  ·
    split at ho
    · rename_i s x t u ht hu
      simp only [VRels]at ha
      obtain⟨s',l1,e1,hs,x',l2,e2,hx,e3⟩:=ha
      subst e2 e3
      have hargs:args'= #[s',x']:=by apply Array.ext';simpa using e1
      obtain⟨v',w',k1,k2,k3,k4,k5⟩:=sim_copyIn (P:=P) (u:=u) (ty:=ty) hE.tys r hb0 hs hx ho
      refine Steps1.of_outs (s:=Builtin.copy_ ts ty args') (w:=w) ⟨v',w',φ,?_,Ext.refl _ _ _,k2,k3,k4,k5⟩ (by simp [builtin])
      rw [← k1,hargs]
      have et:ts[0]? =(#[t,u]:Array TypeId)[0]? :=by rw [ht];rfl
      have eu:ts[1]? =(#[t,u]:Array TypeId)[1]? :=by rw [hu];rfl
      simp only [Builtin.copy_,et,eu]
    · cases ho
  ·
    split at ho
    · rename_i x
      simp only [Option.map_eq_some_iff,Prod.mk.injEq]at ho
      obtain⟨v1,h1,rfl,rfl⟩:=ho
      simp only [VRels]at ha
      obtain⟨s',l1,e1,hs,e2⟩:=ha
      subst e2
      have hargs:args'= #[s']:=by apply Array.ext';simpa using e1
      subst hargs
      exact Steps1.of_pure r hb0 (sim_sliceData (ts:=ts) (ty:=ty) hs h1 w) (by simp [builtin])
    · cases ho
  ·
    split at ho
    · rename_i p n t ht
      simp only [VRels]at ha
      obtain⟨s',l1,e1,hs,x',l2,e2,hx,e3⟩:=ha
      subst e2 e3
      have hargs:args'= #[s',x']:=by apply Array.ext';simpa using e1
      subst hargs
      have hx':x'= .int .i64 n:=by simpa only [VRel]using hx
      subst hx'
      obtain⟨v',w',k1,k2,k3,k4,k5⟩:=sim_unsafeString hE.tys r hb0 (ty:=ty) ht hs ho
      exact Steps1.of_outs (s:=Builtin.unsafeString_ ts ty #[s',.int .i64 n]) ⟨v',w',φ,k1,Ext.refl _ _ _,k2,k3,k4,k5⟩ (by simp [builtin])
    · cases ho
  · cases ho
theorem sim_op (hE:EnvOk P E) {N0:Nat→Prop} {h h':AHeap} {w0 w:World} {call:ACall} (hcall:CallOk P N0 w0 call) (r:HRel φ N0 h w) (hb0:Safe N0 w0 w) (hN:Low N0 w0.heap.size) {nid:Nat} (hid: ∀ v,φ nid v=none)
    (hn:nid<h.next) {ρ:Operand→AVal} {ρ':Operand→Value} (hρ: ∀ x,VRel φ (ρ x) (ρ' x)) {o:Oper} {v:AVal} (ho:aop E call nid ρ h o.op=some (v,h')) :
    Steps1 P φ N0 w0 h nid v h' ((execOp ρ' o).run P w):=by
  unfold aop at ho
  split at ho
  ·
    rename_i x e;simp only [Option.some.injEq,Prod.mk.injEq]at ho;obtain⟨rfl,rfl⟩:=ho
    exact Steps1.of_pure (s:=pure (ρ' x)) r hb0 ⟨_,rfl,hρ x⟩ (by simp [execOp,e])
  · rename_i x e;simp only [Option.some.injEq,Prod.mk.injEq]at ho;obtain⟨rfl,rfl⟩:=ho
    exact Steps1.of_pure (s:=pure (ρ' x)) r hb0 ⟨_,rfl,hρ x⟩ (by simp [execOp,e])
  ·
    rename_i c a b e
    split at ho
    · rename_i t hc
      simp only [Option.some.injEq,Prod.mk.injEq]at ho;obtain⟨rfl,rfl⟩:=ho
      have h1:=hρ c;rw [hc]at h1;simp only [VRel]at h1
      refine Steps1.of_pure (s:=pure (if t then ρ' a else ρ' b)) r hb0 ⟨_,rfl,?_⟩ (by simp [execOp,e,h1,asBool])
      cases t
      · exact hρ b
      · exact hρ a
    · cases ho
  ·
    rename_i t e
    split at ho
    · rename_i d hd
      obtain⟨ti,u,hti,hu,hk,hs, -,hz⟩:=hE.tys.get hd
      split at ho
      · rename_i z hzz
        split at ho
        · rename_i hc
          simp only [Option.some.injEq,Prod.mk.injEq]at ho;obtain⟨rfl,rfl⟩:=ho
          simp only [Bool.and_eq_true,decide_eq_true_eq]at hc
          obtain⟨z',hz1,hz2⟩:=zero_rel (P:=P) (φ:=φ) (t:=t) hE.tys hz hzz
          obtain⟨w',φ',k1,k2,k3,k4,k5⟩:=sim_new (P:=P) (D:=E.D) r hb0 hN hid hn t hz2 hc.1 hc.2
          refine .inl ⟨_,w',φ',.inl ?_,k2,k3,k4,k5,Nat.le_refl _⟩
          simp [execOp,e,Instr.alloc,zero_run hti hz1,k1]
        · cases ho
      · cases ho
    · cases ho
  ·
    rename_i t x e
    split at ho
    · rename_i d hd
      split at ho
      · rename_i hc
        simp only [Option.some.injEq,Prod.mk.injEq]at ho;obtain⟨rfl,rfl⟩:=ho
        simp only [Bool.and_eq_true,decide_eq_true_eq]at hc
        obtain⟨w',φ',k1,k2,k3,k4,k5⟩:=sim_new (P:=P) (D:=E.D) r hb0 hN hid hn t (hρ x) hc.1 hc.2
        refine .inl ⟨_,w',φ',.inl ?_,k2,k3,k4,k5,Nat.le_refl _⟩
        simp [execOp,e,Instr.box,k1]
      · cases ho
    · cases ho
  ·
    rename_i t parts e
    simp only [Option.map_eq_some_iff,Prod.mk.injEq]at ho
    obtain⟨v1,h1,rfl,rfl⟩:=ho
    exact Steps1.of_pure r hb0 (sim_build hE.tys hρ h1 w) (by simp [execOp,e])
  ·
    rename_i t n parts e
    exact Steps1.of_outs (sim_buildSlice hE.tys r hb0 hN hid hn hρ ho) (by simp [execOp,e])
  ·
    rename_i t x e
    split at ho
    · rename_i a ha
      simp only [Option.map_eq_some_iff,Prod.mk.injEq]at ho
      obtain⟨v1,h1,rfl,rfl⟩:=ho
      exact Steps1.of_pure r hb0 (sim_load hE.tys r (by have:=hρ x;rw [ha]at this;exact this) h1) (by simp [execOp,e])
    · cases ho
  ·
    rename_i t x y e
    split at ho
    · rename_i a ha
      simp only [Option.map_eq_some_iff,Prod.mk.injEq]at ho
      obtain⟨h1,k0,rfl,rfl⟩:=ho
      obtain⟨w',k1,k2,k3,k4⟩:=sim_store hE.tys r hb0 (by have:=hρ x;rw [ha]at this;exact this) (hρ y) k0
      refine .inl ⟨undef,w',φ,.inr ⟨?_,rfl⟩,Ext.refl _ _ _,VRel.skipped φ,k2,k3,by omega⟩
      simp [execOp,e,k1]
    · cases ho
  ·
    rename_i x e
    split at ho
    · rename_i a ha
      simp only [Option.some.injEq,Prod.mk.injEq]at ho;obtain⟨rfl,rfl⟩:=ho
      have h1:=hρ x;rw [ha]at h1
      have h2:=h1
      simp only [VRel]at h2
      obtain⟨xa,h2,h3⟩:=h2
      exact Steps1.of_pure (s:=pure (ρ' x)) r hb0 ⟨_,rfl,h1⟩ (by simp [execOp,e,h2])
    · rename_i g fs cs ha
      simp only [Option.some.injEq,Prod.mk.injEq]at ho;obtain⟨rfl,rfl⟩:=ho
      have h1:=hρ x;rw [ha]at h1
      have h2:=h1
      simp only [VRel]at h2
      obtain⟨f',c',h2,h3,h4⟩:=h2
      exact Steps1.of_pure (s:=pure (ρ' x)) r hb0 ⟨_,rfl,h1⟩ (by simp [execOp,e,h2])
    · cases ho
  ·
    rename_i op t x y ty e
    simp only [Option.map_eq_some_iff,Prod.mk.injEq]at ho
    obtain⟨v1,h1,rfl,rfl⟩:=ho
    obtain⟨v',k1,k2,k3⟩:=sim_abin hE.tys hE.eqs (hρ x) (hρ y) h1 w
    exact Steps1.of_pure (s:=binOp op t (ρ' x) (ρ' y)) r hb0 ⟨v',k2,k3⟩ (by simp [execOp,e,k1])
  ·
    rename_i op t x e
    simp only [Option.map_eq_some_iff,Prod.mk.injEq]at ho
    obtain⟨v1,h1,rfl,rfl⟩:=ho
    exact Steps1.of_pure r hb0 (sim_unary (hρ x) h1 w) (by simp [execOp,e])
  ·
    rename_i s d x e
    simp only [Option.map_eq_some_iff,Prod.mk.injEq]at ho
    obtain⟨v1,h1,rfl,rfl⟩:=ho
    exact Steps1.of_pure r hb0 (sim_convert hE.tys (hρ x) h1 w) (by simp [execOp,e])
  ·
    rename_i g fs cs e
    simp only [Option.some.injEq,Prod.mk.injEq]at ho;obtain⟨rfl,rfl⟩:=ho
    refine Steps1.of_pure (s:=pure (.func (.func g) (fs.map ρ') (cs.map ρ'))) r hb0 ⟨_,rfl,?_⟩ (by simp [execOp,e,Instr.makeFunc])
    simp only [VRel]
    exact⟨_,_,rfl,args_rel hρ fs,args_rel hρ cs⟩
  ·
    rename_i t x e
    split at ho
    · rename_i d hd
      obtain⟨ti,u,hti,hu,hk, -⟩:=hE.tys.get hd
      split at ho
      · cases ho
      · rename_i hni
        simp only [Option.some.injEq,Prod.mk.injEq]at ho;obtain⟨rfl,rfl⟩:=ho
        refine Steps1.of_pure (s:=Instr.makeInterface t (ρ' x)) r hb0 ⟨.iface t (ρ' x),?_,by simp only [VRel];exact⟨_,rfl,hρ x⟩⟩ (by simp [execOp,e])
        rw [hk]at hni
        simp only [Instr.makeInterface,Sem.run_bind,run_underlying hu,Result.andThen_ok]
        cases u<;>first | rfl | exact absurd rfl (hni _)
    · cases ho
  ·
    rename_i t l c e
    exact Steps1.of_outs (sim_makeSlice hE.tys r hb0 hN hid hn (hρ l) (hρ c) ho) (by simp [execOp,e])
  ·
    rename_i t x lo hi mx e
    simp only [Option.map_eq_some_iff,Prod.mk.injEq]at ho
    obtain⟨v1,h1,rfl,rfl⟩:=ho
    exact Steps1.of_pure r hb0 (sim_slice hE.tys (hρ x) (ORel.of_map hρ lo) (ORel.of_map hρ hi) (ORel.of_map hρ mx) h1 w) (by simp [execOp,e])
  ·
    rename_i t x f e
    simp only [Option.map_eq_some_iff,Prod.mk.injEq]at ho
    obtain⟨v1,h1,rfl,rfl⟩:=ho
    exact Steps1.of_pure r hb0 (sim_fieldAddr hE.tys (hρ x) h1 w) (by simp [execOp,e])
  ·
    rename_i t x f e
    simp only [Option.map_eq_some_iff,Prod.mk.injEq]at ho
    obtain⟨v1,h1,rfl,rfl⟩:=ho
    exact Steps1.of_pure r hb0 (sim_field hE.tys (hρ x) h1 w) (by simp [execOp,e])
  ·
    rename_i t x i e
    simp only [Option.map_eq_some_iff,Prod.mk.injEq]at ho
    obtain⟨v1,h1,rfl,rfl⟩:=ho
    exact Steps1.of_pure r hb0 (sim_indexAddr hE.tys (hρ x) (hρ i) h1 w) (by simp [execOp,e])
  ·
    rename_i t x i e
    simp only [Option.map_eq_some_iff,Prod.mk.injEq]at ho
    obtain⟨v1,h1,rfl,rfl⟩:=ho
    exact Steps1.of_pure r hb0 (sim_index hE.tys (hρ x) (hρ i) h1 w) (by simp [execOp,e])
  ·
    rename_i x i e
    split at ho
    · rename_i vs hv
      simp only [Option.map_eq_some_iff,Prod.mk.injEq]at ho
      obtain⟨v1,h1,rfl,rfl⟩:=ho
      exact Steps1.of_pure r hb0 (sim_extract (by have:=hρ x;rw [hv]at this;exact this) h1 w) (by simp [execOp,e])
    · cases ho
  ·
    rename_i c e
    split at ho
    · rename_i f hf
      unfold acallVal at ho
      split at ho
      · rename_i g first captured hfv
        have h1:=hρ f;rw [hfv]at h1
        simp only [VRel]at h1
        obtain⟨f',c',h1,hfr,hcr⟩:=h1
        have hargs:VRels φ (first++c.args.toList.map ρ++captured) (f'++c.args.map ρ'++c').toList:=by
          simp only [Array.toList_append]
          exact(hfr.append (args_rel hρ c.args)).append hcr
        obtain⟨⟨fn,body,hfn,hbody⟩,hcl⟩:=hcall _ _ _ _ _ ho φ w _ r hb0 hargs
        refine .inr ⟨g,f'++c.args.map ρ'++c',w,?_,hcl.mono ?_⟩
        · have hnm: ¬ fn.name= "runtime.NumGoroutine" :=by simpa using hE.names g fn hfn
          simp [execOp,e,resolve,hf,h1,Deferred.ofValue,invoke,callFunc,hfn,hnm,hbody]
        · rintro e' w'' ⟨v',φ',k1,k2,k4,k5,k6,k7⟩
          exact⟨v',φ',k1,⟨k2.le,fun i hi _ hnn=>k2.new i hi hnn,k2.ro⟩,k4,k5,k6,k7⟩
      · cases ho
    · rename_i b hf
      have he: ∃ consts,(execOp ρ' o).run P w=(builtin b c.argTypes o.type consts (c.args.map ρ')).run P w:=⟨_,by simp [execOp,e,resolve,hf,invoke];rfl⟩
      obtain⟨consts,he⟩:=he
      rw [he]
      exact sim_builtin hE r hb0 hN hid hn o.type consts (args_rel hρ c.args) ho
    · cases ho
  · cases ho
theorem foldl_pushN: ∀ (ns:List Int) (r:ByteArray),(ns.foldl (fun r n=>r.push (UInt8.ofNat n.toNat)) r).data.toList=r.data.toList++ns.map (fun n=>UInt8.ofNat n.toNat)
  | [],r=>by simp
  | n::l,r=>by
    simp only [List.foldl_cons,List.map_cons]
    rw [foldl_pushN l]
    simp [ByteArray.push]
theorem freeze_heap(w:World)(a:Addr)(k:Nat):(w.freeze a 1).heap[k]? =if a.block=k then(w.heap[k]?).map fun o=>match o with
    | .cells c elem (lo,hi)=> .cells c elem (if lo == hi then(a.off,a.off+1)else(min lo a.off,max hi (a.off+1)))
    | o=>o else w.heap[k]? :=by
  unfold World.freeze
  rw [if_neg (by decide)]
  simp only [Array.getElem?_modify]
  rfl
theorem freeze_cell(w:World)(a x:Addr):(w.freeze a 1).cell? x=w.cell? x:=by
  unfold World.cell?
  rw [freeze_heap]
  by_cases h:a.block=x.block
  · rw [if_pos h]
    cases hh:w.heap[x.block]? with
    | none=>rfl
    | some o =>
      cases o
      case cells c t f=>obtain⟨lo,hi⟩:=f;rfl
      all_goals rfl
  · rw [if_neg h]
theorem Unmarked.freeze {w:World} {a:Addr} {n:Nat} (hn: ∃ t lo hi,markOf w a.block=some (t,n,lo,hi)∧(lo=hi∨n≤lo)) (ha:a.off=n) {k:Nat} (h:Unmarked w k):Unmarked (w.freeze a 1) k:=by
  by_cases e:a.block=k
  · subst e
    obtain⟨tt,lo,hi,h1,h2⟩:=hn
    unfold Unmarked markOf
    rw [freeze_heap,if_pos rfl]
    unfold markOf at h1
    cases hh:w.heap[a.block]? with
    | none=>rw [hh]at h1;cases h1
    | some o =>
      rw [hh]at h1
      cases o
      case cells c t f =>
        obtain⟨lo',hi'⟩:=f
        simp only [Option.some.injEq,Prod.mk.injEq]at h1
        obtain⟨rfl,rfl,rfl,rfl⟩:=h1
        simp only [Option.map_some]
        by_cases hl:lo'=hi'
        · refine⟨t,c.size,a.off,a.off+1,by simp [hl],.inr (by omega)⟩
        · refine⟨t,c.size,min lo' a.off,max hi' (a.off+1),by simp [hl],.inr ?_⟩
          rcases h2 with h2 | h2
          · exact absurd h2 hl
          · omega
      all_goals cases h1
  · exact h.of_eq (markOf_of (by rw [freeze_heap,if_neg e]))
theorem Unmarked.free {w:World} {b o:Nat} (h:Unmarked w b) (hc:(w.cell? ⟨b,o,none⟩).isSome=true):w.frozen? ⟨b,o,none⟩=false:=by
  obtain⟨tt,n,lo,hi,h1,h2⟩:=h
  unfold markOf at h1
  unfold World.cell? at hc
  unfold World.frozen?
  simp only at hc ⊢
  cases hh:w.heap[b]? with
  | none=>simp [hh]at h1
  | some ob =>
    rw [hh]at h1 hc
    cases ob
    case cells c t f =>
      obtain⟨lo',hi'⟩:=f
      simp only [Option.some.injEq,Prod.mk.injEq]at h1
      obtain⟨rfl,rfl,rfl,rfl⟩:=h1
      simp only [Option.isSome_none,Bool.false_eq_true,if_false]at hc
      have ho:o<c.size:=by
        rcases Nat.lt_or_ge o c.size with h | h
        · exact h
        · rw [Array.getElem?_eq_none h]at hc;cases hc
      simp;omega
    all_goals cases h1
theorem markOf_freeze {w:World} {a:Addr} {k:Nat} {t:TypeId} {n lo hi:Nat} (h:markOf w k=some (t,n,lo,hi)): ∃ lo hi,markOf (w.freeze a 1) k=some (t,n,lo,hi):=by
  unfold markOf at h ⊢
  rw [freeze_heap]
  by_cases e:a.block=k
  · rw [if_pos e]
    cases hh:w.heap[k]? with
    | none=>rw [hh]at h;cases h
    | some o =>
      rw [hh]at h
      cases o
      case cells c t' f =>
        obtain⟨lo',hi'⟩:=f
        simp only [Option.some.injEq,Prod.mk.injEq]at h
        obtain⟨rfl,rfl,rfl,rfl⟩:=h
        simp only [Option.map_some]
        by_cases hl:lo'=hi'
        · exact⟨a.off,a.off+1,by simp [hl]⟩
        · exact⟨min lo' a.off,max hi' (a.off+1),by simp [hl]⟩
      all_goals cases h
  · rw [if_neg e];exact⟨lo,hi,h⟩
theorem HRel.freeze {N0:Nat→Prop} {h:AHeap} {w:World} (r:HRel φ N0 h w) {a:Addr} {n:Nat} (hn: ∃ t lo hi,markOf w a.block=some (t,n,lo,hi)∧(lo=hi∨n≤lo)) (ha:a.off=n):HRel φ N0 h (w.freeze a 1) where
  dom i v p hp:=by
    obtain⟨h1,b,h2,h3,h4,h5,h6,h7,h8⟩:=r.dom i v p hp
    have hm:b.ro=false→Unmarked (w.freeze a 1) p.blk:=fun hr=>(h8.mark hr).freeze hn ha
    have hcl: ∀ o,o<p.tot*p.es→((w.freeze a 1).cell? ⟨p.blk,p.off+o,none⟩).isSome=true:=fun o ho=>by rw [freeze_cell];exact h8.cells o ho
    refine⟨h1,b,h2,h3,h4,h5,h6,h7,⟨?_,h8.base,hcl,fun hr o ho=>(hm hr).free (hcl o ho),hm,fun t9 h9=>(by obtain⟨n9,l9,i9,k9,k10,k11⟩:=h8.shp t9 h9;obtain⟨l8,i8,k8⟩:=markOf_freeze (a:=a) k9;exact⟨n9,l8,i8,k8,k10,k11⟩),fun i e g1 g2 g3=> ?_⟩⟩
    · have:=h8.blk
      unfold World.freeze
      rw [if_neg (by decide)]
      simpa using this
    · obtain⟨q1,q2,q3⟩:=h8.cont i e g1 g2 g3
      exact⟨q1,q2,fun j x' hx=>by
        obtain⟨x,y1,y2⟩:=q3 j x' hx
        exact⟨x,by rw [freeze_cell];exact y1,y2⟩⟩
  apart:=r.apart
  same:=r.same
theorem Safe.freeze {S:Nat→Prop}{a w:World}(h:Safe S a w){p:Addr}(hp: ¬ S p.block):Safe S a (w.freeze p 1) :=
  h.trans ⟨by unfold World.freeze;rw [if_neg (by decide)],by unfold World.freeze;rw [if_neg (by decide)],by unfold World.freeze;rw [if_neg (by decide)],by unfold World.freeze;rw [if_neg (by decide)];simp,fun k hk=>by
    have hne: ¬ p.block=k:=fun e=>hp (by rw [e];exact hk)
    rw [freeze_heap,if_neg hne]⟩
theorem run_convert_same(w:World)(s e:TypeId)(x:Addr)(n c:Nat)(hs:P.underlying s=some (.slice e))(he:P.underlying e=some (.int .u8)){tt:TypeId}{m lo hi:Nat}(hm:markOf w x.block=some (tt,m,lo,hi)) :
    (convert s s (.slice (some x) n c)).run P w= .ok (.slice (some x) n c) (w.freeze ⟨x.block,m,none⟩ 1):=by
  unfold markOf at hm
  cases hh:w.heap[x.block]? with
  | none=>rw [hh]at hm;cases hm
  | some o =>
    rw [hh]at hm
    cases o
    case cells cc t f =>
      obtain⟨lo',hi'⟩:=f
      simp only [Option.some.injEq,Prod.mk.injEq]at hm
      obtain⟨rfl,rfl,rfl,rfl⟩:=hm
      have hsh:w.shape? x.block=some (t,cc.size):=by unfold World.shape?;rw [hh]
      simp [convert,run_underlying hs,run_underlying he,markStringish,hsh]
    all_goals cases hm
theorem sim_convX {D:Tys} (hD:D.Ok P) {N0:Nat→Prop} {h h':AHeap} {w0 w:World} (r:HRel φ N0 h w) (hb0:Safe N0 w0 w) (hN:Low N0 w0.heap.size) {nid:Nat} (hid: ∀ v,φ nid v=none) (hn:nid<h.next)
    {s d:TypeId} {x v:AVal} {x':Value} (hx:VRel φ x x') (ho:aconvX D s d x nid h=some (v,h')):Outs P φ N0 w0 h nid v h' (convert s d x') w:=by
  unfold aconvX at ho
  split at ho
  · rename_i sd dd bs hsd hdd
    obtain⟨si,su,hsi,hsu,hsk, -, -⟩:=hD.get hsd
    obtain⟨di,du,hdi,hdu,hdk, -, -⟩:=hD.get hdd
    split at ho
    · rename_i e hes he
      rw [hsk]at hes
      rw [hdk]at he
      have:=tkOf_string hes;subst this
      have:=tkOf_slice he;subst this
      split at ho
      · rename_i ed hed
        obtain⟨ei,eu,hei,heu,hek, -, -⟩:=hD.get hed
        split at ho
        · rename_i hk
          rw [hek]at hk
          have:=tkOf_int hk;subst this
          simp only [Option.some.injEq,Prod.mk.injEq]at ho
          obtain⟨rfl,rfl⟩:=ho
          simp only [VRel]at hx
          obtain⟨t,rfl,rfl⟩:=hx
          have hrun:=Go.run_bytes_of_string (P:=P) w s d e t hsu hdu heu
          have hge:t.size≤grownCap w t.size 0 e:=grownCap_ge w t.size 0 e
          have hsz:(bytesRow t (grownCap w t.size 0 e)).size=grownCap w t.size 0 e:=by simp [bytesRow];omega
          have hlen:(t.data.toList.map fun b=>AVal.int .u8 b.toNat).length=t.size:=by rw [List.length_map,Array.length_toList];rfl
          have htl:t.data.toList.length=t.size:=by rw [Array.length_toList];rfl
          have hN':Low N0 w.heap.size:=hN.le hb0.size
          refine⟨_,_,φ.add nid 0 ⟨w.heap.size,0,0,1,grownCap w t.size 0 e,false,false⟩,hrun,Ext.add φ _ (hid 0) _,?_,?_,hb0.drew.alloc (by simpa using hN') _,rfl⟩
          · rw [htl]
            exact VRel.newSlice (ex:=false) (Nat.le_refl _) hge (Nat.le_refl _) (by simp)
          · have hflat:flat (t.data.toList.map fun b=>AVal.int .u8 b.toNat)=t.data.toList.map fun b=>AVal.int .u8 b.toNat:=by
              generalize t.data.toList=l
              induction l with
              | nil=>rfl
              | cons a r ih=>simp only [List.map_cons,flat,List.flatMap_cons,AVal.cells]at ih ⊢; rw [ih];rfl
            have htake:(bytesRow t (grownCap w t.size 0 e)).toList.take ((t.data.toList.map fun b=>AVal.int .u8 b.toNat).length*1)=t.data.toList.map fun b=>Value.int .u8 b.toNat:=by
              rw [hlen,Nat.mul_one]
              simp [bytesRow,List.take_append,htl]
            refine(r.alike (Alike.drew' w)).madeF hid hn (by simpa using hN') (Nat.one_pos) ?_ ?_ (by rw [hsz];simp) (by rw [hlen];exact hge) ?_ ?_ nofun
            · intro e he
              obtain⟨b,_,rfl⟩:=List.mem_map.1 he;rfl
            · rw [htake,hflat]
              exact VRels.map _ _ _ fun b _=>by simp only [VRel]
            · rw [htake]
              intro u hu
              obtain⟨_,_,rfl⟩:=List.mem_map.1 hu;rfl
            · exact .inr (Nat.le_refl _)
        · cases ho
      · cases ho
    · cases ho
  · rename_i sd dd a n c hsd hdd
    obtain⟨si,su,hsi,hsu,hsk, -, -⟩:=hD.get hsd
    obtain⟨di,du,hdi,hdu,hdk, -, -⟩:=hD.get hdd
    split at ho
    · rename_i e e' he1 he2
      rw [hsk]at he1;rw [hdk]at he2
      have:=tkOf_slice he1;subst this
      have:=tkOf_slice he2;subst this
      split at ho
      · rename_i ed aa hed
        obtain⟨ei,eu,hei,heu,hek, -, -⟩:=hD.get hed
        split at ho
        · rename_i b hk hb
          rw [hek]at hk
          have:=tkOf_int hk;subst this
          split at ho
          · rename_i hc
            obtain⟨rfl,hro,hf,hpos⟩:=hc
            simp only [Option.some.injEq,Prod.mk.injEq]at ho
            obtain⟨rfl,rfl⟩:=ho
            have hx0:=hx
            simp only [VRel]at hx
            obtain⟨xa,cap',rfl,l1,l2,hso⟩:=hx
            obtain⟨p,hp,hes',hor,hex⟩:=hso.plain hf
            obtain⟨g1,b',g2,g3,g4,g5,g6,g7,g8⟩:=r.dom _ _ _ hp
            rw [hb]at g2;simp at g2;subst g2
            have hpr:b.ro=false:=hro
            rcases hor with h0 | ⟨hlo,rfl,htot⟩
            · omega
            · obtain⟨tt,m,lo,hi,m1,m2⟩:=g8.mark hpr
              exact⟨_,_,φ,run_convert_same w s e (p.at aa.idx 0) n cap' hsu heu m1,Ext.refl _ _ _,hx0,r.freeze (a:=⟨p.blk,m,none⟩) ⟨tt,lo,hi,m1,m2⟩ rfl,hb0.freeze (g8.base (g6 hpr)),rfl⟩
          · cases ho
        · cases ho
      · cases ho
    · rename_i e he1 he2
      rw [hsk]at he1;rw [hdk]at he2
      have:=tkOf_slice he1;subst this
      have:=tkOf_string he2;subst this
      split at ho
      · rename_i ed hed
        obtain⟨ei,eu,hei,heu,hek, -, -⟩:=hD.get hed
        split at ho
        · rename_i hk
          rw [hek]at hk
          have:=tkOf_int hk;subst this
          split at ho
          · rename_i l hl
            cases hb:bytesOf l with
            | none=>rw [hb]at ho;cases ho
            | some q =>
              rw [hb]at ho;simp only [Option.map_some,Option.some.injEq,Prod.mk.injEq]at ho
              obtain⟨rfl,rfl⟩:=ho
              obtain⟨news,src,hvr,hel⟩:=sim_elems (P:=P) (tx:=s) r hx hl (Nat.one_pos) (.inl ⟨e,hsu⟩)
              obtain⟨ns,e1,e2⟩:=bytesOf_spec hb hvr
              refine Outs.pure r hb0 ?_
              cases a with
              | none =>
                simp only [VRel]at hx
                obtain⟨rfl,_,_⟩:=hx
                have h0:=src.cells
                refine⟨.string .empty,?_,?_⟩
                · rw [run_convert_bytes_string w s d e none 0 0 hsu heu hdu];rfl
                · simp only [VRel]
                  refine⟨_,rfl,?_⟩
                  have hl0:l= []:=by
                    have:=src.len w
                    simp [Builtin.lenOf]at this
                    exact List.length_eq_zero_iff.1 this.symm
                  subst hl0
                  simp [bytesOf]at hb;subst hb;rfl
              | some a =>
                simp only [VRel]at hx
                obtain⟨xa,cap',rfl,l1,l2,hso⟩:=hx
                have hll:l.length=n:=by
                  have:=src.len w
                  simp [Builtin.lenOf]at this;exact this.symm
                have h0:=src.cells
                rw [hll]at h0
                have hld:(loadCells xa n).run P w= .ok (ns.map (Value.int .u8)).toArray w:=by
                  rw [e1]at h0
                  simpa [Builtin.firstCells]using h0
                refine⟨_,by rw [run_convert_bytes_string w s d e (some xa) n cap' hsu heu hdu];exact run_bytesToString w xa n cap' ns hld,?_⟩
                simp only [VRel]
                refine⟨_,rfl,?_⟩
                rw [foldl_pushN,e2];rfl
          · cases ho
        · cases ho
      · cases ho
    · cases ho
  · cases ho
theorem sim_ext {k:Nat}{args:List AVal}{args':Array Value}(ha:VRels φ args args'.toList){v:AVal}(h:extVal k args=some v){ee:Array Value→Sem Value}(he:extRow k=some ee)(w:World) :
    ∃ v',(ee args').run P w= .ok v' w∧VRel φ v v':=by
  unfold extVal at h
  split at h
  · rename_i s c
    obtain⟨l⟩:=args'
    simp only [VRels]at ha
    obtain⟨a,t,rfl,ha1,b,u,rfl,hb1,rfl⟩:=ha
    simp only [VRel]at ha1 hb1
    obtain⟨t',rfl,rfl⟩:=ha1
    subst hb1
    split at h
    · simp only [Option.some.injEq]at h;subst h
      simp only [extRow,Option.some.injEq]at he;subst he
      exact⟨_,Go.Lib.run_countString t' c w,by simp only [VRel]⟩
    · simp only [Option.some.injEq]at h;subst h
      simp only [extRow,Option.some.injEq]at he;subst he
      exact⟨_,Go.Lib.run_indexByteString t' c w,by simp only [VRel]⟩
    · cases h
  · rename_i s s2
    obtain⟨l⟩:=args'
    simp only [VRels]at ha
    obtain⟨a,t,rfl,ha1,b,u,rfl,hb1,rfl⟩:=ha
    simp only [VRel]at ha1 hb1
    obtain⟨t',rfl,rfl⟩:=ha1
    obtain⟨u',rfl,rfl⟩:=hb1
    split at h
    · rename_i hk
      subst hk
      simp only [Option.some.injEq]at h;subst h
      simp only [extRow,Option.some.injEq]at he;subst he
      exact⟨_,Go.Lib.run_compareString t' u' w,by simp only [VRel]⟩
    · cases h
  · cases h
theorem sim_opX (hE:EnvOk P E) {N0:Nat→Prop} {h h':AHeap} {w0 w:World} {call:ACall} (hcall:CallOk P N0 w0 call) (r:HRel φ N0 h w) (hb0:Safe N0 w0 w) (hN:Low N0 w0.heap.size) {nid:Nat} (hid: ∀ v,φ nid v=none)
    (hn:nid<h.next) {ρ:Operand→AVal} {ρ':Operand→Value} (hρ: ∀ x,VRel φ (ρ x) (ρ' x)) {o:Oper} {v:AVal} (ho:aopX E call nid ρ h o.op=some (v,h')) :
    Steps1 P φ N0 w0 h nid v h' ((execOp ρ' o).run P w):=by
  unfold aopX at ho
  split at ho
  · rename_i r0 h0
    simp only [Option.some.injEq]at ho;subst ho
    exact sim_op hE hcall r hb0 hN hid hn hρ h0
  · unfold xop at ho
    split at ho
    · rename_i s d x e
      exact Steps1.of_outs (sim_convX hE.tys r hb0 hN hid hn (hρ x) ho) (by simp [execOp,e])
    · rename_i c e
      split at ho
      · rename_i f hf
        split at ho
        · rename_i g hfv
          split at ho
          · rename_i k hk
            simp only [Option.map_eq_some_iff,Prod.mk.injEq]at ho
            obtain⟨v1,h1,rfl,rfl⟩:=ho
            obtain⟨fn,ee,x1,x2,x3,x4,x5⟩:=hE.exts g k hk
            have hv:=hρ f;rw [hfv]at hv
            simp only [VRel,VRels]at hv
            obtain⟨f',c',hv1,hv2,hv3⟩:=hv
            have hf0:f'= #[]:=by cases f';simp at hv2;subst hv2;rfl
            have hc0:c'= #[]:=by cases c';simp at hv3;subst hv3;rfl
            subst hf0;subst hc0
            have hargs:=args_rel hρ c.args
            have hout:=sim_ext (P:=P) hargs h1 x5 w
            refine Steps1.of_pure (s:=ee (c.args.map ρ')) r hb0 hout ?_
            have hrun:=run_callFunc_extern x1 (hE.names g fn x1) x2 x3 x4 (c.args.map ρ') w
            rw [← hrun]
            simp [execOp,e,resolve,hf,hv1,Deferred.ofValue,invoke]
          · cases ho
        · cases ho
      · cases ho
    · cases ho
theorem wp_opX(hE:EnvOk P E){N0:Nat→Prop}{h h':AHeap}{w0 w:World}{call:ACall}(hcall:CallOk P N0 w0 call)(r:HRel φ N0 h w)(hb0:Safe N0 w0 w)(hN:Low N0 w0.heap.size){nid:Nat}(hid: ∀ v,φ nid v=none)
    (hn:nid<h.next) {ρ:Operand→AVal} {a:Act} (hρ: ∀ x,VRel φ (ρ x) (a.eval x)) {o:Oper} {v:AVal} (ho:aopX E call nid ρ h o.op=some (v,h')) {next:Act→World→Prop} {Q:Exit→Act→World→Prop}
    (hk: ∀ v' w' φ',Ext φ φ' h.next nid→VRel φ' v v'→HRel φ' N0 h' w'→Safe N0 w0 w'→h.next≤h'.next→next (a.put o.dst v') w'):o.wp P a w next Q:=by
  unfold Oper.wp
  rcases sim_opX hE hcall r hb0 hN hid hn hρ ho with ⟨v',w',φ',hr,k2,k3,k4,k5,k6⟩ | ⟨f,args,w',hr,hc⟩
  · rcases hr with hr | ⟨hr,rfl⟩
    · rw [hr];exact hk _ _ _ k2 k3 k4 k5 k6
    · rw [hr];exact hk _ _ _ k2 k3 k4 k5 k6
  · rw [hr]
    exact hc.mono fun e w'' ⟨v',φ',k1,k2,k3,k4,k5,k6⟩=>by
      subst k1;exact hk _ _ _ k2 k3 k4 k5 k6
end
end
end Go.Lift
namespace Go.Lift
noncomputable section
open Go.RowKit
structure SRel(φ:Map)(N0:Nat→Prop)(w0:World)(s:ASt)(a:Act)(w:World):Prop where
  slots:VRels φ s.slots a.tmps.toList
  heap:HRel φ N0 s.heap w
  below:Safe N0 w0 w
  defers:a.defers= []
section
variable {P:Program}{φ:Map}{E:AEnv}
theorem VRels.getD_arr {l:List AVal}{t:Array Value}(h:VRels φ l t.toList)(i:Nat):VRel φ (l.getD i .undef) (t.getD i undef):=by
  have h2:t.getD i undef=t.toList.getD i undef:=by simp [Array.getD_eq_getD_getElem?,List.getD_eq_getElem?_getD]
  rw [h2];exact h.getD i
theorem SRel.eval {N0:Nat→Prop}{w0 w:World}{s:ASt}{a:Act}(r:SRel φ N0 w0 s a w)(x:Operand):VRel φ (agetOp s.slots x) (a.eval x):=by
  cases x with
  | tmp t=>exact r.slots.getD_arr t
  | const v=>exact ofConst_rel φ v
  | global g=>simp [agetOp,VRel]
  | func f=>simp only [agetOp,VRel];exact⟨#[],#[],rfl,by simp [VRels],by simp [VRels]⟩
theorem put_rel {s:List AVal}{a:Act}(h:VRels φ s a.tmps.toList)(dst:Option Tmp){v:AVal}{v':Value}(hv:VRel φ v v'):VRels φ (aput s dst v) (a.put dst v').tmps.toList:=by
  cases dst with
  | none=>exact h
  | some d =>
    simp only [aput,Act.put,Array.toList_setIfInBounds]
    exact h.set d hv
theorem put_defers(a:Act)(dst:Option Tmp)(v:Value):(a.put dst v).defers=a.defers:=by cases dst<;>rfl
theorem wanted_rel {s:List AVal} {a:Act} (h:VRels φ s a.tmps.toList) {ops:Array Oper} {o:Oper} {b:Bool} (hw:awanted ops s o=some b):Region.wanted o (yielded ops a.tmps)=b:=by
  unfold awanted at hw
  unfold Region.wanted
  split at hw
  · rename_i e;simp at hw;subst hw;simp [e]
  · rename_i j want e
    rw [e]
    simp only
    split at hw
    · rename_i d hd
      unfold yielded
      rw [hd]
      simp only [Option.bind_some]
      split at hw
      · rename_i c hc
        simp at hw;subst hw
        obtain⟨v,hv,rv⟩:=h.get hc
        simp only [VRel]at rv;subst rv
        have hv':a.tmps[d]? =some (.bool c):=by simpa using hv
        rw [hv'];cases c<;>cases want<;>rfl
      · rename_i hc
        simp at hw;subst hw
        obtain⟨v,hv,rv⟩:=h.get hc
        simp only [VRel]at rv
        obtain⟨xs,rfl,_⟩:=rv
        have hv':a.tmps[d]? =some (.tuple xs):=by simpa using hv
        rw [hv'];cases want<;>rfl
      · cases hw
    · cases hw
theorem astep_sound (hE:EnvOk P E) {N0:Nat→Prop} {w0 w:World} (hN:Low N0 w0.heap.size) {call:ACall} (hcall:CallOk P N0 w0 call) {ops:Array Oper} {n0 i:Nat} {s s':ASt} {a:Act} (r:SRel φ N0 w0 s a w)
    (hid:n0+i<s.heap.next∧ ∀ v,φ (n0+i) v=none) (h:astep E call ops n0 i s=some s') {K:Act→World→Prop} {Q:Exit→Act→World→Prop}
    (hk: ∀ a' w' φ',Ext φ φ' s.heap.next (n0+i)→SRel φ' N0 w0 s' a' w'→s.heap.next≤s'.heap.next→K a' w'):wpOp P ops Q i K a w:=by
  unfold astep at h
  unfold wpOp
  split at h
  · rename_i ho
    simp at h;subst h
    rw [ho]
    exact hk a w φ (Ext.refl _ _ _) r (Nat.le_refl _)
  · rename_i o ho
    rw [ho]
    split at h
    · rename_i hw
      have hw':=wanted_rel r.slots hw
      split at h
      · rename_i v hp hop
        simp at h;subst h
        simp only [hw',if_true]
        left
        refine wp_opX hE hcall r.heap r.below hN hid.2 hid.1 r.eval hop fun v' w' φ' h1 h2 h3 h4 h5=> ?_
        refine hk _ w' φ' h1 ⟨?_,h3,h4,by rw [put_defers];exact r.defers⟩ h5
        exact put_rel (r.slots.mono h1.le) _ h2
      · cases h
    · rename_i hw
      have hw':=wanted_rel r.slots hw
      simp at h;subst h
      simp only [hw',Bool.false_eq_true,if_false]
      exact hk _ w φ (Ext.refl _ _ _) ⟨put_rel r.slots _ (VRel.skipped φ),r.heap,r.below,by rw [put_defers];exact r.defers⟩ (Nat.le_refl _)
    · cases h
theorem arun_sound (hE:EnvOk P E) {N0:Nat→Prop} {w0:World} (hN:Low N0 w0.heap.size) {call:ACall} (hcall:CallOk P N0 w0 call) {ops:Array Oper} {n0:Nat} {Q:Exit→Act→World→Prop} :
    ∀ {l:List Nat} {s s':ASt} {a:Act} {w:World} {φ:Map},arun E call ops n0 l s=some s'→SRel φ N0 w0 s a w→l.Nodup→(∀ j∈l,n0+j<s.heap.next∧ ∀ v,φ (n0+j) v=none) →
      (∀ a' w' φ',Keep φ φ' n0→SRel φ' N0 w0 s' a' w'→s.heap.next≤s'.heap.next→Q .normal a' w')→wpOps P ops Q l a w
  | [],s,s',a,w,φ,h,r,_,_,hk=>by
    simp [arun]at h;subst h
    simp only [wpOps]
    exact hk a w φ (Keep.refl _ _) r (Nat.le_refl _)
  | i ::rest,s,s',a,w,φ,h,r,hnd,hid,hk=>by
    simp only [arun]at h
    split at h
    · rename_i s1 h1
      rw [wpOps_cons]
      have hnd':=List.nodup_cons.1 hnd
      refine astep_sound hE hN hcall r (hid i (by simp)) h1 fun a' w' φ' hx r' hle=> ?_
      refine arun_sound hE hN hcall h r' hnd'.2 (fun j hj=> ?_) fun a'' w'' φ'' hkp r'' hle'=> ?_
      · have hji : n0 + j ≠ n0 + i := by intro e;have:j=i:=by omega
                                         subst this;exact hnd'.1 hj
        obtain⟨g1,g2⟩:=hid j (by simp [hj])
        exact⟨by omega,hx.new _ g1 hji g2⟩
      · refine hk _ _ _ (Keep.trans ⟨hx.le,fun k hkn hnn=>hx.new k ?_ (by omega) hnn,hx.ro⟩ hkp) r'' (by omega)
        have:=(hid i (by simp)).1;omega
    · cases h
end
end
end Go.Lift
namespace Go.Lift
noncomputable section
open Go.RowKit
mutual
theorem AVal.same_eq: ∀ {a b:AVal},AVal.same a b=true→a=b:=by
  intro a b h
  cases a<;>cases b<;>simp only [AVal.same,Bool.false_eq_true,Bool.and_eq_true,beq_iff_eq,decide_eq_true_eq]at h <;>
    first
      | rfl
      | (subst h;rfl)
      | (obtain⟨rfl,rfl⟩:=h;rfl)
      | (obtain⟨⟨rfl,rfl⟩,rfl⟩:=h;rfl)
      | (obtain⟨⟨rfl,h1⟩,h2⟩:=h;rw [AVal.sames_eq h1,AVal.sames_eq h2])
      | (obtain⟨rfl,h1⟩:=h;rw [AVal.same_eq h1])
      | (rw [AVal.sames_eq h])
theorem AVal.sames_eq: ∀ {a b:List AVal},AVal.sames a b=true→a=b:=by
  intro a b h
  cases a<;>cases b<;>simp only [AVal.sames,Bool.false_eq_true,Bool.and_eq_true]at h
  · rfl
  · obtain⟨h1,h2⟩:=h
    rw [AVal.same_eq h1,AVal.sames_eq h2]
end
theorem ABlk.same_eq {a b:ABlk}(h:ABlk.same a b=true):a=b:=by
  cases a;cases b
  simp only [ABlk.same,Bool.and_eq_true,beq_iff_eq]at h
  obtain⟨⟨⟨⟨⟨⟨⟨h1,h2⟩,h3⟩,h4⟩,h5⟩,h6⟩,h7⟩,h8⟩:=h
  rw [AVal.sames_eq h1,h2,h3,h4,h5,h6,h7,h8]
mutual
theorem AVal.same_refl: ∀ (a:AVal),AVal.same a a=true
  | .undef=>rfl
  | .bool _=>by simp [AVal.same]
  | .int _ _=>by simp [AVal.same]
  | .str _=>by simp [AVal.same]
  | .ptr _=>by simp [AVal.same]
  | .slice _ _ _=>by simp [AVal.same]
  | .func _ f c=>by simp [AVal.same,AVal.sames_refl f,AVal.sames_refl c]
  | .nilFunc=>rfl
  | .iface _ v=>by simp [AVal.same,AVal.same_refl v]
  | .nilIface=>rfl
  | .agg l=>by simp [AVal.same,AVal.sames_refl l]
  | .tuple l=>by simp [AVal.same,AVal.sames_refl l]
theorem AVal.sames_refl: ∀ (l:List AVal),AVal.sames l l=true
  | []=>rfl
  | a::r=>by simp [AVal.sames,AVal.same_refl a,AVal.sames_refl r]
end
theorem ABlk.same_refl(a:ABlk):ABlk.same a a=true:=by simp [ABlk.same,AVal.sames_refl]
theorem sameOld_get {lim:Nat}{h h':AHeap}(k:sameOld lim h h'=true){i:Nat}(hi:i<lim):h'.get i=h.get i :=
  Trie.sameBelow_spec (fun _ _=>ABlk.same_eq) lim h'.blks h.blks 0 1 k i (by omega)
theorem sameOld_of {lim:Nat}{h h':AHeap}(k: ∀ i,i<lim→h'.get i=h.get i):sameOld lim h h'=true :=
  Trie.sameBelow_of ABlk.same_refl lim h'.blks h.blks 0 1 fun i hi=>k i (by omega)
section
variable {E:AEnv}{call:ACall}
theorem pure_spec {nid:Nat} {ρ:Operand→AVal} {h h1:AHeap} {o:Op} {v:AVal} (hc:cls o= .pure) (ho:aop E call nid ρ h o=some (v,h1)) :
    h1=h∧ ∀ (nid':Nat) (h':AHeap),aop E call nid' ρ h' o=some (v,h'):=by
  cases o<;>simp only [cls,reduceCtorEq]at hc<;>simp only [aop]at ho ⊢ <;>
    first
      | (simp only [Option.map_eq_some_iff,Prod.mk.injEq,Option.some.injEq]at ho
         obtain⟨v1,hv,rfl,rfl⟩:=ho
         exact⟨rfl,fun _ _=>by rw [hv];rfl⟩)
      | (simp only [Prod.mk.injEq,Option.some.injEq]at ho
         obtain⟨rfl,rfl⟩:=ho
         exact⟨rfl,fun _ _=>rfl⟩)
      | skip
  · split at ho
    · rename_i t ht
      simp only [Prod.mk.injEq,Option.some.injEq]at ho
      obtain⟨rfl,rfl⟩:=ho
      exact⟨rfl,fun _ _=>by simp only [ht]⟩
    · cases ho
  · split at ho
    · rename_i a ha
      simp only [Prod.mk.injEq,Option.some.injEq]at ho
      obtain⟨rfl,rfl⟩:=ho
      exact⟨rfl,fun _ _=>by simp only [ha]⟩
    · rename_i g fs cs ha
      simp only [Prod.mk.injEq,Option.some.injEq]at ho
      obtain⟨rfl,rfl⟩:=ho
      exact⟨rfl,fun _ _=>by simp only [ha]⟩
    · cases ho
  · split at ho
    · rename_i d hd
      split at ho
      · cases ho
      · rename_i hni
        simp only [Prod.mk.injEq,Option.some.injEq]at ho
        obtain⟨rfl,rfl⟩:=ho
        refine⟨rfl,fun _ _=> ?_⟩
        simp only [hd]
    · cases ho
  · rename_i fn fs cs
    cases fn<;>simp only [aop]at ho ⊢ <;>first | (cases ho;done) | skip
    simp only [Prod.mk.injEq,Option.some.injEq]at ho
    obtain⟨rfl,rfl⟩:=ho
    exact⟨rfl,fun _ _=>rfl⟩
  · split at ho
    · rename_i vs hv
      simp only [Option.map_eq_some_iff,Prod.mk.injEq]at ho
      obtain⟨v1,h1,rfl,rfl⟩:=ho
      exact⟨rfl,fun _ _=>by simp only [hv,h1,Option.map_some]⟩
    · cases ho
  · rename_i c
    cases hcal:c.callee with
    | value f=>rw [hcal]at hc;simp at hc
    | invoke r m=>rw [hcal]at hc;simp at hc
    | builtin b =>
      rw [hcal]at hc ho
      simp only [hcal]
      cases b<;>first | (simp at hc;done) | skip
      all_goals
        simp only [abuiltin]at ho ⊢
        split at ho
        · simp only [Option.map_eq_some_iff,Prod.mk.injEq]at ho
          obtain⟨v1,h1,rfl,rfl⟩:=ho
          exact⟨rfl,fun _ _=>by simp only [h1,Option.map_some]⟩
        · cases ho
theorem load_spec {nid:Nat}{ρ:Operand→AVal}{h h1:AHeap}{o:Op}{v:AVal}(hc:cls o= .load)(ho:aop E call nid ρ h o=some (v,h1)) :
    h1=h∧ ∃ b,loadId ρ o=some b∧ ∀ (nid':Nat) (h':AHeap),h'.get b=h.get b→aop E call nid' ρ h' o=some (v,h'):=by
  cases o<;>simp only [cls,reduceCtorEq]at hc
  · rename_i t x
    simp only [aop]at ho ⊢
    split at ho
    · rename_i a ha
      simp only [Option.map_eq_some_iff,Prod.mk.injEq]at ho
      obtain⟨v1,hv,rfl,rfl⟩:=ho
      refine⟨rfl,a.id,by simp [loadId,ha],fun nid' h' hg=> ?_⟩
      simp only [ha,aload,hg]at hv ⊢
      rw [hv];rfl
    · cases ho
  · rename_i c
    cases hcal:c.callee with
    | value f=>rw [hcal]at hc;simp at hc
    | invoke r m=>rw [hcal]at hc;simp at hc
    | builtin b=>rw [hcal]at hc;cases b<;>simp at hc
theorem store_spec {nid:Nat} {ρ:Operand→AVal} {h h1:AHeap} {o:Op} {v:AVal} (hc:cls o= .store) (ho:aop E call nid ρ h o=some (v,h1)) :
    ∃ s b,storeId ρ o=some s∧h1=h.set s b∧True:=by
  cases o<;>simp only [cls,reduceCtorEq]at hc
  · rename_i t x y
    simp only [aop]at ho
    split at ho
    · rename_i a ha
      simp only [Option.map_eq_some_iff,Prod.mk.injEq]at ho
      obtain⟨h2,hv,rfl,rfl⟩:=ho
      unfold astore at hv
      split at hv
      · split at hv
        · split at hv
          · split at hv
            · simp only [Option.some.injEq]at hv
              exact⟨a.id,_,by simp [storeId,ha],hv.symm,trivial⟩
            · cases hv
          · cases hv
        · cases hv
      · cases hv
    · cases ho
  · rename_i c
    cases hcal:c.callee with
    | value f=>rw [hcal]at hc;simp at hc
    | invoke r m=>rw [hcal]at hc;simp at hc
    | builtin b=>rw [hcal]at hc;cases b<;>simp at hc
theorem alloc_spec {nid:Nat} {ρ:Operand→AVal} {h h1:AHeap} {o:Op} {v:AVal} (hc:cls o= .alloc) (ho:aop E call nid ρ h o=some (v,h1)) :
    ∃ b,h1=h.set nid b∧ ∀ (h':AHeap),aop E call nid ρ h' o=some (v,h'.set nid b):=by
  cases o<;>simp only [cls,reduceCtorEq]at hc
  · rename_i t
    simp only [aop]at ho ⊢
    split at ho
    · rename_i d hd
      split at ho
      · rename_i z hz
        split at ho
        · rename_i hcc
          simp only [Prod.mk.injEq,Option.some.injEq]at ho
          obtain⟨rfl,rfl⟩:=ho
          exact⟨_,rfl,fun h'=>by simp only [hcc,if_true]⟩
        · cases ho
      · cases ho
    · cases ho
  · rename_i t x
    simp only [aop]at ho ⊢
    split at ho
    · rename_i d hd
      split at ho
      · rename_i hcc
        simp only [Prod.mk.injEq,Option.some.injEq]at ho
        obtain⟨rfl,rfl⟩:=ho
        exact⟨_,rfl,fun h'=>by simp only [hcc,if_true]⟩
      · cases ho
    · cases ho
  · rename_i t n parts
    simp only [aop,abuildSlice]at ho ⊢
    split at ho
    · rename_i d hd
      split at ho
      · rename_i e he
        split at ho
        · rename_i x hx
          split at ho
          · rename_i z hz
            split at ho
            · rename_i hcc
              split at ho
              · rename_i l hl
                simp only [Prod.mk.injEq,Option.some.injEq]at ho
                obtain⟨rfl,rfl⟩:=ho
                refine⟨_,rfl,fun h'=> ?_⟩
                simp only [he,hx,hz,hcc,hl,and_self,if_true]
              · cases ho
            · cases ho
          · cases ho
        · cases ho
      · cases ho
    · cases ho
  · rename_i t l c
    simp only [aop,amakeSlice]at ho ⊢
    split at ho
    · rename_i d k1 n k2 m hd hl hm
      split at ho
      · rename_i e he
        split at ho
        · rename_i x hx
          split at ho
          · rename_i z hz
            split at ho
            · rename_i hcc
              simp only [Prod.mk.injEq,Option.some.injEq]at ho
              obtain⟨rfl,rfl⟩:=ho
              refine⟨_,rfl,fun h'=> ?_⟩
              simp only [he,hx,hz,hcc,and_self,if_true]
            · cases ho
          · cases ho
        · cases ho
      · cases ho
    · cases ho
  · rename_i c
    cases hcal:c.callee with
    | value f=>rw [hcal]at hc;simp at hc
    | invoke r m=>rw [hcal]at hc;simp at hc
    | builtin b=>rw [hcal]at hc;cases b<;>simp at hc
theorem map_congr_ops {ρ ρ':Operand→AVal}{xs:Array Operand}(h: ∀ x∈xs.toList,ρ x=ρ' x):xs.toList.map ρ=xs.toList.map ρ':=List.map_congr_left h
theorem opt_congr {ρ ρ':Operand→AVal}{o:Option Operand}(h: ∀ x∈o.toList,ρ x=ρ' x):o.map ρ=o.map ρ':=by
  cases o with
  | none=>rfl
  | some x=>simp [h x (by simp)]
theorem aop_congr {nid:Nat}{ρ ρ':Operand→AVal}{h:AHeap}{o:Op}(hρ: ∀ x∈o.operands.toList,ρ x=ρ' x):aop E call nid ρ h o=aop E call nid ρ' h o:=by
  cases o
  case call c =>
    simp only [Op.operands,Call.operands,Array.toList_append,List.mem_append]at hρ
    simp only [aop]
    have ha:=map_congr_ops (xs:=c.args) (fun x hx=>hρ x (.inr hx))
    cases hcal:c.callee with
    | value f =>
      rw [hcal]at hρ
      simp only [ha,hρ f (.inl (by simp))]
    | invoke r m=>rfl
    | builtin b=>simp only [ha]
  case makeFunc fn fs cs =>
    simp only [Op.operands,Array.toList_append,List.mem_append]at hρ
    cases fn<;>simp only [aop]
    rw [map_congr_ops (xs:=fs) (fun x hx=>hρ x (.inl hx)),map_congr_ops (xs:=cs) (fun x hx=>hρ x (.inr hx))]
  case slice t x lo hi mx =>
    simp only [Op.operands,Array.toList_append,List.mem_append]at hρ
    simp only [aop]
    rw [hρ x (by simp),opt_congr (o:=lo) (fun y hy=>hρ y (by simp_all)),opt_congr (o:=hi) (fun y hy=>hρ y (by simp_all)),opt_congr (o:=mx) (fun y hy=>hρ y (by simp_all))]
  case build t parts =>
    have hp:(parts.toList.map fun p=>(p.1,ρ p.2))=parts.toList.map fun p=>(p.1,ρ' p.2):=by
      refine List.map_congr_left fun p hp=> ?_
      rw [hρ p.2 (by simp only [Op.operands];exact List.mem_map.2 ⟨p,hp,rfl⟩)]
    simp only [aop,hp]
  case buildSlice t n parts =>
    have hp:(parts.toList.map fun p=>(p.1,ρ p.2))=parts.toList.map fun p=>(p.1,ρ' p.2):=by
      refine List.map_congr_left fun p hp=> ?_
      rw [hρ p.2 (by simp only [Op.operands];exact List.mem_map.2 ⟨p,hp,rfl⟩)]
    simp only [aop,hp]
  all_goals first
    | rfl
    | (simp only [aop,Op.operands]at hρ ⊢; simp_all)
def maskOf(acc:Array Nat)(o:Oper):Nat:=o.after.toList.foldl (fun s e=>if binding e then s ||| 2^e.on ||| acc.getD e.on 0 else s) 0
theorem fold_keep: ∀ (l:List Oper) (acc:Array Nat) (k:Nat),k<acc.size→(l.foldl (fun acc o=>acc.push (maskOf acc o)) acc).getD k 0=acc.getD k 0
  | [],acc,k,h=>rfl
  | o::r,acc,k,h=>by
    simp only [List.foldl_cons]
    rw [fold_keep r _ k (by simp;omega)]
    simp [Array.getD_eq_getD_getElem?,Array.getElem?_push,Nat.ne_of_lt h]
theorem maskOf_congr {a b:Array Nat} {o:Oper} (h: ∀ e∈o.after.toList,binding e=true→a.getD e.on 0=b.getD e.on 0):maskOf a o=maskOf b o:=by
  unfold maskOf
  have key: ∀ (l:List Edge) (s:Nat),(∀ e∈l,binding e=true→a.getD e.on 0=b.getD e.on 0) →
      l.foldl (fun s e=>if binding e then s ||| 2^e.on ||| a.getD e.on 0 else s) s=l.foldl (fun s e=>if binding e then s ||| 2^e.on ||| b.getD e.on 0 else s) s:=by
    intro l
    induction l with
    | nil=>intro s _;rfl
    | cons e r ih =>
      intro s hl
      simp only [List.foldl_cons]
      have:(if binding e then s ||| 2^e.on ||| a.getD e.on 0 else s)=(if binding e then s ||| 2^e.on ||| b.getD e.on 0 else s):=by
        cases hb:binding e
        · rfl
        · simp only [if_true];rw [hl e (by simp) hb]
      rw [this,ih _ (fun e he=>hl e (by simp [he]))]
  exact key _ 0 h
theorem fold_at: ∀ (l:List Oper) (acc:Array Nat) (m:Nat) (o:Oper),l[m]? =some o→(∀ e∈o.after.toList,binding e=true→e.on<acc.size+m) →
    (l.foldl (fun acc o=>acc.push (maskOf acc o)) acc).getD (acc.size+m) 0=maskOf (l.foldl (fun acc o=>acc.push (maskOf acc o)) acc) o
  | [],acc,m,o,h,_=>by simp at h
  | a::r,acc,0,o,h,he=>by
    simp at h;subst h
    simp only [List.foldl_cons,Nat.add_zero]
    rw [fold_keep r _ acc.size (by simp)]
    have:(acc.push (maskOf acc a)).getD acc.size 0=maskOf acc a:=by simp [Array.getD_eq_getD_getElem?]
    rw [this]
    refine maskOf_congr fun e hm hb=> ?_
    have hlt:=he e hm hb
    rw [fold_keep r _ e.on (by simp;omega)]
    simp [Array.getD_eq_getD_getElem?,Array.getElem?_push]
    rw [if_neg (by omega)]
  | a::r,acc,m+1,o,h,he=>by
    simp at h
    simp only [List.foldl_cons]
    have:=fold_at r (acc.push (maskOf acc a)) m o h (fun e hm hb=>by have:=he e hm hb;simp;omega)
    simp only [Array.size_push]at this
    rw [show acc.size+(m+1)=acc.size+1+m by omega]
    exact this
theorem mask_bit {acc:Array Nat} {i:Nat} : ∀ (l:List Edge) (s:Nat),(l.foldl (fun s e=>if binding e then s ||| 2^e.on ||| acc.getD e.on 0 else s) s).testBit i=true →
    s.testBit i=true∨ ∃ e∈l,binding e=true∧(e.on=i∨(acc.getD e.on 0).testBit i=true)
  | [],s,h=> .inl h
  | e ::r,s,h=>by
    simp only [List.foldl_cons]at h
    rcases mask_bit r _ h with h1 | ⟨e',h1,h2⟩
    · cases hb:binding e
      · rw [hb]at h1;exact .inl (by simpa using h1)
      · rw [hb]at h1
        simp only [if_true,Nat.testBit_or,Bool.or_eq_true]at h1
        rcases h1 with (h1 | h1) | h1
        · exact .inl h1
        · right
          rw [Nat.testBit_two_pow]at h1
          exact⟨e,by simp,hb,.inl (by simpa using h1)⟩
        · exact .inr ⟨e,by simp,hb,.inr h1⟩
    · exact .inr ⟨e',by simp [h1],h2⟩
def Lower(ops:Array Oper):Prop:= ∀ (j:Nat) (o:Oper),ops[j]? =some o→ ∀ e∈o.after.toList,binding e=true→e.on<j
theorem ordered_spec {ops:Array Oper}(hl:Lower ops){i j:Nat}{o:Oper}(ho:ops[j]? =some o)(h:ordered (aheads ops) i j=true) :
    ∃ e∈o.after.toList,binding e=true∧(e.on=i∨ordered (aheads ops) i e.on=true):=by
  unfold ordered at h
  have:=fold_at ops.toList #[] j o (by simpa using ho) (fun e he hb=>by have:=hl j o ho e he hb;simp;omega)
  simp only [List.size_toArray,List.length_nil,Nat.zero_add]at this
  have e1:aheads ops=ops.toList.foldl (fun acc o=>acc.push (maskOf acc o)) #[]:=rfl
  rw [e1,this]at h
  rcases mask_bit _ _ h with h1 | h1
  · simp at h1
  · exact h1
theorem ordered_none {ops:Array Oper}{i j:Nat}(ho:ops[j]? =none):ordered (aheads ops) i j=false:=by
  have hsz: ∀ (l:List Oper) (acc:Array Nat),(l.foldl (fun acc o=>acc.push (maskOf acc o)) acc).size=acc.size+l.length:=by
    intro l
    induction l with
    | nil=>intro acc;rfl
    | cons a r ih=>intro acc;simp only [List.foldl_cons,ih,Array.size_push,List.length_cons];omega
  have e1:aheads ops=ops.toList.foldl (fun acc o=>acc.push (maskOf acc o)) #[]:=rfl
  have hj:ops.size≤j:=by simpa using ho
  unfold ordered
  rw [e1,Array.getD_eq_getD_getElem?,Array.getElem?_eq_none (by rw [hsz];simpa using hj)]
  simp
theorem ordered_lt {ops:Array Oper}(hl:Lower ops): ∀ (j:Nat) {i:Nat},ordered (aheads ops) i j=true→i<j:=by
  intro j
  induction j using Nat.strongRecOn with
  | _ j ih =>
    intro i h
    cases ho:ops[j]? with
    | none=>rw [ordered_none ho]at h;cases h
    | some o =>
      obtain⟨e,he,hb,hc⟩:=ordered_spec hl ho h
      have:=hl j o ho e he hb
      rcases hc with rfl | hc
      · exact this
      · have:=ih e.on this hc;omega
def Closed(ops:Array Oper)(listed:Array Bool):Prop:= ∀ (j:Nat) (o:Oper),listed.getD j false=true→ops[j]? =some o→ ∀ e∈o.after.toList,binding e=true→listed.getD e.on false=true
theorem ordered_listed {ops:Array Oper}(hl:Lower ops){listed:Array Bool}(hc:Closed ops listed): ∀ (j:Nat) (o:Oper),ops[j]? =some o→(∀ e∈o.after.toList,binding e=true→listed.getD e.on false=true) →
    ∀ {i:Nat},ordered (aheads ops) i j=true→listed.getD i false=true:=by
  intro j
  induction j using Nat.strongRecOn with
  | _ j ih =>
    intro o ho hp i h
    obtain⟨e,he,hb,hcase⟩:=ordered_spec hl ho h
    have hlt:=hl j o ho e he hb
    have hle:=hp e he hb
    rcases hcase with rfl | hcase
    · exact hle
    · cases hoe:ops[e.on]? with
      | none=>rw [ordered_none hoe]at hcase;cases hcase
      | some oe=>exact ih e.on hlt oe hoe (hc e.on oe hle hoe) hcase
def dval(E:AEnv)(call:ACall)(ops:Array Oper)(n0 j:Nat)(o:Oper)(σ:List AVal)(h:AHeap):Option (AVal×AHeap) :=
  match awanted ops σ o with
  | some true=>dop E call ops n0 j (agetOp σ) h o.op
  | some false=>some (skipped,h)
  | none=>none
theorem dstep_eq {ops:Array Oper}{n0 j:Nat}{o:Oper}(ho:ops[j]? =some o)(s:ASt) :
    dstep E call ops n0 j s=(dval E call ops n0 j o s.slots s.heap).map fun p=>⟨aput s.slots o.dst p.1,p.2⟩:=by
  unfold dstep dval
  rw [ho]
  simp only
  cases awanted ops s.slots o with
  | none=>rfl
  | some b =>
    cases b with
    | false=>rfl
    | true =>
      simp only
      cases dop E call ops n0 j (agetOp s.slots) s.heap o.op with
      | none=>rfl
      | some p=>rfl
theorem dop_cases {ops:Array Oper} {n0 j:Nat} {ρ:Operand→AVal} {h:AHeap} {o:Op} {v:AVal} {h':AHeap} (hd:dop E call ops n0 j ρ h o=some (v,h')) :
    aop E call (n0+j) ρ h o=some (v,h')∨(cls o= .pure∧isConv o=true∧(soloOk ops j=true∨readOk ops n0 j ρ o=true)∧aop E call (n0+j) ρ h o=none):=by
  unfold dop at hd
  split at hd
  · split at hd
    · split at hd
      · exact .inl hd
      · cases hd
    · cases hd
  · split at hd
    · split at hd
      · cases hd
      · exact .inl hd
    · cases hd
  · split at hd
    · rename_i v1 h1 he
      split at hd
      · split at hd
        · rw [he];exact .inl hd
        · cases hd
      · rw [he];exact .inl hd
    · cases hd
  · split at hd
    · exact .inl hd
    · cases hd
  · rename_i hc
    split at hd
    · rename_i r he;rw [he];exact .inl hd
    · rename_i he
      split at hd
      · rename_i hcc;exact .inr ⟨hc,hcc.1,hcc.2,he⟩
      · cases hd
  · exact .inl hd
theorem dop_aopX {ops:Array Oper}{n0 j:Nat}{ρ:Operand→AVal}{h:AHeap}{o:Op}{v:AVal}{h':AHeap}(hd:dop E call ops n0 j ρ h o=some (v,h')):aopX E call (n0+j) ρ h o=some (v,h'):=by
  rcases dop_cases hd with h1 | ⟨h1,h2,h3,h4⟩
  · unfold aopX;rw [h1]
  · unfold dop at hd
    rw [h1]at hd
    simp only [h4]at hd
    rw [if_pos ⟨h2,h3⟩]at hd
    unfold aopX;rw [h4];exact hd
theorem solo_pure {ops:Array Oper}{i j:Nat}(hs:soloOk ops j=true)(hi:i<ops.size)(hne:i≠j)(h1:ordered (aheads ops) i j=false)(h2:ordered (aheads ops) j i=false){o:Oper}(ho:ops[i]? =some o):cls o.op= .pure∧isConv o.op=false:=by
  unfold soloOk at hs
  have:=List.all_eq_true.1 hs i (List.mem_range.2 hi)
  simp only [h1,h2,ho,Bool.or_false]at this
  simp only [Bool.or_eq_true,beq_iff_eq,Bool.and_eq_true,decide_eq_true_eq,Bool.not_eq_true']at this
  rcases this with h | h
  · exact absurd h hne
  · exact h
theorem elemsOf_congr {es:Nat}{x:AVal}{h h':AHeap}(hx: ∀ k∈idOf x,h'.get k=h.get k):elemsOf es x h'=elemsOf es x h:=by
  unfold elemsOf
  split
  · rfl
  · rename_i a len c
    have e:h'.get a.id=h.get a.id:=hx a.id (by simp [idOf])
    rw [e]
  · rfl
  · rfl
theorem aappend_spec {D :Tys} {t:TypeId} {s x:AVal} {nid:Nat} {h h1:AHeap} {v:AVal} (ha:aappend D t s x nid h=some (v,h1)) :
    (h1=h∧ ∀ h',(∀ k∈idOf s++idOf x,h'.get k=h.get k)→aappend D t s x nid h'=some (v,h')) ∨
    ∃ id b,(id=nid∨id∈idOf s++idOf x)∧h1=h.set id b∧ ∀ h',(∀ k∈idOf s++idOf x,h'.get k=h.get k)→aappend D t s x nid h'=some (v,h'.set id b):=by
  have hcs: ∀ {h'},(∀ k∈idOf s++idOf x,h'.get k=h.get k)→(∀ es,elemsOf es s h'=elemsOf es s h)∧(∀ es,elemsOf es x h'=elemsOf es x h):=fun {h'} hh =>
    ⟨fun es=>elemsOf_congr fun k hk=>hh k (List.mem_append_left _ hk),fun es=>elemsOf_congr fun k hk=>hh k (List.mem_append_right _ hk)⟩
  unfold aappend at ha
  split at ha
  · rename_i d base len cap hd
    split at ha
    · rename_i e hk
      split at ha
      · rename_i xd hxd
        split at ha
        · rename_i new hnew
          simp only at ha
          split at ha
          · rename_i hc
            split at ha
            · split at ha
              · rename_i h0
                simp only [Option.some.injEq,Prod.mk.injEq]at ha
                obtain⟨rfl,rfl⟩:=ha
                refine .inl ⟨rfl,fun h' hh=> ?_⟩
                have:=(hcs hh).2 xd.size
                unfold aappend
                simp only [hd,hk,hxd,this,hnew]
                rw [if_pos hc,if_pos h0]
              · rename_i h0
                split at ha
                · rename_i h2
                  simp only [Option.some.injEq,Prod.mk.injEq]at ha
                  obtain⟨rfl,rfl⟩:=ha
                  refine .inr ⟨nid,_,.inl rfl,rfl,fun h' hh=> ?_⟩
                  have:=(hcs hh).2 xd.size
                  unfold aappend
                  simp only [hd,hk,hxd,this,hnew]
                  rw [if_pos hc,if_neg h0,if_pos h2]
                · cases ha
            · rename_i a
              split at ha
              · rename_i hae
                split at ha
                · rename_i b hb
                  have hg: ∀ {h':AHeap},(∀ k∈idOf (.slice (some a) len cap)++idOf x,h'.get k=h.get k)→h'.get a.id=some b:=fun {h'} hh=>by rw [hh a.id (by simp [idOf]),hb]
                  split at ha
                  · rename_i hfit
                    split at ha
                    · rename_i h0
                      simp only [Option.some.injEq,Prod.mk.injEq]at ha
                      obtain⟨rfl,rfl⟩:=ha
                      refine .inl ⟨rfl,fun h' hh=> ?_⟩
                      have:=(hcs hh).2 xd.size
                      unfold aappend
                      simp only [hd,hk,hxd,this,hnew,hg hh]
                      rw [if_pos hc,if_pos hae,if_pos hfit,if_pos h0]
                    · rename_i h0
                      split at ha
                      · rename_i hcc
                        simp only [Option.some.injEq,Prod.mk.injEq]at ha
                        obtain⟨rfl,rfl⟩:=ha
                        refine .inr ⟨a.id,_,.inr (by simp [idOf]),rfl,fun h' hh=> ?_⟩
                        have:=(hcs hh).2 xd.size
                        unfold aappend
                        simp only [hd,hk,hxd,this,hnew,hg hh]
                        rw [if_pos hc,if_pos hae,if_pos hfit,if_neg h0,if_pos hcc]
                      · cases ha
                  · rename_i hfit
                    split at ha
                    · rename_i hex
                      split at ha
                      · rename_i old hold
                        simp only [Option.some.injEq,Prod.mk.injEq]at ha
                        obtain⟨rfl,rfl⟩:=ha
                        refine .inr ⟨nid,_,.inl rfl,rfl,fun h' hh=> ?_⟩
                        have e1:=(hcs hh).2 xd.size
                        have e2:=(hcs hh).1 xd.size
                        unfold aappend
                        simp only [hd,hk,hxd,e1,hnew,hg hh]
                        rw [if_pos hc,if_pos hae,if_neg hfit,if_pos hex]
                        simp only [e2,hold]
                      · cases ha
                    · rename_i hex
                      split at ha
                      · rename_i hcc
                        simp only [Option.some.injEq,Prod.mk.injEq]at ha
                        obtain⟨rfl,rfl⟩:=ha
                        refine .inr ⟨a.id,_,.inr (by simp [idOf]),rfl,fun h' hh=> ?_⟩
                        have:=(hcs hh).2 xd.size
                        unfold aappend
                        simp only [hd,hk,hxd,this,hnew,hg hh]
                        rw [if_pos hc,if_pos hae,if_neg hfit,if_neg hex,if_pos hcc]
                      · cases ha
                · cases ha
              · cases ha
          · cases ha
        · cases ha
      · cases ha
    · cases ha
  · cases ha
theorem app_spec {nid:Nat} {ρ:Operand→AVal} {h h1:AHeap} {o:Op} {v:AVal} (hc:cls o= .app) (ho:aop E call nid ρ h o=some (v,h1)) :
    (h1=h∧ ∀ h',(∀ k∈appIds ρ o,h'.get k=h.get k)→aop E call nid ρ h' o=some (v,h')) ∨
    ∃ id b,(id=nid∨id∈appIds ρ o)∧h1=h.set id b∧ ∀ h',(∀ k∈appIds ρ o,h'.get k=h.get k)→aop E call nid ρ h' o=some (v,h'.set id b):=by
  cases o<;>simp only [cls,reduceCtorEq]at hc
  rename_i c
  obtain⟨callee,args,ts⟩:=c
  cases callee<;>simp only [reduceCtorEq]at hc
  rename_i b
  cases b<;>simp only [reduceCtorEq]at hc
  simp only [aop,abuiltin]at ho ⊢
  split at ho
  · rename_i s x t u hargs ht hu
    have hids:appIds ρ (.call ⟨.builtin .append,args,ts⟩)=idOf s++idOf x:=by simp [appIds,hargs]
    rw [hids]
    split at ho
    · rename_i ud hud
      split at ho
      · rename_i e he
        first | exact aappend_spec ho | (rw [he];exact aappend_spec ho) | (have:=aappend_spec ho;simpa [he]using this)
      · rename_i he
        first | exact aappend_spec ho | (rw [he];exact aappend_spec ho) | (have:=aappend_spec ho;simpa [he]using this)
      · cases ho
    · cases ho
  · cases ho
theorem aget_put {σ:List AVal}{d:Tmp}{v:AVal}{x:Operand}(h: ∀ t,x= .tmp t→t≠d):agetOp (σ.set d v) x=agetOp σ x:=by
  cases x with
  | tmp t =>
    have:d≠t:=fun e=>h t rfl e.symm
    simp [agetOp,List.getD_eq_getElem?_getD,List.getElem?_set_ne this]
  | const v=>rfl
  | global g=>rfl
  | func f=>rfl
theorem mem_tmpsOf {xs:List Operand}{t:Tmp}(h:Operand.tmp t∈xs):t∈tmpsOf xs:=by
  unfold tmpsOf;exact List.mem_filterMap.2 ⟨_,h,rfl⟩
theorem dval_congr {ops:Array Oper} {n0 j:Nat} {o:Oper} {σ:List AVal} {d:Tmp} {v:AVal} {h:AHeap} (hd:d ∉ readsOf ops o) :
    dval E call ops n0 j o (σ.set d v) h=dval E call ops n0 j o σ h:=by
  unfold readsOf at hd
  simp only [List.mem_append,not_or]at hd
  obtain⟨hd1,hd2⟩:=hd
  have hρ: ∀ x∈o.op.operands.toList,agetOp (σ.set d v) x=agetOp σ x:=fun x hx=>aget_put fun t ht e=>by
    subst ht e;exact hd1 (mem_tmpsOf hx)
  have hw:awanted ops (σ.set d v) o=awanted ops σ o:=by
    unfold awanted
    split
    · rfl
    · rename_i g want hg
      rw [hg]at hd2
      split
      · rename_i dd hdd
        simp only [hdd,Option.toList_some,List.mem_singleton]at hd2
        rw [List.getElem?_set_ne (fun e=>hd2 e)]
      · rfl
  unfold dval
  rw [hw]
  have hop: ∀ nid,aop E call nid (agetOp (σ.set d v)) h o.op=aop E call nid (agetOp σ) h o.op:=fun nid=>aop_congr hρ
  have hlo:loadId (agetOp (σ.set d v)) o.op=loadId (agetOp σ) o.op:=by
    cases hoo:o.op<;>simp only [loadId]
    rename_i t x
    rw [hoo]at hρ
    rw [hρ x (by simp [Op.operands])]
  have hso:storeId (agetOp (σ.set d v)) o.op=storeId (agetOp σ) o.op:=by
    cases hoo:o.op<;>simp only [storeId]
    rename_i t x y
    rw [hoo]at hρ
    rw [hρ x (by simp [Op.operands])]
  have hdop:dop E call ops n0 j (agetOp (σ.set d v)) h o.op=dop E call ops n0 j (agetOp σ) h o.op:=by
    have hai:appIds (agetOp (σ.set d v)) o.op=appIds (agetOp σ) o.op:=by
      cases hoo:o.op<;>simp only [appIds]
      rename_i c
      rw [hoo]at hρ
      rw [map_congr_ops (ρ:=agetOp (σ.set d v)) (ρ':=agetOp σ) fun x hx=>hρ x (by simp only [Op.operands,Call.operands];cases c.callee<;>simp [hx])]
    have hxo:isConv o.op=true→xop E (n0+j) (agetOp (σ.set d v)) h o.op=xop E (n0+j) (agetOp σ) h o.op:=by
      intro hic
      cases hoo:o.op<;>rw [hoo]at hic<;>simp only [isConv,reduceCtorEq]at hic
      simp only [xop]
      rename_i a b x
      rw [hoo]at hρ
      rw [hρ x (by simp [Op.operands])]
    have hrd:readOk ops n0 j (agetOp (σ.set d v)) o.op=readOk ops n0 j (agetOp σ) o.op:=by
      have:convSrc (agetOp (σ.set d v)) o.op=convSrc (agetOp σ) o.op:=by
        cases hoo:o.op<;>simp only [convSrc]
        rename_i a b x
        rw [hoo]at hρ
        rw [hρ x (by simp [Op.operands])]
      unfold readOk;rw [this]
    unfold dop
    rw [hop,hlo,hso,hai,hrd]
    by_cases hic:isConv o.op=true
    · rw [hxo hic]
    · simp only [hic,Bool.false_eq_true,false_and,if_false]
  rw [hdop]
theorem aput_congr {ops:Array Oper}{n0 j:Nat}{o x:Oper}{σ:List AVal}{v:AVal}{h:AHeap}(hd: ∀ d,x.dst=some d→d ∉ readsOf ops o) :
    dval E call ops n0 j o (aput σ x.dst v) h=dval E call ops n0 j o σ h:=by
  cases hx:x.dst with
  | none=>rfl
  | some d=>exact dval_congr (hd d hx)
theorem aput_comm {σ:List AVal}{x y:Oper}{v u:AVal}(h: ∀ d,x.dst=some d→y.dst≠some d):aput (aput σ x.dst v) y.dst u=aput (aput σ y.dst u) x.dst v:=by
  cases hx:x.dst with
  | none=>rfl
  | some d =>
    cases hy:y.dst with
    | none=>rfl
    | some e =>
      have hne:d≠e:=fun he=>h d hx (by rw [hy,he])
      simp only [aput];exact List.set_comm _ _ hne
theorem set_comm {a b:Nat}(hab:a≠b)(h:AHeap)(x y:ABlk):(h.set a x).set b y=(h.set b y).set a x:=by
  unfold AHeap.set
  simp only [Trie.set_comm x y h.blks a b hab]
def FreeC(call:ACall):Prop:= ∀ f args h v h',call f args h=some (v,h')→h'=h∧ ∀ h2,call f args h2=some (v,h2)
def pairF:Cls→Cls→Bool
  | .call,.alloc | .alloc,.call=>true
  | _,_=>false
theorem call_free {nid:Nat}{ρ:Operand→AVal}{h h1:AHeap}{o:Op}{v:AVal}(hf:FreeC call)(hc:cls o= .call)(ho:aop E call nid ρ h o=some (v,h1)):h1=h∧ ∀ h2,aop E call nid ρ h2 o=some (v,h2):=by
  cases o<;>simp only [cls,reduceCtorEq]at hc
  rename_i c
  obtain⟨callee,args,ts⟩:=c
  cases callee with
  | value f =>
    simp only [aop,acallVal]at ho ⊢
    split at ho
    · exact hf _ _ _ _ _ ho
    · cases ho
  | builtin b=>cases b<;>simp only [reduceCtorEq]at hc
  | _=>simp only [reduceCtorEq]at hc
structure May(call:ACall)(ops:Array Oper)(x i:Nat):Prop where
  lt:x<i
  hi:i<ops.size
  no:ordered (aheads ops) x i=false
  pair: ∀ ox oi,ops[x]? =some ox→ops[i]? =some oi→(pairOk (cls ox.op) (cls oi.op)=true∨FreeC call∧pairF (cls ox.op) (cls oi.op)=true)∧apartOps ops ox oi=true
theorem apart_spec {ops:Array Oper}{x y:Oper}(h:apartOps ops x y=true):(∀ d,x.dst=some d→d ∉ readsOf ops y)∧(∀ d,y.dst=some d→d ∉ readsOf ops x)∧(∀ d,x.dst=some d→y.dst≠some d):=by
  unfold apartOps at h
  simp only [Bool.and_eq_true]at h
  obtain⟨h1,h2⟩:=h
  refine⟨fun d hd=> ?_,fun d hd=> ?_,fun d hd=> ?_⟩
  · rw [hd]at h1;simp at h1;exact h1.1
  · rw [hd]at h2;simp at h2;exact h2
  · rw [hd]at h1;simp at h1;exact h1.2
theorem loadSolo_no {ops:Array Oper}{x i:Nat}{oi:Oper}(h:loadSolo ops x=true)(hoi:ops[i]? =some oi)(hi:i<ops.size)(ne:i≠x)(no1:ordered (aheads ops) x i=false)(no2:ordered (aheads ops) i x=false)(c1:cls oi.op≠ .pure)(c2:cls oi.op≠ .load):False:=by
  have:=List.all_eq_true.1 h i (List.mem_range.2 hi)
  simp only [no1,no2,hoi,Bool.or_false,Bool.or_eq_true,beq_iff_eq,decide_eq_true_eq]at this
  rcases this with h | h | h
  · exact ne h
  · exact c1 h
  · exact c2 h
theorem looseBelow {ops:Array Oper}{n0 x i:Nat}{ox oi:Oper}(hox:ops[x]? =some ox)(hoi:ops[i]? =some oi)(hcx:cls ox.op= .load)(hci:cls oi.op= .store)(no1:ordered (aheads ops) x i=false)(no2:ordered (aheads ops) i x=false)(hx:x<ops.size)(hi:i<ops.size)
    {ρ:Operand→AVal} {h h2:AHeap} {vi:AVal} {b s0:Nat} (hl: ∃ b,loadId ρ ox.op=some b∧(loadSolo ops x=true∨b<n0∨(b<n0+ops.size∧ordered (aheads ops) (b-n0) x=true∧looseStore ops (aheads ops) x=false))) (hb:loadId ρ ox.op=some b)
    (hd:dop E call ops n0 i ρ h oi.op=some (vi,h2)) (hs:storeId ρ oi.op=some s0):b<n0∧n0≤s0:=by
  have l1:looseStore ops (aheads ops) x=true:=by
    unfold looseStore
    rw [List.any_eq_true]
    refine⟨i,List.mem_range.2 hi,?_⟩
    rw [hoi];simp [hci,no1,no2]
  have l2:looseCall ops (aheads ops) i=true:=by
    unfold looseCall
    rw [List.any_eq_true]
    refine⟨x,List.mem_range.2 hx,?_⟩
    rw [hox];simp [hcx,no1,no2]
  refine⟨?_,?_⟩
  · obtain⟨b',hb',hc⟩:=hl
    rw [hb]at hb';simp only [Option.some.injEq]at hb';subst hb'
    rcases hc with hc | hc | ⟨_,_,hc⟩
    · exact(loadSolo_no hc hoi hi (fun e=>by subst e;rw [hox]at hoi;cases hoi;rw [hcx]at hci;cases hci) no1 no2 (by rw [hci];decide) (by rw [hci];decide)).elim
    · exact hc
    · rw [l1]at hc;cases hc
  · unfold dop at hd
    rw [hci]at hd
    simp only [hs]at hd
    split at hd
    · cases hd
    · rename_i hc
      rcases Nat.lt_or_ge s0 n0 with hlt | hge
      · exact absurd ⟨l2,hlt⟩ hc
      · exact hge
theorem readOk_spec {ops:Array Oper}{n0 j:Nat}{ρ:Operand→AVal}{o:Op}(h:readOk ops n0 j ρ o=true): ∃ x,convSrc ρ o=some x∧(∀ b∈idOf x,∀ k,ordered (aheads ops) k j=false→b≠n0+k) ∧
    ∀ i y,i<ops.size→i≠j→ordered (aheads ops) i j=false→ordered (aheads ops) j i=false→ops[i]? =some y→cls y.op= .pure∨cls y.op= .load∨cls y.op= .alloc:=by
  unfold readOk at h
  split at h
  · rename_i x hx
    simp only [Bool.and_eq_true]at h
    refine⟨x,hx,fun b hb k hk e=> ?_,fun i y hi hne h1 h2 hy=> ?_⟩
    · have:=List.all_eq_true.1 h.1 b hb
      simp only [Bool.or_eq_true,Bool.and_eq_true,decide_eq_true_eq]at this
      subst e
      rcases this with h | ⟨_,h⟩
      · omega
      · rw [show n0+k-n0=k by omega,hk]at h;cases h
    · have:=List.all_eq_true.1 h.2 i (List.mem_range.2 hi)
      simp only [h1,h2,hy,Bool.or_false,Bool.or_eq_true,beq_iff_eq,decide_eq_true_eq]at this
      rcases this with h | (h | h) | h
      · exact absurd h hne
      · exact .inl h
      · exact .inr (.inl h)
      · exact .inr (.inr h)
  · cases h
theorem xop_read {nid:Nat} {ρ:Operand→AVal} {h h1:AHeap} {o:Op} {v x:AVal} (hx:convSrc ρ o=some x) (ho:xop E nid ρ h o=some (v,h1)) :
    h1=h∧ ∀ (nid':Nat) (h':AHeap),(∀ k∈idOf x,h'.get k=h.get k)→xop E nid' ρ h' o=some (v,h'):=by
  cases o<;>simp only [convSrc,reduceCtorEq]at hx
  rename_i s d y
  split at hx
  · rename_i a n c hy
    simp only [Option.some.injEq]at hx
    subst hx
    simp only [xop,hy,aconvX]at ho ⊢
    cases hs:E.D s with
    | none=>rw [hs]at ho;simp at ho
    | some sd =>
      cases hd:E.D d with
      | none=>rw [hs,hd]at ho;simp at ho
      | some dd =>
        simp only [hs,hd]at ho ⊢
        cases hk1:sd.kind<;>cases hk2:dd.kind<;>simp only [hk1,hk2,reduceCtorEq]at ho ⊢
        ·
          rename_i e
          cases he:E.D e with
          | none=>rw [he]at ho;simp at ho
          | some ed =>
            simp only [he]at ho ⊢
            cases hek:ed.kind<;>simp only [hek,reduceCtorEq]at ho ⊢
            rename_i kk
            cases kk<;>simp only [reduceCtorEq]at ho ⊢
            split at ho
            · rename_i l hl
              simp only [Option.map_eq_some_iff,Prod.mk.injEq]at ho
              obtain⟨u,hu,rfl,rfl⟩:=ho
              refine⟨rfl,fun nid' h' hh=> ?_⟩
              rw [elemsOf_congr hh,hl]
              simp only [hu,Option.map_some]
            · cases ho
        ·
          rename_i e e2
          cases he:E.D e with
          | none=>rw [he]at ho;simp at ho
          | some ed =>
            cases a with
            | none=>rw [he]at ho;simp at ho
            | some aa =>
              simp only [he]at ho ⊢
              split at ho
              · rename_i b hek hg
                split at ho
                · rename_i hc
                  simp only [Option.some.injEq,Prod.mk.injEq]at ho
                  obtain⟨rfl,rfl⟩:=ho
                  refine⟨rfl,fun nid' h' hh=> ?_⟩
                  rw [hh aa.id (by simp [idOf]),hek,hg]
                  simp only
                  rw [if_pos hc]
                · cases ho
              · cases ho
  · cases hx
theorem conv_none {nid:Nat}{ρ:Operand→AVal}{h:AHeap}{o:Op}(hc:isConv o=true)(ha:aop E call nid ρ h o=none)(nid':Nat)(h':AHeap):aop E call nid' ρ h' o=none:=by
  cases o<;>simp only [isConv,reduceCtorEq]at hc
  simp only [aop,Option.map_eq_none_iff]at ha ⊢
  exact ha
theorem swap_val {ops:Array Oper} (hl:Lower ops) {n0 x i:Nat} (m:May call ops x i) {ox oi:Oper} (hox:ops[x]? =some ox) (hoi:ops[i]? =some oi) {σ:List AVal} {h hx h2:AHeap} {vx vi:AVal}
    (h1:dval E call ops n0 x ox σ h=some (vx,hx)) (hi:dval E call ops n0 i oi σ hx=some (vi,h2)) :
    ∃ h1',dval E call ops n0 i oi σ h=some (vi,h1')∧dval E call ops n0 x ox σ h1'=some (vx,h2):=by
  obtain⟨hpair,hap⟩:=m.pair ox oi hox hoi
  have hnoi:ordered (aheads ops) i x=false:=by
    cases hb:ordered (aheads ops) i x with
    | false=>rfl
    | true=>have:=ordered_lt hl x hb;have:=m.lt;omega
  unfold dval at h1 hi ⊢
  cases hwx:awanted ops σ ox with
  | none=>rw [hwx]at h1;cases h1
  | some bx =>
    cases hwi:awanted ops σ oi with
    | none=>rw [hwi]at hi;cases hi
    | some bi =>
      rw [hwx]at h1;rw [hwi]at hi
      cases bx with
      | false =>
        simp only [Option.some.injEq,Prod.mk.injEq]at h1
        obtain⟨rfl,rfl⟩:=h1
        exact⟨h2,hi,rfl⟩
      | true =>
        cases bi with
        | false =>
          simp only [Option.some.injEq,Prod.mk.injEq]at hi
          obtain⟨rfl,rfl⟩:=hi
          exact⟨h,rfl,h1⟩
        | true =>
          simp only at h1 hi ⊢
          have hxs:x<ops.size:=by have:=m.lt;have:=m.hi;omega
          have dpure0: ∀ {j:Nat} {o:Oper} {h:AHeap} {r:AVal×AHeap},cls o.op= .pure→aop E call (n0+j) (agetOp σ) h o.op=some r→dop E call ops n0 j (agetOp σ) h o.op=some r:=by
            intro j o h r hc ha;unfold dop;rw [hc];simp only [ha]
          have dread: ∀ {j:Nat} {o:Oper} {h h0:AHeap} {r:AVal×AHeap},cls o.op= .pure→isConv o.op=true→(soloOk ops j=true∨readOk ops n0 j (agetOp σ) o.op=true)→aop E call (n0+j) (agetOp σ) h0 o.op=none→xop E (n0+j) (agetOp σ) h o.op=some r→dop E call ops n0 j (agetOp σ) h o.op=some r:=by
            intro j o h h0 r hc hi hs ha hx;unfold dop;rw [hc];simp only [conv_none hi ha (n0+j) h];rw [if_pos ⟨hi,hs⟩];exact hx
          rcases dop_cases h1 with ax | ⟨fx1,fx2,fx3,fx4⟩
          rotate_left
          ·
            have xx:xop E (n0+x) (agetOp σ) h ox.op=some (vx,hx):=by
              have:=dop_aopX h1;unfold aopX at this;rw [fx4]at this;exact this
            rcases fx3 with fx3 | fx3
            · obtain⟨p1,p2⟩:=solo_pure fx3 m.hi (by have:=m.lt;omega) hnoi m.no hoi
              rcases dop_cases hi with ai | ⟨_,q2,_,_⟩
              · obtain⟨rfl,hq⟩:=pure_spec p1 ai
                refine⟨h,dpure0 p1 (hq _ _),h1⟩
              · rw [p2]at q2;cases q2
            · obtain⟨y,hy,hids,hoth⟩:=readOk_spec fx3
              obtain⟨rfl,hq⟩:=xop_read hy xx
              have hcls:=hoth i oi m.hi (by have:=m.lt;omega) hnoi m.no hoi
              have back: ∀ h2:AHeap,(∀ k∈idOf y,h2.get k=hx.get k)→dop E call ops n0 x (agetOp σ) h2 ox.op=some (vx,h2):=fun h2 hg=>dread fx1 fx2 (.inr fx3) fx4 (hq _ h2 hg)
              rcases dop_cases hi with ai | ⟨fi1,fi2,fi3,fi4⟩
              · rcases hcls with c | c | c
                · obtain⟨rfl,_⟩:=pure_spec c ai;exact⟨_,hi,back _ fun _ _=>rfl⟩
                · obtain⟨rfl,_⟩:=load_spec c ai;exact⟨_,hi,back _ fun _ _=>rfl⟩
                · obtain⟨b,rfl,_⟩:=alloc_spec c ai
                  exact⟨_,hi,back _ fun k hk=>AHeap.get_set_ne _ _ fun e=>hids k hk i hnoi e.symm⟩
              · have ii:xop E (n0+i) (agetOp σ) hx oi.op=some (vi,h2):=by
                  have:=dop_aopX hi;unfold aopX at this;rw [fi4]at this;exact this
                rcases fi3 with fi3 | fi3
                · obtain⟨_,p2⟩:=solo_pure fi3 hxs (by have:=m.lt;omega) m.no hnoi hox
                  rw [p2]at fx2;cases fx2
                · obtain⟨z,hz,_,_⟩:=readOk_spec fi3
                  obtain⟨rfl,_⟩:=xop_read hz ii
                  exact⟨_,hi,back _ fun _ _=>rfl⟩
          rcases dop_cases hi with ai | ⟨fi1,fi2,fi3,fi4⟩
          rotate_left
          · rcases fi3 with fi3 | fi3
            · obtain⟨p1,p2⟩:=solo_pure fi3 hxs (by have:=m.lt;omega) m.no hnoi hox
              obtain⟨rfl,hp⟩:=pure_spec p1 ax
              exact⟨h2,hi,dpure0 p1 (hp _ _)⟩
            · have ii:xop E (n0+i) (agetOp σ) hx oi.op=some (vi,h2):=by
                have:=dop_aopX hi;unfold aopX at this;rw [fi4]at this;exact this
              obtain⟨y,hy,hids,hoth⟩:=readOk_spec fi3
              obtain⟨rfl,hq⟩:=xop_read hy ii
              rcases hoth x ox hxs (by have:=m.lt;omega) m.no hnoi hox with c | c | c
              · obtain⟨rfl,_⟩:=pure_spec c ax;exact⟨_,hi,h1⟩
              · obtain⟨rfl,_⟩:=load_spec c ax;exact⟨_,hi,h1⟩
              · obtain⟨b,rfl,_⟩:=alloc_spec c ax
                exact⟨h,dread fi1 fi2 (.inr fi3) fi4 (hq _ h fun k hk=>(AHeap.get_set_ne _ _ fun e=>hids k hk x m.no e.symm).symm),h1⟩
          have loadx:cls ox.op= .load→ ∃ b,loadId (agetOp σ) ox.op=some b∧(loadSolo ops x=true∨b<n0∨(b<n0+ops.size∧ordered (aheads ops) (b-n0) x=true∧looseStore ops (aheads ops) x=false)):=by
            intro hc
            unfold dop at h1;rw [hc]at h1;simp only at h1
            split at h1
            · rename_i b hb
              split at h1
              · rename_i hcc;exact⟨b,hb,hcc⟩
              · cases h1
            · cases h1
          have loadi:cls oi.op= .load→ ∃ b,loadId (agetOp σ) oi.op=some b∧(loadSolo ops i=true∨b<n0∨(b<n0+ops.size∧ordered (aheads ops) (b-n0) i=true∧looseStore ops (aheads ops) i=false)):=by
            intro hc
            unfold dop at hi;rw [hc]at hi;simp only at hi
            split at hi
            · rename_i b hb
              split at hi
              · rename_i hcc;exact⟨b,hb,hcc⟩
              · cases hi
            · cases hi
          have dload: ∀ {j:Nat} {o:Oper} {h h':AHeap} {v:AVal},cls o.op= .load→(∃ b,loadId (agetOp σ) o.op=some b∧(loadSolo ops j=true∨b<n0∨(b<n0+ops.size∧ordered (aheads ops) (b-n0) j=true∧looseStore ops (aheads ops) j=false))) →
              aop E call (n0+j) (agetOp σ) h o.op=some (v,h')→dop E call ops n0 j (agetOp σ) h o.op=some (v,h'):=by
            intro j o h h' v hc ⟨b,hb,hcc⟩ ha
            unfold dop;rw [hc];simp only [hb];rw [if_pos hcc];exact ha
          have dalloc: ∀ {j:Nat} {o:Oper} {h:AHeap},cls o.op= .alloc→dop E call ops n0 j (agetOp σ) h o.op=aop E call (n0+j) (agetOp σ) h o.op:=by
            intro j o h hc;unfold dop;rw [hc]
          have idsx:cls ox.op= .app→appOk ops n0 x (appIds (agetOp σ) ox.op)=true:=by
            intro hc;unfold dop at h1;rw [hc]at h1;simp only at h1
            split at h1
            · assumption
            · cases h1
          have idsi:cls oi.op= .app→appOk ops n0 i (appIds (agetOp σ) oi.op)=true:=by
            intro hc;unfold dop at hi;rw [hc]at hi;simp only at hi
            split at hi
            · assumption
            · cases hi
          have dapp: ∀ {j:Nat} {o:Oper} {h:AHeap},cls o.op= .app→appOk ops n0 j (appIds (agetOp σ) o.op)=true→dop E call ops n0 j (agetOp σ) h o.op=aop E call (n0+j) (agetOp σ) h o.op:=by
            intro j o h hc hk;unfold dop;rw [hc];simp only;rw [if_pos hk]
          have awayOf: ∀ {j k b:Nat} {ids:List Nat},k<ops.size→appOk ops n0 j ids=true→b∈ids→ordered (aheads ops) k j=false→b≠n0+k:=by
            intro j k b ids hks hk hb hno e
            subst e
            have:=List.all_eq_true.1 hk _ hb
            simp only [Bool.or_eq_true,Bool.and_eq_true,decide_eq_true_eq]at this
            rcases this with (h | ⟨_,h⟩) | h
            · omega
            · rw [show n0+k-n0=k by omega,hno]at h;cases h
            · omega
          rcases hpair with hpair | ⟨hfc,hpf⟩
          rotate_left
          · have dcall: ∀ {j:Nat} {o:Oper} {h:AHeap} {v:AVal},cls o.op= .call→aop E call (n0+j) (agetOp σ) h o.op=some (v,h)→dop E call ops n0 j (agetOp σ) h o.op=some (v,h):=by
              intro j o h v hc ha
              unfold dop;rw [hc];simp only [ha]
              have hr:sameOld (n0+ops.size) h h=true:=sameOld_of fun _ _=>rfl
              cases looseCall ops (aheads ops) j<;>simp [hr]
            cases hcx:cls ox.op<;>cases hci:cls oi.op<;>rw [hcx,hci]at hpf<;>simp only [pairF,Bool.false_eq_true]at hpf
            · obtain⟨blk,rfl,hp⟩:=alloc_spec hcx ax
              obtain⟨rfl,hq⟩:=call_free hfc hci ai
              exact⟨h,dcall hci (hq _),h1⟩
            · obtain⟨rfl,hq⟩:=call_free hfc hcx ax
              exact⟨h2,hi,dcall hcx (hq _)⟩
          cases hcx:cls ox.op with
          | pure =>
            obtain⟨rfl,hp⟩:=pure_spec hcx ax
            exact⟨h2,hi,dpure0 hcx (hp _ _)⟩
          | load =>
            obtain⟨rfl,b,hb,hp⟩:=load_spec hcx ax
            cases hci:cls oi.op with
            | pure =>
              obtain⟨rfl,hq⟩:=pure_spec hci ai
              exact⟨_,hi,h1⟩
            | load =>
              obtain⟨rfl,b',hb',hq⟩:=load_spec hci ai
              exact⟨_,hi,h1⟩
            | alloc =>
              obtain⟨blk,rfl,hq⟩:=alloc_spec hci ai
              refine⟨_,hi,dload hcx (loadx hcx) (hp _ _ ?_)⟩
              refine AHeap.get_set_ne _ _ ?_
              rintro rfl
              obtain⟨b'',hb'',hcc⟩:=loadx hcx
              rw [hb]at hb'';simp at hb'';subst hb''
              rcases hcc with hcc | hcc | ⟨_,hcc,_⟩
              · exact(loadSolo_no hcc hoi m.hi (by have:=m.lt;omega) m.no hnoi (by rw [hci];decide) (by rw [hci];decide)).elim
              · omega
              · rw [show n0+i-n0=i by omega,hnoi]at hcc;cases hcc
            | call =>
              refine⟨_,hi,dload hcx (loadx hcx) (hp _ _ ?_)⟩
              unfold dop at hi;rw [hci]at hi;simp only [ai]at hi
              have hloose:looseCall ops (aheads ops) i=true:=by
                unfold looseCall
                rw [List.any_eq_true]
                refine⟨x,List.mem_range.2 (by have:=m.lt;have:=m.hi;omega),?_⟩
                rw [hox];simp [hcx,m.no,hnoi]
              rw [if_pos hloose]at hi
              split at hi
              · rename_i hs
                obtain⟨b'',hb'',hcc⟩:=loadx hcx
                rw [hb]at hb'';simp at hb'';subst hb''
                rcases hcc with hcc | hcc
                · exact(loadSolo_no hcc hoi m.hi (by have:=m.lt;omega) m.no hnoi (by rw [hci];decide) (by rw [hci];decide)).elim
                exact sameOld_get hs (by rcases hcc with hcc | ⟨hcc,_,_⟩<;>omega)
              · cases hi
            | store =>
              obtain⟨s0,blk,hs0,rfl,hq⟩:=store_spec hci ai
              refine⟨_,hi,dload hcx (loadx hcx) (hp _ _ ?_)⟩
              refine AHeap.get_set_ne _ _ ?_
              rintro rfl
              have hlb:=looseBelow hox hoi hcx hci m.no hnoi (by have:=m.lt;have:=m.hi;omega) m.hi (loadx hcx) hb hi hs0
              omega
            | app=>rw [hcx,hci]at hpair;cases hpair
            | other=>rw [hcx,hci]at hpair;cases hpair
          | store =>
            obtain⟨s0,blk,hs0,rfl,hq⟩:=store_spec hcx ax
            cases hci:cls oi.op with
            | pure =>
              obtain⟨rfl,hq⟩:=pure_spec hci ai
              exact⟨h,dpure0 hci (hq _ _),h1⟩
            | load =>
              obtain⟨rfl,b',hb',hq⟩:=load_spec hci ai
              refine⟨h,dload hci (loadi hci) (hq _ _ ?_),h1⟩
              refine(AHeap.get_set_ne _ _ ?_).symm
              rintro rfl
              have hlb:=looseBelow hoi hox hci hcx hnoi m.no m.hi (by have:=m.lt;have:=m.hi;omega) (loadi hci) hb' h1 hs0
              omega
            | alloc=>rw [hcx,hci]at hpair;cases hpair
            | store=>rw [hcx,hci]at hpair;cases hpair
            | call=>rw [hcx,hci]at hpair;cases hpair
            | app=>rw [hcx,hci]at hpair;cases hpair
            | other=>rw [hcx,hci]at hpair;cases hpair
          | alloc =>
            obtain⟨blk,rfl,hp⟩:=alloc_spec hcx ax
            cases hci:cls oi.op with
            | pure =>
              obtain⟨rfl,hq⟩:=pure_spec hci ai
              exact⟨h,dpure0 hci (hq _ _),h1⟩
            | load =>
              obtain⟨rfl,b',hb',hq⟩:=load_spec hci ai
              refine⟨h,dload hci (loadi hci) (hq _ _ ?_),h1⟩
              refine(AHeap.get_set_ne _ _ ?_).symm
              rintro rfl
              obtain⟨b'',hb'',hcc⟩:=loadi hci
              rw [hb']at hb'';simp at hb'';subst hb''
              rcases hcc with hcc | hcc | ⟨_,hcc,_⟩
              · exact(loadSolo_no hcc hox (by have:=m.lt;have:=m.hi;omega) (by have:=m.lt;omega) hnoi m.no (by rw [hcx];decide) (by rw [hcx];decide)).elim
              · omega
              · rw [show n0+x-n0=x by omega,m.no]at hcc;cases hcc
            | alloc =>
              obtain⟨blk',rfl,hq⟩:=alloc_spec hci ai
              refine⟨h.set (n0+i) blk',by rw [dalloc hci];exact hq _,?_⟩
              rw [dalloc hcx,hp,set_comm (by have:=m.lt;omega)]
            | store=>rw [hcx,hci]at hpair;cases hpair
            | call=>rw [hcx,hci]at hpair;cases hpair
            | app =>
              have hk:=idsi hci
              have away: ∀ k∈appIds (agetOp σ) oi.op,k≠n0+x:=fun k hkm=>awayOf (by have:=m.lt;have:=m.hi;omega) hk hkm m.no
              have agree: ∀ k∈appIds (agetOp σ) oi.op,h.get k=(h.set (n0+x) blk).get k:=fun k hkm=>(AHeap.get_set_ne _ _ (fun e=>away k hkm e.symm)).symm
              rcases app_spec hci ai with ⟨k1,k2⟩ | ⟨id,b',k1,k2,k3⟩
              · subst k1
                exact⟨h,by rw [dapp hci hk];exact k2 h agree,h1⟩
              · subst k2
                refine⟨h.set id b',by rw [dapp hci hk];exact k3 h agree,?_⟩
                have hne:n0+x≠id:=by
                  rcases k1 with rfl | k1
                  · have:=m.lt;omega
                  · exact fun e=>away id k1 e.symm
                rw [dalloc hcx,hp,set_comm hne]
            | other=>rw [hcx,hci]at hpair;cases hpair
          | call =>
            cases hci:cls oi.op with
            | pure =>
              obtain⟨rfl,hq⟩:=pure_spec hci ai
              exact⟨h,dpure0 hci (hq _ _),h1⟩
            | load =>
              obtain⟨rfl,b',hb',hq⟩:=load_spec hci ai
              refine⟨h,dload hci (loadi hci) (hq _ _ ?_),h1⟩
              unfold dop at h1;rw [hcx]at h1;simp only [ax]at h1
              have hloose:looseCall ops (aheads ops) x=true:=by
                unfold looseCall
                rw [List.any_eq_true]
                refine⟨i,List.mem_range.2 m.hi,?_⟩
                rw [hoi];simp [hci,m.no,hnoi]
              rw [if_pos hloose]at h1
              split at h1
              · rename_i hs
                obtain⟨b'',hb'',hcc⟩:=loadi hci
                rw [hb']at hb'';simp at hb'';subst hb''
                rcases hcc with hcc | hcc
                · exact(loadSolo_no hcc hox (by have:=m.lt;have:=m.hi;omega) (by have:=m.lt;omega) hnoi m.no (by rw [hcx];decide) (by rw [hcx];decide)).elim
                exact(sameOld_get hs (by rcases hcc with hcc | ⟨hcc,_,_⟩<;>omega)).symm
              · cases h1
            | alloc=>rw [hcx,hci]at hpair;cases hpair
            | store=>rw [hcx,hci]at hpair;cases hpair
            | call=>rw [hcx,hci]at hpair;cases hpair
            | app=>rw [hcx,hci]at hpair;cases hpair
            | other=>rw [hcx,hci]at hpair;cases hpair
          | app =>
            cases hci:cls oi.op with
            | pure =>
              obtain⟨rfl,hq⟩:=pure_spec hci ai
              exact⟨h,dpure0 hci (hq _ _),h1⟩
            | alloc =>
              obtain⟨blk,rfl,hq⟩:=alloc_spec hci ai
              have hk:=idsx hcx
              have away: ∀ k∈appIds (agetOp σ) ox.op,k≠n0+i:=fun k hkm=>awayOf m.hi hk hkm hnoi
              have agree: ∀ k∈appIds (agetOp σ) ox.op,(h.set (n0+i) blk).get k=h.get k:=fun k hkm=>AHeap.get_set_ne _ _ (fun e=>away k hkm e.symm)
              refine⟨h.set (n0+i) blk,by rw [dalloc hci];exact hq _,?_⟩
              rw [dapp hcx hk]
              rcases app_spec hcx ax with ⟨k1,k2⟩ | ⟨id,b',k1,k2,k3⟩
              · subst k1;exact k2 _ agree
              · subst k2
                have hne:n0+i≠id:=by
                  rcases k1 with rfl | k1
                  · have:=m.lt;omega
                  · exact fun e=>away id k1 e.symm
                rw [k3 _ agree,set_comm hne]
            | load=>rw [hcx,hci]at hpair;cases hpair
            | store=>rw [hcx,hci]at hpair;cases hpair
            | call=>rw [hcx,hci]at hpair;cases hpair
            | app=>rw [hcx,hci]at hpair;cases hpair
            | other=>rw [hcx,hci]at hpair;cases hpair
          | other =>
            cases hci:cls oi.op with
            | pure =>
              obtain⟨rfl,hq⟩:=pure_spec hci ai
              exact⟨h,dpure0 hci (hq _ _),h1⟩
            | load=>rw [hcx,hci]at hpair;cases hpair
            | alloc=>rw [hcx,hci]at hpair;cases hpair
            | store=>rw [hcx,hci]at hpair;cases hpair
            | call=>rw [hcx,hci]at hpair;cases hpair
            | app=>rw [hcx,hci]at hpair;cases hpair
            | other=>rw [hcx,hci]at hpair;cases hpair
theorem swap_step {ops:Array Oper}(hl:Lower ops){n0 x i:Nat}(m:May call ops x i){s s1 s2:ASt}(h1:dstep E call ops n0 x s=some s1)(h2:dstep E call ops n0 i s1=some s2) :
    ∃ t,dstep E call ops n0 i s=some t∧dstep E call ops n0 x t=some s2:=by
  have hxl:x<ops.size:=by have:=m.lt;have:=m.hi;omega
  have hox:ops[x]? =some ops[x]:=Array.getElem?_eq_getElem hxl
  have hoi:ops[i]? =some (ops[i]'m.hi):=Array.getElem?_eq_getElem m.hi
  obtain⟨hpair,hap⟩:=m.pair _ _ hox hoi
  obtain⟨a1,a2,a3⟩:=apart_spec hap
  rw [dstep_eq hox,Option.map_eq_some_iff]at h1
  obtain⟨⟨vx,hx⟩,k1,rfl⟩:=h1
  rw [dstep_eq hoi,Option.map_eq_some_iff]at h2
  obtain⟨⟨vi,hh2⟩,k2,rfl⟩:=h2
  simp only at k2
  rw [aput_congr a1]at k2
  obtain⟨h1',g1,g2⟩:=swap_val hl m hox hoi k1 k2
  refine⟨⟨aput s.slots (ops[i]'m.hi).dst vi,h1'⟩,?_,?_⟩
  · rw [dstep_eq hoi,g1];rfl
  · rw [dstep_eq hox]
    simp only
    rw [aput_congr a2,g2]
    simp only [Option.map_some]
    rw [aput_comm a3]
theorem front {ops:Array Oper}(hl:Lower ops){n0 i:Nat}{q:List Nat} : ∀ {p:List Nat} {s s':ASt},(∀ x∈p,May call ops x i)→drun E call ops n0 (p++i::q) s=some s' →
    ∃ t,dstep E call ops n0 i s=some t∧drun E call ops n0 (p++q) t=some s'
  | [],s,s',_,h=>by
    simp only [List.nil_append,drun]at h ⊢
    split at h
    · rename_i t ht;exact⟨t,ht,h⟩
    · cases h
  | x ::p,s,s',hm,h=>by
    simp only [List.cons_append,drun]at h
    split at h
    · rename_i s1 hs1
      obtain⟨t,h1,h2⟩:=front hl (fun y hy=>hm y (by simp [hy])) h
      obtain⟨u,g1,g2⟩:=swap_step hl (hm x (by simp)) hs1 h1
      refine⟨u,g1,?_⟩
      simp only [List.cons_append,drun,g2];exact h2
    · cases h
theorem dstep_astep {ops:Array Oper} {n0 j:Nat} {s s':ASt} (h:dstep E call ops n0 j s=some s'):astep E call ops n0 j s=some s':=by
  unfold dstep at h
  unfold astep
  split at h
  · rename_i e;simp [e];simpa using h
  · rename_i o e
    split at h
    · rename_i hw
      split at h
      · rename_i v hp hd
        rw [show aopX E call (n0+j) (agetOp s.slots) s.heap o.op=some (v,hp)from dop_aopX hd];exact h
      · cases h
    · exact h
    · cases h
end
section
variable {P:Program}{φ:Map}{E:AEnv}
theorem drawOk_spec {ops:Array Oper}(call:ACall)(h:drawOk ops=true):Lower ops∧ ∀ x i,x<i→i<ops.size→ordered (aheads ops) x i=false→May call ops x i:=by
  unfold drawOk at h
  simp only [List.all_eq_true,List.mem_range]at h
  have hlow:Lower ops:=by
    intro j o ho e he hb
    have hj:j<ops.size:=by
      rcases Nat.lt_or_ge j ops.size with h' | h'
      · exact h'
      · rw [Array.getElem?_eq_none h']at ho;cases ho
    have:=h j hj
    rw [ho]at this
    simp only [Bool.and_eq_true,List.all_eq_true]at this
    have:=this.1 e he
    simpa [hb]using this
  refine⟨hlow,fun x i hxi hi hno=>⟨hxi,hi,hno,fun ox oi hox hoi=> ?_⟩⟩
  have:=h i hi
  rw [hoi]at this
  simp only [Bool.and_eq_true,List.all_eq_true,List.mem_range]at this
  have:=this.2 x hxi
  rw [hno,hox]at this
  simp only [Bool.false_or,Bool.and_eq_true]at this
  exact⟨.inl this.1,this.2⟩
def drawOkF (ops:Array Oper):Bool :=
  let bf:=aheads ops
  (List.range ops.size).all fun j =>
    match ops[j]? with
    | none=>true
    | some y =>
      (y.after.toList.all fun e=> !binding e || decide (e.on<j)) &&
      (List.range j).all fun i =>
        ordered bf i j ||
        match ops[i]? with
        | none=>true
        | some x=>(pairOk (cls x.op) (cls y.op) || pairF (cls x.op) (cls y.op)) && apartOps ops x y
theorem drawOkF_spec {ops:Array Oper}(call:ACall)(hf:FreeC call)(h:drawOkF ops=true):Lower ops∧ ∀ x i,x<i→i<ops.size→ordered (aheads ops) x i=false→May call ops x i:=by
  unfold drawOkF at h
  simp only [List.all_eq_true,List.mem_range]at h
  have hlow:Lower ops:=by
    intro j o ho e he hb
    have hj:j<ops.size:=by
      rcases Nat.lt_or_ge j ops.size with h' | h'
      · exact h'
      · rw [Array.getElem?_eq_none h']at ho;cases ho
    have:=h j hj
    rw [ho]at this
    simp only [Bool.and_eq_true,List.all_eq_true]at this
    have:=this.1 e he
    simpa [hb]using this
  refine⟨hlow,fun x i hxi hi hno=>⟨hxi,hi,hno,fun ox oi hox hoi=> ?_⟩⟩
  have:=h i hi
  rw [hoi]at this
  simp only [Bool.and_eq_true,List.all_eq_true,List.mem_range]at this
  have:=this.2 x hxi
  rw [hno,hox]at this
  simp only [Bool.false_or,Bool.and_eq_true,Bool.or_eq_true]at this
  exact⟨this.1.imp id fun q=>⟨hf,q⟩,this.2⟩
def unlisted(ops:Array Oper)(listed:Array Bool):List Nat:=(List.range ops.size).filter fun i=> !listed.getD i true
theorem ready_mem {ops:Array Oper}{listed:Array Bool}{i:Nat}(h:i∈Region.ready .any ops listed) :
    i<ops.size∧listed.getD i true=false∧ ∃ o,ops[i]? =some o∧ ∀ e∈o.after.toList,binding e=true→listed.getD e.on false=true:=by
  unfold Region.ready at h
  simp only [List.mem_filter,List.mem_range,Bool.and_eq_true,Bool.not_eq_true']at h
  obtain⟨h1,h2,h3⟩:=h
  refine⟨h1,h2,ops[i],Array.getElem?_eq_getElem h1,fun e he hb=> ?_⟩
  rw [Array.getElem?_eq_getElem h1]at h3
  simp only [Option.map_some,Option.getD_some,Array.all_eq_true_iff_forall_mem]at h3
  have:=h3 e (by simpa using he)
  unfold binding at hb
  simpa [hb]using this
theorem ready_first {ops:Array Oper} (hl:Lower ops) {listed:Array Bool} (hsz:listed.size=ops.size) {i:Nat} {r:List Nat} (h:unlisted ops listed=i::r):i∈Region.ready .any ops listed:=by
  have hi:i∈unlisted ops listed:=by rw [h];simp
  have hi':=hi
  unfold unlisted at hi
  simp only [List.mem_filter,List.mem_range,Bool.not_eq_true']at hi
  unfold Region.ready
  simp only [List.mem_filter,List.mem_range,Bool.and_eq_true,Bool.not_eq_true']
  refine⟨hi.1,hi.2,?_⟩
  rw [Array.getElem?_eq_getElem hi.1]
  simp only [Option.map_some,Option.getD_some,Array.all_eq_true_iff_forall_mem]
  intro e he
  cases hb:Region.binds .any e with
  | false=>rfl
  | true =>
    simp only [Bool.not_true,Bool.false_or]
    have hlt:=hl i _ (Array.getElem?_eq_getElem hi.1) e (by simpa using he) hb
    cases hle:listed.getD e.on false with
    | true=>rfl
    | false =>
      exfalso
      have hin:e.on∈unlisted ops listed:=by
        unfold unlisted
        simp only [List.mem_filter,List.mem_range,Bool.not_eq_true']
        refine⟨by omega,?_⟩
        have hlt':e.on<listed.size:=by omega
        rw [Array.getD_eq_getD_getElem?,Array.getElem?_eq_getElem hlt']at hle ⊢
        simpa using hle
      have hsorted:(unlisted ops listed).Pairwise (· < ·):=List.Pairwise.filter _ List.pairwise_lt_range
      rw [h]at hsorted hin
      rcases List.mem_cons.1 hin with he' | he'
      · omega
      · have:=(List.pairwise_cons.1 hsorted).1 _ he';omega
theorem unlisted_set {ops:Array Oper}{listed:Array Bool}(hsz:listed.size=ops.size){i:Nat}{p q:List Nat}(h:unlisted ops listed=p++i::q):unlisted ops (listed.setIfInBounds i true)=p++q:=by
  have hnd:(unlisted ops listed).Nodup:=List.Pairwise.filter _ List.nodup_range
  have hi:i∈unlisted ops listed:=by rw [h];simp
  have hil:i<ops.size:=by unfold unlisted at hi;simp only [List.mem_filter,List.mem_range]at hi;exact hi.1
  have e1:unlisted ops (listed.setIfInBounds i true)=(unlisted ops listed).filter fun j=>decide (j≠i):=by
    unfold unlisted
    rw [List.filter_filter]
    refine List.filter_congr fun j hj=> ?_
    have hjl:=List.mem_range.1 hj
    by_cases hji:j=i
    · subst hji
      simp [Array.getD_eq_getD_getElem?,hsz,hil]
    · have hij: ¬ i=j:=fun e=>hji e.symm
      simp [Array.getD_eq_getD_getElem?,Array.getElem?_setIfInBounds,hji,hij]
  rw [e1,h]
  rw [h]at hnd
  have hp: ∀ j∈p,j≠i:=fun j hj e=>by
    subst e
    exact(List.nodup_append.1 hnd).2.2 j hj j (by simp) rfl
  have hq: ∀ j∈q,j≠i:=fun j hj e=>by
    subst e
    have:=(List.nodup_append.1 hnd).2.1
    exact(List.nodup_cons.1 this).1 hj
  rw [List.filter_append,List.filter_cons]
  simp only [ne_eq,not_true_eq_false,decide_false,Bool.false_eq_true,if_false]
  rw [List.filter_eq_self.2 (fun j hj=>by simpa using hp j hj),List.filter_eq_self.2 (fun j hj=>by simpa using hq j hj)]
theorem drun_any (hE:EnvOk P E) {N0:Nat→Prop} {w0:World} (hN:Low N0 w0.heap.size) {call:ACall} (hcall:CallOk P N0 w0 call) {ops:Array Oper} (hok:Lower ops∧ ∀ x i,x<i→i<ops.size→ordered (aheads ops) x i=false→May call ops x i) {n0:Nat} {Q:Exit→Act→World→Prop} :
    ∀ {fuel:Nat} {listed:Array Bool} {s s':ASt} {a:Act} {w:World} {φ:Map},listed.size=ops.size→Closed ops listed→(unlisted ops listed).length≤fuel→drun E call ops n0 (unlisted ops listed) s=some s' →
      SRel φ N0 w0 s a w→(∀ j∈unlisted ops listed,n0+j<s.heap.next∧ ∀ v,φ (n0+j) v=none) →
      (∀ a' w' φ',Keep φ φ' n0→SRel φ' N0 w0 s' a' w'→s.heap.next≤s'.heap.next→Q .normal a' w')→wpAny P .any ops Q fuel listed a w:=by
  intro fuel
  obtain⟨hlow,hmay⟩:=hok
  have hempty: ∀ {listed:Array Bool} {s s':ASt} {a:Act} {w:World} {φ:Map},listed.size=ops.size→drun E call ops n0 (unlisted ops listed) s=some s'→SRel φ N0 w0 s a w →
      (∀ a' w' φ',Keep φ φ' n0→SRel φ' N0 w0 s' a' w'→s.heap.next≤s'.heap.next→Q .normal a' w')→Region.ready .any ops listed= []→Q .normal a w:=by
    intro listed s s' a w φ hsz h r hk hr
    cases hu:unlisted ops listed with
    | nil =>
      rw [hu]at h;simp [drun]at h;subst h
      exact hk a w φ (Keep.refl _ _) r (Nat.le_refl _)
    | cons i q =>
      exfalso
      have:=ready_first hlow hsz hu
      rw [hr]at this;cases this
  induction fuel with
  | zero =>
    intro listed s s' a w φ hsz hcl hlen h r hid hk
    have hu:unlisted ops listed= []:=List.length_eq_zero_iff.1 (by omega)
    simp only [wpAny]
    have hre:Region.ready .any ops listed= []:=by
      cases hr:Region.ready .any ops listed with
      | nil=>rfl
      | cons i q =>
        exfalso
        obtain⟨h1,h2,_⟩:=ready_mem (by rw [hr];exact List.mem_cons_self)
        have:i∈unlisted ops listed:=by unfold unlisted;simp only [List.mem_filter,List.mem_range,Bool.not_eq_true'];exact⟨h1,h2⟩
        rw [hu]at this;cases this
    exact⟨hre,hempty hsz h r hk hre⟩
  | succ fuel ih =>
    intro listed s s' a w φ hsz hcl hlen h r hid hk
    simp only [wpAny]
    refine⟨hempty hsz h r hk,fun i hi=> ?_⟩
    obtain⟨h1,h2,o,ho,hpre⟩:=ready_mem hi
    have hmem:i∈unlisted ops listed:=by unfold unlisted;simp only [List.mem_filter,List.mem_range,Bool.not_eq_true'];exact⟨h1,h2⟩
    obtain⟨p,q,hpq⟩:=List.append_of_mem hmem
    have hsorted:(unlisted ops listed).Pairwise (· < ·):=List.Pairwise.filter _ List.pairwise_lt_range
    have hm: ∀ x∈p,May call ops x i:=by
      intro x hx
      rw [hpq]at hsorted
      have hlt:x<i:=(List.pairwise_append.1 hsorted).2.2 x hx i (by simp)
      refine hmay x i hlt h1 ?_
      cases hb:ordered (aheads ops) x i with
      | false=>rfl
      | true =>
        exfalso
        have hxl:=ordered_listed hlow hcl i o ho hpre hb
        have hxm:x∈unlisted ops listed:=by rw [hpq];simp [hx]
        unfold unlisted at hxm
        simp only [List.mem_filter,List.mem_range,Bool.not_eq_true']at hxm
        have hlt':x<listed.size:=by omega
        rw [Array.getD_eq_getD_getElem?,Array.getElem?_eq_getElem hlt']at hxl
        have h3:=hxm.2
        rw [Array.getD_eq_getD_getElem?,Array.getElem?_eq_getElem hlt']at h3
        simp at hxl h3
        rw [hxl]at h3;cases h3
    rw [hpq]at h
    obtain⟨t,g1,g2⟩:=front hlow hm h
    refine astep_sound hE hN hcall r (hid i hmem) (dstep_astep g1) fun a' w' φ' hx r' hle=> ?_
    have hun:=unlisted_set hsz hpq
    refine ih (listed:=listed.setIfInBounds i true) (by simpa using hsz) ?_ ?_ (by rw [hun];exact g2) r' (fun j hj=> ?_) fun a'' w'' φ'' hkp r'' hle'=> ?_
    · intro j oj hj hoj e he hb
      by_cases hei:e.on=i
      · rw [hei];simp [Array.getD_eq_getD_getElem?,hsz,h1]
      · have hold:listed.getD e.on false=true:=by
          by_cases hji:j=i
          · subst hji
            rw [ho]at hoj;simp at hoj;subst hoj
            exact hpre e he hb
          · refine hcl j oj ?_ hoj e he hb
            have hij: ¬ i=j:=fun e=>hji e.symm
            simpa [Array.getD_eq_getD_getElem?,Array.getElem?_setIfInBounds,hij]using hj
        have hie: ¬ i=e.on:=fun e'=>hei e'.symm
        simpa [Array.getD_eq_getD_getElem?,Array.getElem?_setIfInBounds,hie]using hold
    · rw [hun];rw [hpq]at hlen;simp at hlen ⊢; omega
    · rw [hun]at hj
      have hjm:j∈unlisted ops listed:=by rw [hpq];rcases List.mem_append.1 hj with hj | hj<;>simp [hj]
      have hnd:(unlisted ops listed).Nodup:=List.Pairwise.filter _ List.nodup_range
      have hji:j≠i:=by
        rintro rfl
        rw [hpq]at hnd
        rcases List.mem_append.1 hj with hj | hj
        · exact(List.nodup_append.1 hnd).2.2 j hj j (by simp) rfl
        · exact(List.nodup_cons.1 (List.nodup_append.1 hnd).2.1).1 hj
      obtain⟨k1,k2⟩:=hid j hjm
      exact⟨by omega,hx.new _ k1 (by omega) k2⟩
    · refine hk _ _ _ (Keep.trans ⟨hx.le,fun k hkn hnn=>hx.new k ?_ (by omega) hnn,hx.ro⟩ hkp) r'' (by omega)
      have:=(hid i hmem).1;omega
theorem drun_soundM(hE:EnvOk P E){N0:Nat→Prop}{w0:World}(hN:Low N0 w0.heap.size){call:ACall}(hcall:CallOk P N0 w0 call){ops:Array Oper}(hok:Lower ops∧ ∀ x i,x<i→i<ops.size→ordered (aheads ops) x i=false→May call ops x i){n0:Nat}{s s':ASt}{a:Act}{w:World}{φ:Map}
    {Q:Exit→Act→World→Prop} (h:drun E call ops n0 (List.range ops.size) s=some s') (r:SRel φ N0 w0 s a w) (hid: ∀ j,j<ops.size→n0+j<s.heap.next∧ ∀ v,φ (n0+j) v=none)
    (hk: ∀ a' w' φ',Keep φ φ' n0→SRel φ' N0 w0 s' a' w'→s.heap.next≤s'.heap.next→Q .normal a' w'):wpAny P .any ops Q ops.size (Array.replicate ops.size false) a w:=by
  have hu:unlisted ops (Array.replicate ops.size false)=List.range ops.size:=by
    unfold unlisted
    refine List.filter_eq_self.2 fun i hi=> ?_
    have:=List.mem_range.1 hi
    simp [Array.getD_eq_getD_getElem?,Array.getElem?_replicate,this]
  refine drun_any hE hN hcall hok (by simp) ?_ (by rw [hu];simp) (by rw [hu];exact h) r (fun j hj=>by rw [hu]at hj;exact hid j (List.mem_range.1 hj)) hk
  intro j o hj
  simp [Array.getD_eq_getD_getElem?,Array.getElem?_replicate]at hj
  split at hj<;>simp at hj
theorem drun_sound(hE:EnvOk P E){N0:Nat→Prop}{w0:World}(hN:Low N0 w0.heap.size){call:ACall}(hcall:CallOk P N0 w0 call){ops:Array Oper}(hok:drawOk ops=true){n0:Nat}{s s':ASt}{a:Act}{w:World}{φ:Map}
    {Q:Exit→Act→World→Prop} (h:drun E call ops n0 (List.range ops.size) s=some s') (r:SRel φ N0 w0 s a w) (hid: ∀ j,j<ops.size→n0+j<s.heap.next∧ ∀ v,φ (n0+j) v=none)
    (hk: ∀ a' w' φ',Keep φ φ' n0→SRel φ' N0 w0 s' a' w'→s.heap.next≤s'.heap.next→Q .normal a' w'):wpAny P .any ops Q ops.size (Array.replicate ops.size false) a w :=
  drun_soundM hE hN hcall (drawOk_spec call hok) h r hid hk
end
end
end Go.Lift
namespace Go.Lift
noncomputable section
open Go.RowKit
section
variable {P:Program}{φ:Map}{E:AEnv}
def toExit:AExit→Exit
  | .normal=> .normal
  | .exit id=> .exit id
  | .goto l=> .goto l
  | .ret=> .ret
theorem SRel.bump {N0:Nat→Prop}{w0 w:World}{s:ASt}{a:Act}(r:SRel φ N0 w0 s a w)(n:Nat):SRel φ N0 w0 ⟨s.slots,{s.heap with next:=s.heap.next+n}⟩ a w :=
  ⟨r.slots,r.heap.next (by omega),r.below,r.defers⟩
theorem SRel.drew {N0:Nat→Prop}{w0 w:World}{s:ASt}{a:Act}(r:SRel φ N0 w0 s a w):SRel φ N0 w0 s a w.drew :=
  ⟨r.slots,r.heap.alike (Alike.drew' w),r.below.drew,r.defers⟩
theorem fresh_ids {N0:Nat→Prop}{w:World}{h:AHeap}(r:HRel φ N0 h w){i:Nat}(hi:h.next≤i): ∀ v,φ i v=none:=by
  intro v
  cases hq:φ i v with
  | none=>rfl
  | some p=>have:=(r.dom i v p hq).1;omega
theorem aregion_sound(hE:EnvOk P E){N0:Nat→Prop}{w0 w:World}(hN:Low N0 w0.heap.size){call:ACall}(hcall:CallOk P N0 w0 call)(hmix:P.follows .mixedOrders=true){id:Nat}{ops:Array Oper}{draw:Bool}{s s':ASt}{a:Act}(r:SRel φ N0 w0 s a w)(h:aregion E call ops draw s=some s')
    {Q:Exit→Act→World→Prop} (hk: ∀ a' w' φ',Keep φ φ' s.heap.next→SRel φ' N0 w0 s' a' w'→s.heap.next≤s'.heap.next→Q .normal a' w'):(Code.region id ops draw).wp P Q a w:=by
  have hids: ∀ j,j<ops.size→s.heap.next+j<s.heap.next+ops.size∧ ∀ v,φ (s.heap.next+j) v=none:=fun j hj=>⟨by omega,fresh_ids r.heap (by omega)⟩
  unfold aregion at h
  cases draw with
  | false =>
    simp only [Bool.false_eq_true,if_false]at h
    refine wp_region ?_
    refine arun_sound hE hN hcall h (r.bump _) List.nodup_range (fun j hj=>hids j (List.mem_range.1 hj)) fun a' w' φ' h1 h2 h3=>hk a' w' φ' h1 h2 ?_
    simp only at h3;omega
  | true =>
    simp only [if_true]at h
    split at h
    · rename_i hok
      refine wp_region_any hmix ?_
      refine drun_sound hE hN hcall hok h (r.bump _).drew hids fun a' w' φ' h1 h2 h3=>hk a' w' φ' h1 h2 ?_
      simp only at h3;omega
    · cases h
theorem aregionF_sound(hE:EnvOk P E){N0:Nat→Prop}{w0 w:World}(hN:Low N0 w0.heap.size){call:ACall}(hcall:CallOk P N0 w0 call)(hf:FreeC call)(hmix:P.follows .mixedOrders=true){id:Nat}{ops:Array Oper}{s s':ASt}{a:Act}(r:SRel φ N0 w0 s a w)
    (hok:drawOkF ops=true) (h:drun E call ops s.heap.next (List.range ops.size) ⟨s.slots,{s.heap with next:=s.heap.next+ops.size}⟩=some s')
    {Q:Exit→Act→World→Prop} (hk: ∀ a' w' φ',Keep φ φ' s.heap.next→SRel φ' N0 w0 s' a' w'→s.heap.next≤s'.heap.next→Q .normal a' w'):(Code.region id ops true).wp P Q a w:=by
  have hids: ∀ j,j<ops.size→s.heap.next+j<s.heap.next+ops.size∧ ∀ v,φ (s.heap.next+j) v=none:=fun j hj=>⟨by omega,fresh_ids r.heap (by omega)⟩
  refine wp_region_any hmix ?_
  refine drun_soundM hE hN hcall (drawOkF_spec call hf hok) h (r.bump _).drew hids fun a' w' φ' h1 h2 h3=>hk a' w' φ' h1 h2 ?_
  simp only at h3;omega
def LoopW(P:Program)(c:Code)(Q:Exit→Act→World→Prop)(a:Act)(w:World):Prop :=
  ∀ (b:Frame) (k:List Item) (cs:List Frame),∃ e a' w',Q e a' w'∧Arrives P (lone (b.at a (.code c:: .inLoop c::k)) cs w) b k cs e a' w'
theorem wp_of_loopW {c:Code}{Q:Exit→Act→World→Prop}{a:Act}{w:World}(h:LoopW P c Q a w):(Code.loop c).wp P Q a w:=fun b k cs =>
  let ⟨e,a',w',q,r⟩:=h b k cs;⟨e,a',w',q,.of_steps (.one step_loop) r⟩
theorem loopW_round {c:Code}{Q:Exit→Act→World→Prop}{a:Act}{w:World}(h:c.wp P (Exit.then (LoopW P c Q) Q) a w):LoopW P c Q a w:=by
  intro b k cs
  obtain⟨e,a₁,w₁,hq,harr⟩:=h b (.inLoop c::k) cs
  cases e with
  | normal =>
    obtain⟨e₂,a₂,w₂,hq₂,harr₂⟩:=hq b k cs
    exact⟨e₂,a₂,w₂,hq₂,.of_steps (Steps.trans harr (.one step_inLoop)) harr₂⟩
  | exit id=>exact⟨_,a₁,w₁,hq,.pass (x:= .inLoop c) rfl (fun _ _=> .inl (by simp)) harr⟩
  | goto l=>exact⟨_,a₁,w₁,hq,.pass (x:= .inLoop c) rfl (fun _ _=> .inl (by simp)) harr⟩
  | ret=>exact⟨_,a₁,w₁,hq,.pass (x:= .inLoop c) rfl (fun _ _=> .inl (by simp)) harr⟩
  | panic ch=>exact⟨_,a₁,w₁,hq,.pass (x:= .inLoop c) rfl (fun _ _=> .inl (by simp)) harr⟩
  | outgrown=>exact⟨_,a₁,w₁,hq,.pass (x:= .inLoop c) rfl (fun _ _=> .inl (by simp)) harr⟩
def ScopeW(P:Program)(body c:Code)(Q:Exit→Act→World→Prop)(a:Act)(w:World):Prop :=
  ∀ (b:Frame) (k:List Item) (cs:List Frame),∃ e a' w',Q e a' w'∧Arrives P (lone (b.at a (.code c:: .inScope body::k)) cs w) b k cs e a' w'
theorem wp_of_scopeW {c:Code}{Q:Exit→Act→World→Prop}{a:Act}{w:World}(h:ScopeW P c c Q a w):(Code.scope c).wp P Q a w:=fun b k cs =>
  let ⟨e,a',w',q,r⟩:=h b k cs;⟨e,a',w',q,.of_steps (.one step_scope) r⟩
def scopePost (P:Program) (body:Code) (Q:Exit→Act→World→Prop):Exit→Act→World→Prop
  | .goto l,a,w =>
    match findLabel body l with
    | some rest=>ScopeW P body rest Q a w
    | none=>Q (.goto l) a w
  | e,a,w=>Q e a w
theorem scopeW_of_wp {body c:Code}{Q:Exit→Act→World→Prop}{a:Act}{w:World}(h:c.wp P (scopePost P body Q) a w):ScopeW P body c Q a w:=by
  intro b k cs
  obtain⟨e,a₁,w₁,hq,harr⟩:=h b (.inScope body::k) cs
  cases e with
  | normal=>exact⟨.normal,a₁,w₁,hq,Steps.trans harr (.one step_inScope)⟩
  | exit id=>exact⟨.exit id,a₁,w₁,hq,fun k' hk=>harr k' (by simp [exitTo,hk])⟩
  | goto l =>
    simp only [scopePost]at hq
    cases hf:findLabel body l with
    | some rest =>
      rw [hf]at hq
      obtain⟨e₂,a₂,w₂,hq₂,harr₂⟩:=hq b k cs
      exact⟨e₂,a₂,w₂,hq₂,.of_steps (harr _ (by simp [gotoIn,hf])) harr₂⟩
    | none =>
      rw [hf]at hq
      exact⟨.goto l,a₁,w₁,hq,fun k' hk=>harr k' (by simp [gotoIn,hf,hk])⟩
  | ret=>exact⟨.ret,a₁,w₁,hq,harr⟩
  | panic ch=>exact⟨.panic ch,a₁,w₁,hq,harr⟩
  | outgrown=>exact⟨.outgrown,a₁,w₁,hq,harr⟩
def Sound(P:Program)(E:AEnv)(N0:Nat→Prop)(w0:World)(s s':ASt)(e:AExit)(a:Act)(w:World)(goal:(Exit→Act→World→Prop)→Prop):Prop :=
  ∀ {φ:Map} {Q:Exit→Act→World→Prop},SRel φ N0 w0 s a w→(∀ a' w' φ',Keep φ φ' s.heap.next→SRel φ' N0 w0 s' a' w'→s.heap.next≤s'.heap.next→Q (toExit e) a' w')→goal Q
theorem aexec_sound (hE:EnvOk P E) {N0:Nat→Prop} {w0:World} (hN:Low N0 w0.heap.size) {call:ACall} (hcall:CallOk P N0 w0 call) (hmix:P.follows .mixedOrders=true): ∀ (n:Nat),
    (∀ {c:Code} {s s':ASt} {e:AExit} {a:Act} {w:World},aexec E call n none c s=some (e,s')→Sound P E N0 w0 s s' e a w fun Q=>c.wp P Q a w) ∧
    (∀ {c:Code} {s s':ASt} {e:AExit} {a:Act} {w:World},aexec E call n none (.loop c) s=some (e,s')→Sound P E N0 w0 s s' e a w fun Q=>LoopW P c Q a w) ∧
    (∀ {b c:Code} {s s':ASt} {e:AExit} {a:Act} {w:World},aexec E call n (some b) c s=some (e,s')→Sound P E N0 w0 s s' e a w fun Q=>ScopeW P b c Q a w):=by
  intro n
  induction n with
  | zero=>refine⟨?_,?_,?_⟩<;>(intros;simp_all [aexec])
  | succ n ih =>
    obtain⟨ih1,ih2,ih3⟩:=ih
    have hloop: ∀ {c:Code} {s s':ASt} {e:AExit} {a:Act} {w:World},aexec E call (n+1) none (.loop c) s=some (e,s')→Sound P E N0 w0 s s' e a w fun Q=>LoopW P c Q a w:=by
      intro c s s' e a w h φ Q r hk
      simp only [aexec]at h
      refine loopW_round ?_
      cases h1:aexec E call n none c s with
      | none=>simp [h1]at h
      | some p =>
        obtain⟨e1,s1⟩:=p
        rw [h1]at h
        refine ih1 h1 r fun a' w' φ' g1 g2 g3=> ?_
        cases e1 with
        | normal =>
          simp only at h
          show LoopW P c Q a' w'
          exact ih2 h g2 fun a'' w'' φ'' k1 k2 k3=>hk a'' w'' φ'' (g1.trans (k1.mono g3)) k2 (by omega)
        | exit id=>simp at h;obtain⟨rfl,rfl⟩:=h;exact hk a' w' φ' g1 g2 g3
        | goto id=>simp at h;obtain⟨rfl,rfl⟩:=h;exact hk a' w' φ' g1 g2 g3
        | ret=>simp at h;obtain⟨rfl,rfl⟩:=h;exact hk a' w' φ' g1 g2 g3
    have hscope: ∀ {b c:Code} {s s':ASt} {e:AExit} {a:Act} {w:World},aexec E call (n+1) (some b) c s=some (e,s')→Sound P E N0 w0 s s' e a w fun Q=>ScopeW P b c Q a w:=by
      intro b c s s' e a w h φ Q r hk
      simp only [aexec]at h
      refine scopeW_of_wp ?_
      cases h1:aexec E call n none c s with
      | none=>simp [h1]at h
      | some p =>
        obtain⟨e1,s1⟩:=p
        rw [h1]at h
        refine ih1 h1 r fun a' w' φ' g1 g2 g3=> ?_
        cases e1 with
        | normal=>simp at h;obtain⟨rfl,rfl⟩:=h;exact hk a' w' φ' g1 g2 g3
        | exit id=>simp at h;obtain⟨rfl,rfl⟩:=h;exact hk a' w' φ' g1 g2 g3
        | goto l =>
          simp only at h
          show scopePost P b Q (.goto l) a' w'
          simp only [scopePost]
          cases hf:findLabel b l with
          | some rest =>
            rw [hf]at h
            exact ih3 h g2 fun a'' w'' φ'' k1 k2 k3=>hk a'' w'' φ'' (g1.trans (k1.mono g3)) k2 (by omega)
          | none =>
            rw [hf]at h
            simp at h;obtain⟨rfl,rfl⟩:=h;exact hk a' w' φ' g1 g2 g3
        | ret=>simp at h;obtain⟨rfl,rfl⟩:=h;exact hk a' w' φ' g1 g2 g3
    refine⟨?_,hloop,hscope⟩
    intro c s s' e a w h φ Q r hk
    cases c with
    | skip=>simp [aexec]at h;obtain⟨rfl,rfl⟩:=h;exact wp_skip (hk a w φ (Keep.refl _ _) r (Nat.le_refl _))
    | label l=>simp [aexec]at h;obtain⟨rfl,rfl⟩:=h;exact wp_label (hk a w φ (Keep.refl _ _) r (Nat.le_refl _))
    | region id ops draw =>
      simp only [aexec,Option.map_eq_some_iff,Prod.mk.injEq]at h
      obtain⟨s1,h1,rfl,rfl⟩:=h
      exact aregion_sound hE hN hcall hmix r h1 hk
    | seq x y =>
      simp only [aexec]at h
      refine wp_seq ?_
      cases h1:aexec E call n none x s with
      | none=>simp [h1]at h
      | some p =>
        obtain⟨e1,s1⟩:=p
        rw [h1]at h
        refine ih1 h1 r fun a' w' φ' g1 g2 g3=> ?_
        cases e1 with
        | normal =>
          simp only at h
          show y.wp P Q a' w'
          exact ih1 h g2 fun a'' w'' φ'' k1 k2 k3=>hk a'' w'' φ'' (g1.trans (k1.mono g3)) k2 (by omega)
        | exit id=>simp at h;obtain⟨rfl,rfl⟩:=h;exact hk a' w' φ' g1 g2 g3
        | goto id=>simp at h;obtain⟨rfl,rfl⟩:=h;exact hk a' w' φ' g1 g2 g3
        | ret=>simp at h;obtain⟨rfl,rfl⟩:=h;exact hk a' w' φ' g1 g2 g3
    | cond x y z =>
      simp only [aexec]at h
      have hx:=r.eval x
      split at h
      · rename_i hb
        rw [hb]at hx;simp only [VRel]at hx
        exact wp_cond_true hx (ih1 h r hk)
      · rename_i hb
        rw [hb]at hx;simp only [VRel]at hx
        exact wp_cond_false hx (ih1 h r hk)
      · cases h
    | block id c =>
      simp only [aexec]at h
      refine wp_block ?_
      cases h1:aexec E call n none c s with
      | none=>simp [h1]at h
      | some p =>
        obtain⟨e1,s1⟩:=p
        rw [h1]at h
        refine ih1 h1 r fun a' w' φ' g1 g2 g3=> ?_
        cases e1 with
        | normal=>simp at h;obtain⟨rfl,rfl⟩:=h;exact hk a' w' φ' g1 g2 g3
        | exit j =>
          simp at h;obtain⟨rfl,rfl⟩:=h
          simp only [toExit,Exit.inBlock]
          by_cases hj:j=id
          · rw [if_pos hj]at hk ⊢; exact hk a' w' φ' g1 g2 g3
          · rw [if_neg hj]at hk ⊢; exact hk a' w' φ' g1 g2 g3
        | goto l=>simp at h;obtain⟨rfl,rfl⟩:=h;exact hk a' w' φ' g1 g2 g3
        | ret=>simp at h;obtain⟨rfl,rfl⟩:=h;exact hk a' w' φ' g1 g2 g3
    | loop c=>exact wp_of_loopW (hloop h r hk)
    | scope c =>
      simp only [aexec]at h
      exact wp_of_scopeW (ih3 h r hk)
    | goto l=>simp [aexec]at h;obtain⟨rfl,rfl⟩:=h;exact wp_goto (hk a w φ (Keep.refl _ _) r (Nat.le_refl _))
    | exit id=>simp [aexec]at h;obtain⟨rfl,rfl⟩:=h;exact wp_exit (hk a w φ (Keep.refl _ _) r (Nat.le_refl _))
    | ret=>simp [aexec]at h;obtain⟨rfl,rfl⟩:=h;exact wp_ret (hk a w φ (Keep.refl _ _) r (Nat.le_refl _))
    | rangeFunc f ps x y=>simp [aexec]at h
    | refuse w=>simp [aexec]at h
theorem aresults_sound (hD:E.D.Ok P) {N0:Nat→Prop} {w0 w:World} {s:ASt} {a:Act} (r:SRel φ N0 w0 s a w): ∀ {rs:List ResultVar} {l:List AVal},aresults E.D rs s=some l →
    ∃ vs,(rs.mapM (fun(x:ResultVar)=>(match x with | .tmp t=>pure (a.tmps.getD t undef) | .cell b t=>do loadVar t (← asAddr (a.tmps.getD b undef)):Sem Value))).run P w= .ok vs w∧VRels φ l vs
  | [],l,h=>by simp [aresults]at h;subst h;exact⟨[],rfl,by simp [VRels]⟩
  | .tmp t::rs,l,h=>by
    simp only [aresults,Option.map_eq_some_iff]at h
    obtain⟨m,h1,rfl⟩:=h
    obtain⟨vs,k1,k2⟩:=aresults_sound hD r h1
    refine⟨a.tmps.getD t undef::vs,?_,?_⟩
    · simp only [List.mapM_cons,Sem.run_bind,Sem.run_pure,Result.andThen_ok,k1]
    · simp only [VRels];exact⟨_,_,rfl,r.slots.getD_arr t,k2⟩
  | .cell b t::rs,l,h=>by
    simp only [aresults]at h
    split at h
    · rename_i p hp
      split at h
      · rename_i v m h1 h2
        simp at h;subst h
        obtain⟨vs,k1,k2⟩:=aresults_sound hD r h2
        have hb:=r.slots.getD_arr b
        rw [hp]at hb
        obtain⟨v',g1,g2⟩:=sim_load hD r.heap hb h1
        simp only [VRel]at hb
        obtain⟨xa,hxa,hat⟩:=hb
        rw [hxa]at g1
        simp only [Instr.loadAt,Instr.sureAddr,Sem.run_bind,Sem.run_pure,Result.andThen_ok]at g1
        refine⟨v'::vs,?_,?_⟩
        · have hA:(asAddr (a.tmps.getD b undef)).run P w= .ok xa w:=by rw [hxa];rfl
          simp only [List.mapM_cons,Sem.run_bind,hA,Sem.run_pure,Result.andThen_ok,g1,k1]
        · simp only [VRels];exact⟨_,_,rfl,g2,k2⟩
      · cases h
    · cases h
theorem results_sound (hD:E.D.Ok P) {N0:Nat→Prop} {w0 w:World} {s:ASt} {a:Act} (r:SRel φ N0 w0 s a w) {fn:Func} {l:List AVal} (h:aresults E.D fn.results.toList s=some l) :
    ∃ v',(results fn a.tmps).run P w= .ok v' w∧VRel φ (aresult l) v':=by
  obtain⟨vs,h1,h2⟩:=aresults_sound hD r h
  have hm:(fn.results.mapM (fun(x:ResultVar)=>(match x with | .tmp t=>pure (a.tmps.getD t undef) | .cell b t=>do loadVar t (← asAddr (a.tmps.getD b undef)):Sem Value))).run P w= .ok vs.toArray w:=by
    rw [← Array.toArray_toList (xs:=fn.results)]
    simp only [List.mapM_toArray,Sem.run_map,h1,Result.andThen_ok]
  have hlen:=h2.length
  by_cases h1l:l.length=1
  · obtain⟨x,rfl⟩:=List.length_eq_one_iff.1 h1l
    obtain⟨y,rfl⟩:=List.length_eq_one_iff.1 (by rw [hlen,h1l])
    refine⟨y,?_,?_⟩
    · unfold results
      rw [Sem.run_bind]
      erw [hm]
      rfl
    · simp only [VRels]at h2
      obtain⟨v,t,e,h3,h4⟩:=h2
      simp at e;obtain⟨rfl,rfl⟩:=e
      exact h3
  · refine⟨.tuple vs.toArray,?_,?_⟩
    · unfold results
      rw [Sem.run_bind]
      erw [hm]
      simp only [Result.andThen_ok,Sem.run_pure]
      rw [dif_neg (by simp;omega)]
    · have:aresult l= .tuple l:=by
        unfold aresult
        split
        · simp at h1l
        · rfl
      rw [this];simp only [VRel];exact⟨_,rfl,by simpa using h2⟩
theorem acall_sound (hE:EnvOk P E) {N0:Nat→Prop} {w0:World} (hN:Low N0 w0.heap.size) (hC:E.cond N0 w0) (hmix:P.follows .mixedOrders=true): ∀ n,CallOk P N0 w0 (acall P E n):=by
  intro n
  induction n with
  | zero=>intro f args h v h' hc;simp [acall]at hc
  | succ n ih =>
    intro f args h v h' hc φ w args' hH hB hA
    simp only [acall]at hc
    split at hc
    · rename_i g hg;exact hE.prims f g hg N0 w0 hN hC args h v h' hc φ w args' hH hB hA
    · rename_i hnone
      split at hc
      · rename_i fn hfn
        split at hc
        · rename_i c hbody
          refine⟨⟨fn,c,hfn,hbody⟩,?_⟩
          refine calls_of_wp hfn hbody ?_
          have hlen:args'.size=args.length:=by have:=hA.length;rwa [Array.length_toList]at this
          have r:SRel φ N0 w0 ⟨args++List.replicate (fn.ntmps-args.length) skipped,h⟩ {tmps:=args'++Array.replicate (fn.ntmps-args'.size) undef,defers:= []} w:=by
            refine⟨?_,hH,hB,rfl⟩
            simp only [Array.toList_append,Array.toList_replicate,hlen]
            exact hA.append (VRels.replicate (VRel.skipped φ) _)
          cases hx:aexec E (acall P E n) n none c ⟨args++List.replicate (fn.ntmps-args.length) skipped,h⟩with
          | none=>simp [hx]at hc
          | some p =>
            obtain⟨e,s⟩:=p
            rw [hx]at hc
            have fin: ∀ a' w' φ',Keep φ φ' h.next→SRel φ' N0 w0 s a' w'→h.next≤s.heap.next→ ∀ {l},aresults E.D fn.results.toList s=some l→v=aresult l→h'=s.heap →
                a'.defers= []∧ ∃ v_1,(results fn a'.tmps).run P w'= .ok v_1 w'∧ ∃ v' φ',Ending.returned v_1= .returned v'∧Keep φ φ' h.next∧VRel φ' v v'∧HRel φ' N0 h' w'∧Safe N0 w0 w'∧h.next≤h'.next:=by
              intro a' w' φ' g1 g2 g3 l hl hv hh
              subst hv hh
              obtain⟨v',k1,k2⟩:=results_sound hE.tys g2 hl
              exact⟨g2.defers,v',k1,v',φ',rfl,g1,k2,g2.heap,g2.below,g3⟩
            refine(aexec_sound hE hN ih hmix n).1 hx r fun a' w' φ' g1 g2 g3=> ?_
            cases e with
            | normal =>
              simp only [Option.map_eq_some_iff,Prod.mk.injEq]at hc
              obtain⟨l,hl,h1,h2⟩:=hc
              exact fin a' w' φ' g1 g2 g3 hl h1.symm h2.symm
            | ret =>
              simp only [Option.map_eq_some_iff,Prod.mk.injEq]at hc
              obtain⟨l,hl,h1,h2⟩:=hc
              exact fin a' w' φ' g1 g2 g3 hl h1.symm h2.symm
            | exit id=>simp at hc
            | goto id=>simp at hc
        · cases hc
      · cases hc
end
end
end Go.Lift
namespace Go.Lift
noncomputable section
open Go.RowKit
section
variable {P:Program}{E:AEnv}
def saysTrue:Option (AVal×AHeap)→Bool
  | some (.bool true,_)=>true
  | _=>false
theorem saysTrue_spec {r:Option (AVal×AHeap)}(h:saysTrue r=true): ∃ h',r=some (.bool true,h'):=by
  unfold saysTrue at h
  split at h
  · exact⟨_,rfl⟩
  · cases h
def noMap:Map:=fun _ _=>none
theorem HRel.empty(N0:Nat→Prop)(w:World)(n:Nat):HRel noMap N0 ⟨n,.nil⟩ w where
  dom i v p h:=by cases h
  apart i v p j u q h:=by cases h
  same i v p u q h:=by cases h
theorem Tys.ok_self(P:Program):Tys.Ok (tyD P) P:=fun _ _ h=>h
theorem names_of {P:Program}(h:(P.funcs.toList.all fun fn=> !(fn.name == "runtime.NumGoroutine"))=true): ∀ (f:Nat) fn,P.funcs[f]? =some fn→(fn.name == "runtime.NumGoroutine")=false:=by
  intro f fn hf
  have hm:fn∈P.funcs.toList:=by
    rw [← Array.getElem?_toList]at hf
    exact List.mem_of_getElem? hf
  have:=List.all_eq_true.1 h fn hm
  simpa using this
theorem eqs_of {P:Program}{E:AEnv}(h:(E.eqs.all fun t=>eqOkB P t)=true): ∀ t,E.eqT t=true→EqOk P t:=by
  intro t ht
  exact List.all_eq_true.1 h t (by simpa [AEnv.eqT]using ht)
end
end
end Go.Lift
namespace Go.Lift
noncomputable section
open Go.RowKit Go.Shelf
section
variable {P:Program}{φ:Map}
theorem frozen_of_block {w w':World}{a:Addr}(e:w'.heap[a.block]? =w.heap[a.block]?):w'.frozen? a=w.frozen? a:=by
  unfold World.frozen?;rw [e]
theorem Alike.below {w w':World}(k:Below w.heap.size w w'):Alike w w' where
  size:=k.size
  cell a ha:=k.cell ha
  frozen a ha:=frozen_of_block (k.block _ ha)
  mark b hb:=markOf_of (k.block _ hb)
theorem Safe.belowBy {N0:Nat→Prop}{w0 w w':World}(h:Safe N0 w0 w)(hN:Low N0 w0.heap.size)(k:Below w.heap.size w w'):Safe N0 w0 w' :=
  h.trans ⟨k.os,k.tape,k.output,k.size,fun i hi=>k.block i (Nat.lt_of_lt_of_le (hN i hi) h.size)⟩
theorem text_call {N0:Nat→Prop}{w0 w:World}{h:AHeap}{f:FuncId}{args':Array Value}{s:List UInt8}(hN:Low N0 w0.heap.size)(hH:HRel φ N0 h w)(hB:Safe N0 w0 w)
    (hc:Calls P f args' w fun e w'=>e= .returned (.string ⟨s.toArray⟩)∧Below w.heap.size w w') :
    Calls P f args' w fun e w'=> ∃ v' φ',e= .returned v'∧Keep φ φ' h.next∧VRel φ' (.str s) v'∧HRel φ' N0 h w'∧Safe N0 w0 w'∧h.next≤h.next :=
  hc.mono fun e w' ⟨he,hb⟩=>⟨_,φ,he,Keep.refl _ _,by simp only [VRel];exact⟨_,rfl,by simp⟩,hH.alike (Alike.below hb),hB.belowBy hN hb,Nat.le_refl _⟩
def repeatPrim:APrim:=fun args h =>
  match args with
  | [.str s,.int .i64 c]=>if 0≤c∧c≤2^20∧s.length≤2^20 then some (.str (Lib.repeatL s c.toNat),h)else none
  | _=>none
theorem repeat_ok {ρ:Ren}(L:Go.Proofs.Lays.n105 P ρ)(X:Go.Proofs.Builder.Extra P ρ){C:(Nat→Prop)→World→Prop}(hb: ∃ fn c,P.funcs[ρ.f 105]? =some fn∧fn.body=some c):PrimOk P C (ρ.f 105) repeatPrim:=by
  intro N0 w0 hN hC args h v h' hg φ w args' hH hB hA
  unfold repeatPrim at hg
  split at hg
  · rename_i s c
    split at hg
    · rename_i hc
      simp only [Option.some.injEq,Prod.mk.injEq]at hg
      obtain⟨rfl,rfl⟩:=hg
      obtain⟨l⟩:=args'
      simp only [VRels,VRel]at hA
      obtain⟨a,t,rfl,⟨u,rfl,rfl⟩,b,t2,rfl,rfl,rfl⟩:=hA
      refine⟨hb,text_call hN hH hB ?_⟩
      have hsz:u.size≤2^20:=by have:=hc.2.2;simpa using this
      have hcn:c.toNat≤2^20:=by omega
      have hm:u.size*c.toNat≤2^20*2^20:=Nat.mul_le_mul hsz hcn
      have k:=Go.Proofs.Any.strings_Repeat L X u c.toNat w (by omega) (by omega)
      rwa [Int.toNat_of_nonneg hc.1]at k
    · cases hg
  · cases hg
def strsOf:List AVal→Option (List (List UInt8))
  | []=>some []
  | .str s::r=>(strsOf r).map fun l=>s::l
  | _=>none
def joinPrim:APrim:=fun args h =>
  match args with
  | [.slice (some a) n c,.str sep] =>
    if a.fld=0∧a.es=1∧0<n∧n≤2^20 then
      match h.get a.id with
      | some b =>
        if a.idx+n≤b.lim a.ver∧a.idx+n≤b.elems.length then
          match strsOf ((b.elems.drop a.idx).take n)with
          | some xs=>if(Lib.join xs sep).length≤2^20 then some (.str (Lib.join xs sep),h)else none
          | none=>none
        else none
      | none=>none
    else none
  | _=>none
theorem strsOf_spec: ∀ {l:List AVal} {xs:List (List UInt8)} {news:List Value},strsOf l=some xs→VRels φ (flat l) news→ ∃ bs:List ByteArray,news=bs.map Value.string∧xs=bs.map (·.data.toList)
  | [],xs,news,h,k=>by
    simp only [strsOf,Option.some.injEq]at h;subst h
    simp only [flat,List.flatMap_nil,VRels]at k;subst k
    exact⟨[],rfl,rfl⟩
  | a ::r,xs,news,h,k=>by
    unfold strsOf at h
    split at h
    · rename_i h0;cases h0
    · rename_i s r' e
      simp only [List.cons.injEq]at e;obtain⟨rfl,rfl⟩:=e
      cases hb:strsOf r with
      | none=>rw [hb]at h;cases h
      | some q =>
        rw [hb]at h;simp only [Option.map_some,Option.some.injEq]at h;subst h
        simp only [flat,List.flatMap_cons,AVal.cells,List.cons_append,List.nil_append,VRels]at k
        obtain⟨v,t,rfl,k1,k2⟩:=k
        simp only [VRel]at k1;obtain⟨u,rfl,rfl⟩:=k1
        obtain⟨bs,e1,e2⟩:=strsOf_spec hb k2
        exact⟨u::bs,by rw [e1];rfl,by rw [e2];rfl⟩
    · cases h
theorem join_ok {ρ:Ren} (L:Go.Proofs.Lays.n156 P ρ) (X:Go.Proofs.Builder.Extra P ρ) {C:(Nat→Prop)→World→Prop} (hb: ∃ fn c,P.funcs[ρ.f 156]? =some fn∧fn.body=some c):PrimOk P C (ρ.f 156) joinPrim:=by
  intro N0 w0 hN hC args h v h' hg φ w args' hH hB hA
  unfold joinPrim at hg
  split at hg
  · rename_i a n c sep
    split at hg
    · rename_i hc
      obtain⟨hf,hes,h0,hn⟩:=hc
      split at hg
      · rename_i b hbb
        split at hg
        · rename_i hl
          split at hg
          · rename_i xs hxs
            split at hg
            · rename_i hlen
              simp only [Option.some.injEq,Prod.mk.injEq]at hg
              obtain⟨rfl,rfl⟩:=hg
              obtain⟨l⟩:=args'
              simp only [VRels]at hA
              obtain⟨x,t,rfl,hx,y,t2,rfl,hy,rfl⟩:=hA
              simp only [VRel]at hx hy
              obtain⟨u,rfl,rfl⟩:=hy
              obtain⟨xa,cap',rfl,l1,l2,hso⟩:=hx
              obtain⟨p,hp,hes',hor,hex⟩:=hso.plain hf
              rcases hor with hz | ⟨hlo,rfl,htot⟩
              · omega
              · obtain⟨g1,b',g2,g3,g4,g5,g6,g7,g8⟩:=hH.dom _ _ _ hp
                obtain⟨news,n1,n2,n3,n4,n5⟩:=hH.readElems hp hbb hlo hl.1 hl.2
                obtain⟨bs,e1,e2⟩:=strsOf_spec hxs n1
                have hpe:p.es=1:=by omega
                have hbl:bs.length=n:=by
                  have:=n5;rw [e1,List.length_map,hpe,Nat.mul_one]at this;exact this
                refine⟨hb,text_call hN hH hB ?_⟩
                rw [e2]
                rw [e2]at hlen
                subst hbl
                exact Go.Proofs.Any.strings_Join L X p.blk (p.off+(a.idx-p.lo)*p.es) cap' bs u w (fun j z hz=>n2 j _ (by rw [e1,List.getElem?_map,hz];rfl)) g8.blk (by omega) (by omega) (by omega)
            · cases hg
          · cases hg
        · cases hg
      · cases hg
    · cases hg
  · cases hg
def checkPrim (T:TypeId):APrim:=fun args h =>
  match args with
  | [.ptr (some a)] =>
    if a.idx=0∧a.fld=0 then
      match h.get a.id with
      | some b =>
        match b.elems with
        | [.agg [q,s]] =>
          if b.ro=false∧a.ver=b.ver∧b.ty=some (T,2)then
            match q with
            | .ptr none=>some (.tuple [],h.set a.id {b with elems:= [.agg [.ptr (some a),s]],minVer:=b.ver})
            | .ptr (some a')=>if a'=a then some (.tuple [],h)else none
            | _=>none
          else none
        | _=>none
      | none=>none
    else none
  | _=>none
theorem check_ok {ρ:Ren} (L:Go.Proofs.Lays.n240 P ρ) (X:Go.Proofs.Builder.X72 P ρ) {C:(Nat→Prop)→World→Prop} (hbd: ∃ fn c,P.funcs[ρ.f 240]? =some fn∧fn.body=some c):PrimOk P C (ρ.f 240) (checkPrim (ρ.t 72)):=by
  intro N0 w0 hN hC args h v h' hg φ w args' hH hB hA
  unfold checkPrim at hg
  split at hg
  · rename_i a
    split at hg
    · rename_i hc
      obtain⟨hi,hf⟩:=hc
      split at hg
      · rename_i b hb
        split at hg
        · rename_i q s hel
          split at hg
          · rename_i hcc
            obtain⟨hro,hver,hty⟩:=hcc
            obtain⟨l⟩:=args'
            simp only [VRels]at hA
            obtain⟨x,t,rfl,hx,rfl⟩:=hA
            have hx0:=hx
            simp only [VRel]at hx
            obtain⟨x,rfl,p,hp,hpe,hlo,rfl⟩:=hx
            obtain⟨g1,b',g2,g3,g4,g5,g6,g7,g8⟩:=hH.dom _ _ _ hp
            rw [hb]at g2;simp at g2;subst g2
            obtain⟨m,lo,hi',k1,k2,k3⟩:=g8.shp _ hty
            have hm:m=2:=k2 (show(2:Nat)≠0 by decide)
            subst hm
            have hlo0:p.lo=0:=by omega
            have haddr:p.at a.idx a.fld=⟨p.blk,0,none⟩:=by simp [Place.at,hi,hf,k3]
            have he0:b.elems[0]? =some (.agg [q,s]):=by rw [hel];rfl
            obtain⟨c1,c2,c3⟩:=g8.cont 0 _ (by omega) (by rw [hver];simp [ABlk.lim,hel]) he0
            obtain⟨u,y1,y2,y3⟩:=c3 0 q rfl
            have haddr2:p.at 0 0=⟨p.blk,0,none⟩:=by simp [Place.at,k3]
            rw [haddr2]at y1
            have hsh:=shape_of_mark k1
            have hlen2:p.es=2:=by rw [← c1];rfl
            split at hg
            · simp only [Option.some.injEq,Prod.mk.injEq]at hg
              obtain⟨rfl,rfl⟩:=hg
              simp only [VRel]at y2;subst y2
              have hfz:w.frozen? ⟨p.blk,0,none⟩=false:=by
                have:=g8.free hro 0 (by rw [hlen2];omega)
                rw [k3]at this;simpa using this
              rw [hver]at hp
              obtain⟨z1,z2⟩:=hH.store hp hb hro (idx:=0) (fld:=0) (e:= .agg [.ptr none,s]) (e':= .agg [.ptr (some a),s]) (cs:= [.ptr (some a)]) (vs:= [.pointer (some ⟨p.blk,0,none⟩)]) (by omega) he0
                (by simp only [VRels];exact⟨_,_,rfl,by rw [← haddr];exact hx0,rfl⟩) (by intro x hx;simp at hx;subst hx;rfl) (by rw [hlen2];simp) rfl
              rw [hel]at z1
              have e1:p.off+(0-p.lo)*p.es+0=0:=by rw [k3];simp
              rw [e1]at z1
              refine⟨hbd,?_⟩
              rw [haddr]
              exact(Go.Proofs.Any.Builder_copyCheck_fresh L X p.blk w y1 hsh hfz).mono fun e w' ⟨he,hw⟩=>by
                subst hw
                exact⟨_,φ,he,Keep.refl _ _,by simp only [VRel];exact⟨_,rfl,by simp only [VRels]⟩,z1,hB.setCell (p:=⟨p.blk,0,none⟩) (g8.base (g6 hro)) _,Nat.le_refl _⟩
            · rename_i a'
              split at hg
              · rename_i haa
                subst haa
                simp only [Option.some.injEq,Prod.mk.injEq]at hg
                obtain⟨rfl,rfl⟩:=hg
                simp only [VRel]at y2
                obtain⟨u',rfl,p',hp',_,_,rfl⟩:=y2
                rw [hp]at hp';simp at hp';subst hp'
                rw [haddr]at y1
                refine⟨hbd,?_⟩
                rw [haddr]
                exact(Go.Proofs.Any.Builder_copyCheck_used L X p.blk w y1).mono fun e w' ⟨he,hw⟩=>by
                  subst hw
                  exact⟨_,φ,he,Keep.refl _ _,by simp only [VRel];exact⟨_,rfl,by simp only [VRels]⟩,hH,hB,Nat.le_refl _⟩
              · cases hg
            · cases hg
          · cases hg
        · cases hg
      · cases hg
    · cases hg
  · cases hg
end
end
end Go.Lift
namespace Go.Lift
noncomputable section
open Go.RowKit
section
variable {P:Program}{E:AEnv}
def AVal.scal:AVal→Bool
  | .bool _=>true
  | .int _ _=>true
  | .str _=>true
  | _=>false
theorem VRel.scal {φ ψ:Map}{v:AVal}{x:Value}(hs:v.scal=true)(h:VRel φ v x):VRel ψ v x:=by
  cases v<;>simp only [AVal.scal,Bool.false_eq_true]at hs<;>simp only [VRel]at h ⊢ <;>exact h
theorem VRels.scal {φ ψ:Map} : ∀ {l:List AVal} {xs:List Value},l.all AVal.scal=true→VRels φ l xs→VRels ψ l xs
  | [],xs,_,h=>by simpa only [VRels]using h
  | a::r,xs,hs,h=>by
    simp only [List.all_cons,Bool.and_eq_true]at hs
    simp only [VRels]at h ⊢
    obtain⟨v,t,e,h1,h2⟩:=h
    exact⟨v,t,e,h1.scal hs.1,h2.scal hs.2⟩
def memoFind:List (List AVal×AVal)→List AVal→Option AVal
  | [],_=>none
  | x::r,args=>if AVal.sames x.1 args then some x.2 else memoFind r args
def memoPrim(t:List (List AVal×AVal)):APrim:=fun args h=>(memoFind t args).map fun v=>(v,h)
theorem memoFind_mem: ∀ {t:List (List AVal×AVal)} {args:List AVal} {v:AVal},memoFind t args=some v→(args,v)∈t
  | [],args,v,h=>by simp [memoFind]at h
  | x ::r,args,v,h=>by
    unfold memoFind at h
    split at h
    · rename_i hs
      simp only [Option.some.injEq]at h;subst h
      have:=AVal.sames_eq hs
      subst this
      exact List.mem_cons_self
    · exact List.mem_cons_of_mem _ (memoFind_mem h)
def Shown(P:Program)(E:AEnv)(f:FuncId)(x:List AVal×AVal):Prop:=x.1.all AVal.scal=true∧x.2.scal=true∧ ∃ n h',acall P E n f x.1 ⟨0,.nil⟩=some (x.2,h')
theorem memo_ok(hE:EnvOk P E)(hmix:P.follows .mixedOrders=true)(hcond: ∀ N0 w0 w,Low N0 w0.heap.size→E.cond N0 w0→Safe N0 w0 w→E.cond (fun k=>k<w.heap.size) w){f:FuncId}{t:List (List AVal×AVal)}(ht: ∀ x∈t,Shown P E f x):PrimOk P E.cond f (memoPrim t):=by
  intro N0 w0 hN hC args h v h' hg φ w args' hH hB hA
  unfold memoPrim at hg
  simp only [Option.map_eq_some_iff,Prod.mk.injEq]at hg
  obtain⟨v1,hf,rfl,rfl⟩:=hg
  obtain⟨s1,s2,n,h1,hrun⟩:=ht _ (memoFind_mem hf)
  simp only at s1 s2 hrun
  have hs:=acall_sound hE (N0:=fun k=>k<w.heap.size) (w0:=w) (fun _ h=>h) (hcond N0 w0 w hN hC hB) hmix n f args ⟨0,.nil⟩ _ _ hrun noMap w args' (HRel.empty _ _ _) (Safe.refl _ _) (hA.scal s1)
  refine⟨hs.1,hs.2.mono fun e w' ⟨v',φ',k1,k2,k4,k5,k6,k7⟩=> ?_⟩
  exact⟨v',φ,k1,Keep.refl _ _,k4.scal s2,hH.alike (Alike.below k6.below),hB.trans (k6.less fun i hi=>Nat.lt_of_lt_of_le (hN i hi) hB.size),Nat.le_refl _⟩
end
end
end Go.Lift
namespace Go.Lift
noncomputable section
open Go.RowKit
section
variable {P:Program}{E:AEnv}
def AVal.plainV:AVal→Bool
  | .tuple l=>l.all AVal.scal
  | v=>v.scal
theorem VRel.plainV {φ ψ:Map}{v:AVal}{x:Value}(hs:v.plainV=true)(h:VRel φ v x):VRel ψ v x:=by
  cases v with
  | tuple l =>
    simp only [AVal.plainV]at hs
    simp only [VRel]at h ⊢
    obtain⟨xs,e,k⟩:=h
    exact⟨xs,e,k.scal hs⟩
  | _=>exact VRel.scal (by simpa [AVal.plainV]using hs) h
structure RoAt(W:World)(g off C:Nat)(rs:List Int):Prop where
  blk:g<W.heap.size
  len:rs.length≤C
  cells: ∀ o,o<C→(W.cell? ⟨g,off+o,none⟩).isSome=true
  cont: ∀ i r,rs[i]? =some r→W.cell? ⟨g,off+i,none⟩=some (.int .i32 r)
theorem RoAt.below {W W':World}{g off C n:Nat}{rs:List Int}(h:RoAt W g off C rs)(k:Below n W W')(hg:g<n):RoAt W' g off C rs where
  blk:=Nat.lt_of_lt_of_le h.blk k.size
  len:=h.len
  cells o ho:=by rw [k.cell (p:=⟨g,off+o,none⟩) hg];exact h.cells o ho
  cont i r hr:=by rw [k.cell (p:=⟨g,off+i,none⟩) hg];exact h.cont i r hr
def i32s(rs:List Int):List AVal:=rs.map fun r=>AVal.int .i32 r
def roHeap(rs:List Int):AHeap:=(⟨1,.nil⟩:AHeap).set 0 {elems:=i32s rs,es:=1,exact:=false,ro:=true,ver:=0,minVer:=0,forkLen:=0,ty:=none}
def roMap(g off C:Nat):Map:=fun i v=>if i=0∧v=0 then some ⟨g,off,0,1,C,false,true⟩else none
theorem RoAt.rel {W:World} {g off C:Nat} {rs:List Int} (h:RoAt W g off C rs) (N0:Nat→Prop):HRel (roMap g off C) N0 (roHeap rs) W where
  dom i v p hp:=by
    simp only [roMap]at hp
    split at hp
    · rename_i e;obtain⟨rfl,rfl⟩:=e
      simp at hp;subst hp
      refine⟨by simp [roHeap],_,AHeap.get_set_self _ _ _,Nat.le_refl _,rfl,rfl,fun h=>by simp at h,by simp,?_⟩
      constructor
      · exact h.blk
      · intro h;simp at h
      · intro o ho;simp only at ho ⊢; exact h.cells o (by omega)
      · intro h;simp at h
      · intro h;simp at h
      · intro q hq;simp at hq
      · intro i e _ hi he
        simp only [i32s,List.getElem?_map,Option.map_eq_some_iff]at he
        obtain⟨r,hr,rfl⟩:=he
        have hl:=(List.getElem?_eq_some_iff.1 hr).1
        refine⟨rfl,by simp only;have:=h.len;omega,fun j x' hx=> ?_⟩
        cases j with
        | zero =>
          simp [AVal.cells]at hx;subst hx
          refine⟨.int .i32 r,?_,by simp [VRel],rfl⟩
          simp only [Place.at,Nat.sub_zero,Nat.mul_one,Nat.add_zero]
          exact h.cont i r hr
        | succ j=>simp [AVal.cells]at hx
    · cases hp
  apart i v p j u q hp hq hb hij:=by
    simp only [roMap]at hp hq
    split at hp<;>split at hq
    · rename_i e1 e2;exact absurd (e1.1.trans e2.1.symm) hij
    all_goals simp_all
  same i v p u q hp hq hb:=by
    simp only [roMap]at hp hq
    split at hp<;>split at hq
    · simp at hp hq;subst hp hq;exact⟨rfl,rfl⟩
    all_goals simp_all
theorem RoAt.slice {g off C p n c c':Nat}(h1:n≤c)(h2:c≤c')(h3:p+c'≤C):VRel (roMap g off C) (.slice (some ⟨0,0,p,0,1⟩) n c) (.slice (some ⟨g,off+p,none⟩) n c'):=by
  simp only [VRel]
  refine⟨_,_,rfl,h1,h2,.inl ⟨rfl,_,rfl,rfl,.inr ⟨Nat.zero_le _,?_,by simpa using h3⟩,fun h=>by simp at h⟩⟩
  simp [Place.at]
theorem RoAt.of_rel {φ:Map} {N0:Nat→Prop} {h:AHeap} {W:World} (r:HRel φ N0 h W) {a:AAddr} {n c:Nat} {x:Value} {b:ABlk} {rs:List Int} (hx:VRel φ (.slice (some a) n c) x) (hf:a.fld=0) (hes:a.es=1) (hn:0<n) (hb:h.get a.id=some b) (hl:a.idx+n≤b.lim a.ver) (he:(b.elems.drop a.idx).take n=i32s rs) (hle:a.idx+n≤b.elems.length) :
    ∃ g off C,x= .slice (some ⟨g,off,none⟩) rs.length C∧n=rs.length∧RoAt W g off C rs∧(∃ p,φ a.id a.ver=some p∧p.blk=g∧(p.ro=false→ ¬ N0 g)):=by
  simp only [VRel]at hx
  obtain⟨xa,cap',rfl,l1,l2,hso⟩:=hx
  obtain⟨p,hp,hes',hor,hex⟩:=hso.plain hf
  have hnl:n=rs.length:=by
    have:=congrArg List.length he
    simp [i32s]at this;omega
  rcases hor with hz | ⟨hlo,rfl,htot⟩
  · omega
  · obtain⟨g1,b',g2,g3,g4,g5,g6,g7,g8⟩:=r.dom _ _ _ hp
    rw [hb]at g2;simp at g2;subst g2
    have hpe:p.es=1:=by omega
    subst hnl
    refine⟨p.blk,p.off+(a.idx-p.lo),cap',by simp [Place.at,hpe],rfl,⟨g8.blk,by omega,fun o ho=> ?_,fun i q hq=> ?_⟩,p,hp,rfl,g8.base⟩
    · have:=g8.cells (a.idx-p.lo+o) (by rw [hpe];omega)
      rwa [← Nat.add_assoc]at this
    · have hi:=(List.getElem?_eq_some_iff.1 hq).1
      have e1:b.elems[a.idx+i]? =some (.int .i32 q):=by
        have:=congrArg (fun l=>l[i]?) he
        simp only [List.getElem?_take,List.getElem?_drop,i32s,List.getElem?_map,hq,Option.map_some]at this
        rwa [if_pos hi]at this
      obtain⟨k1,k2,k3⟩:=g8.cont (a.idx+i) _ (by omega) (by omega) e1
      obtain⟨y,y1,y2,y3⟩:=k3 0 _ rfl
      simp only [VRel]at y2;subst y2
      rw [← y1]
      simp only [Place.at,hpe,Nat.mul_one,Nat.add_zero]
      congr 2;omega
theorem HRel.adopt {φ:Map} {N0:Nat→Prop} {h:AHeap} {w:World} (r:HRel φ N0 h w) {nid g:Nat} (hid: ∀ v,φ nid v=none) (hn:nid<h.next) (hN: ¬ N0 g) (hg: ∀ i v p,φ i v=some p→p.blk≠g)
    {l:List AVal} {es:Nat} (hes:0<es) (hl: ∀ e∈l,e.cells.length=es) {c:Array Value} {t:TypeId} {tot:Nat} {ex:Bool} (hb:w.heap[g]? =some (.cells c t (0,0)))
    (hc:VRels φ (flat l) (c.toList.take (l.length*es))) (hsz:tot*es≤c.size) (htot:l.length≤tot) (hone: ∀ x∈c.toList.take (l.length*es),x.oneCell'=true) {ty:Option (TypeId×Nat)} (hty: ∀ q,ty=some q→q.1=t∧(q.2≠0→c.size=q.2)) :
    HRel (φ.add nid 0 ⟨g,0,0,es,tot,ex,false⟩) N0 (h.set nid (.made l es ex ty)) w:=by
  have hle:=φ.le_add (id:=nid) (v:=0) ⟨g,0,0,es,tot,ex,false⟩ (hid 0)
  have hcell: ∀ o,w.cell? ⟨g,o,none⟩=c[o]? :=fun o=>by simp [World.cell?,hb]
  have hfr: ∀ o,w.frozen? ⟨g,o,none⟩=false:=fun o=>by simp [World.frozen?,hb]
  constructor
  · intro i v p hp
    simp only [Map.add]at hp
    split at hp
    · rename_i e;obtain⟨rfl,rfl⟩:=e
      simp at hp;subst hp
      refine⟨hn,.made l es ex ty,AHeap.get_set_self _ _ _,Nat.le_refl _,rfl,rfl,fun _=>rfl,hes,?_⟩
      constructor
      · exact(Array.getElem?_eq_some_iff.1 hb).1
      · intro _;exact hN
      · intro o ho
        simp only at ho ⊢
        rw [hcell,Nat.zero_add,Array.getElem?_eq_getElem (by omega)];rfl
      · intro _ o ho;exact hfr _
      · intro _;exact⟨t,c.size,0,0,by simp [markOf,hb],.inl rfl⟩
      · intro t' ht;exact⟨c.size,0,0,by rw [(hty t' ht).1];simp [markOf,hb],(hty t' ht).2,rfl⟩
      · intro i e _ hi he
        rw [ABlk.lim_made]at hi
        simp at hi
        have he':l[i]? =some e:=he
        have hm:e∈l:=List.mem_of_getElem? he'
        refine⟨hl e hm,by simp only;omega,fun j x' hx=> ?_⟩
        have hf:=flat_get hl he' hx
        obtain⟨x,hx1,hx2⟩:=hc.get hf
        refine⟨x,?_,hx2.mono hle,hone x (List.mem_of_getElem? hx1)⟩
        simp only [Place.at,Nat.sub_zero,Nat.zero_add]
        rw [hcell]
        rw [List.getElem?_take]at hx1
        split at hx1
        · simpa using hx1
        · simp at hx1
    · obtain⟨h1,b,h2,h3,h4,h5,h6,h7,h8⟩:=r.dom i v p hp
      have hne:nid≠i:=by intro e;subst e;rw [hid v]at hp;cases hp
      exact⟨h1,b,by rw [AHeap.get_set_ne _ _ hne];exact h2,h3,h4,h5,h6,h7,h8.mono hle⟩
  · intro i v p j u q hp hq hb hij
    simp only [Map.add]at hp hq
    split at hp<;>split at hq
    · rename_i e1 e2;exact absurd (e1.1.trans e2.1.symm) hij
    · simp at hp;subst hp
      exact absurd hb.symm (hg _ _ _ hq)
    · simp at hq;subst hq
      exact absurd hb (hg _ _ _ hp)
    · exact r.apart i v p j u q hp hq hb hij
  · intro i v p u q hp hq hb
    simp only [Map.add]at hp hq
    split at hp<;>split at hq
    · simp at hp hq;subst hp hq;exact⟨rfl,rfl⟩
    · simp at hp;subst hp
      exact absurd hb.symm (hg _ _ _ hq)
    · simp at hq;subst hq
      exact absurd hb (hg _ _ _ hp)
    · exact r.same i v p u q hp hq hb
theorem RoAt.calls(hE:EnvOk P E)(hmix:P.follows .mixedOrders=true){W:World}{g off C:Nat}{rs:List Int}(h:RoAt W g off C rs)(hC:E.cond (fun k=>k<W.heap.size) W){n:Nat}{f:FuncId}{args:List AVal}{v:AVal}{h':AHeap}(hs:v.plainV=true)(hrun:acall P E n f args (roHeap rs)=some (v,h')){args':Array Value}(hA:VRels (roMap g off C) args args'.toList) :
    Calls P f args' W fun e W'=> ∃ v',e= .returned v'∧VRel noMap v v'∧Below W.heap.size W W' :=
  (acall_sound hE (N0:=fun k=>k<W.heap.size) (w0:=W) (fun _ h=>h) hC hmix n f args (roHeap rs) _ _ hrun (roMap g off C) W args' (h.rel _) (Safe.refl _ _) hA).2.mono
    fun e w' ⟨v',φ',k1,k2,k4,k5,k6,k7⟩=>⟨v',k1,k4.plainV hs,k6.below⟩
end
end
end Go.Lift
namespace Go.Proofs.YtjpfnbihopoeeaaGreatDoor
open Go.RowKit Go.Shelf Go.Lift
attribute [local go_sem] Oper.semAt_some
structure CStep where
  n:Nat
  t:List UInt8
  w:Int
abbrev CEl:=Int×List UInt8×Int
def encC(x:CEl):Array Value:= #[.int .i64 x.1,.agg #[.string ⟨x.2.1.toArray⟩,.int .i64 x.2.2]]
def placesC:Int→List CStep→List CEl
  | _,[]=> []
  | a,s::r=>(a,s.t,s.w)::placesC (wrap64 (a+(s.t.length:Nat))) r
def StepAt (Q:World→Prop) (rs:List Int) (p:Nat) (s:CStep):Prop :=
  0 <s.n∧p+s.n≤rs.length∧s.t.length<2^62∧ ∀ (W:World) (g off C:Nat),RoAt W g off C rs→Q W →
    (Calls Tryz.prog 125 #[.slice (some ⟨g,off+p,none⟩) (rs.length-p) (C-p)] W fun e W'=>e= .returned (.tuple #[.int .i64 s.n,.int .i64 s.w])∧Below W.heap.size W W') ∧
    (Calls Tryz.prog 126 #[.slice (some ⟨g,off+p,none⟩) s.n (C-p)] W fun e W'=>e= .returned (.string ⟨s.t.toArray⟩)∧Below W.heap.size W W')
def ChainC(Q:World→Prop)(rs:List Int):Nat→List CStep→Prop
  | p,[]=>p=rs.length
  | p,s::r=>StepAt Q rs p s∧ChainC Q rs (p+s.n) r
theorem roSafe {S:Nat→Prop}{W W':World}{g off C:Nat}{rs:List Int}(h:RoAt W g off C rs)(k:Go.Lift.Safe S W W')(hg:S g):RoAt W' g off C rs where
  blk:=Nat.lt_of_lt_of_le h.blk k.size
  len:=h.len
  cells o ho:=by rw [World.cell?_of_block (a:=⟨g,off+o,none⟩) (k.block g hg)];exact h.cells o ho
  cont i r hr:=by rw [World.cell?_of_block (a:=⟨g,off+i,none⟩) (k.block g hg)];exact h.cont i r hr
theorem safe_of_below {S:Nat→Prop}{m:Nat}{W W':World}(k:Below m W W')(hS: ∀ i,S i→i<m):Go.Lift.Safe S W W':=⟨k.os,k.tape,k.output,k.size,fun i hi=>k.block i (hS i hi)⟩
set_option maxRecDepth 100000 in
set_option maxHeartbeats 1000000 in
theorem all1_in (n:Nat) (hn:1≤n) (l Bn g off C:Nat) (S:Nat→Prop) (Q:World→Prop) (rs:List Int) (ss:List CStep) (J Jx:List CEl→World→Prop)
    (hJ: ∀ s W W',J s W→Below W.heap.size W W'→J s W')
    (hQ: ∀ W W',Q W→Go.Lift.Safe S W W'→Q W')
    (hY: ∀ pre x W,J pre W→pre.length<ss.length→YieldAt Fence.wide (n-1) Tryz.prog l (encC x) W fun e W' =>
      (e= .returned (.bool true)∧J (pre++ [x]) W'∧Go.Lift.Safe S W W')∨(e= .returned (.bool false)∧Jx (pre++ [x]) W'))
    (W:World) (hS: ∀ i,S i→i<W.heap.size) (v:Value) (hBn:W.cell? ⟨Bn,0,none⟩=some v) (hv:(∃ x c,v= .slice x rs.length c)∧(0<rs.length→v= .slice (some ⟨g,off,none⟩) rs.length C)) (hR:0<rs.length→RoAt W g off C rs∧S g) (hq:Q W) (hch:ChainC Q rs 0 ss) (h0:J [] W) :
    CallsIn Fence.wide n Tryz.prog 124 #[.func (.yield l) #[] #[],.pointer (some ⟨Bn,0,none⟩)] W fun e W'=>(∃ v,e= .returned v) ∧
      ((∃ ys,ys=placesC 0 ss∧J ys W')∨(∃ pre,pre <+: placesC 0 ss∧Jx pre W')):=by
  obtain⟨⟨x0,c0,hv0⟩,hv1⟩:=hv
  refine callsIn_of_wp Tryz.func124 rfl trivial ?_ rfl
  simp only [Tryz.ntmps124,List.size_toArray,List.length_cons,List.length_nil,Nat.reduceAdd,Nat.reduceSub,Array.replicate_succ,Array.replicate_zero,List.push_toArray,List.append_toArray,List.nil_append,List.cons_append]
  gi_wp2
  subst hv0
  gi_loopw [3,4] (fun pl lv wr=> ∃ (pre:List CEl) (rest:List CStep) (a:Int) (q:Nat),pl= .int .i64 a∧placesC 0 ss=pre++placesC a rest∧pre.length+rest.length=ss.length∧ChainC Q rs q rest∧q≤rs.length∧(∃ x c,lv= .slice x (rs.length-q) c)∧(q<rs.length→lv= .slice (some ⟨g,off+q,none⟩) (rs.length-q) (C-q))∧J pre wr∧Go.Lift.Safe S W wr)
    (fun _ lv _=>match lv with | .slice _ k _=>k | _=>0)
  case atStart =>
    exact⟨[],ss,0,0,rfl,rfl,by simp,hch,Nat.zero_le _,⟨x0,c0,rfl⟩,fun h=>by simpa using hv1 h,h0,Go.Lift.Safe.refl _ _⟩
  case round =>
    obtain⟨pre,rest,a,q,rfl,hpl,hlen,hc,hqle,⟨x,c,rfl⟩,hlv,hJs,hs⟩:=hrel
    have hSw: ∀ i,S i→i<wr.heap.size:=fun i hi=>Nat.lt_of_lt_of_le (hS i hi) hs.size
    have hqw:=hQ _ _ hq hs
    cases rest with
    | nil =>
      obtain rfl:q=rs.length:=hc
      have hz: ¬ (0:Int)<((rs.length-rs.length:Nat):Int):=by omega
      gi_wp2
      go_end0
      exact⟨⟨_,rfl⟩,.inl (by simpa [placesC]using hJs)⟩
    | cons s rest =>
      obtain⟨⟨h0s,hle,hst,hcalls⟩,hc'⟩:=hc
      have hlt:q<rs.length:=by omega
      obtain⟨hR,hg⟩:=hR (by omega)
      have hRw:=roSafe hR hs hg
      have e:=hlv hlt
      simp only [Value.slice.injEq,true_and]at e
      obtain⟨rfl,rfl⟩:=e
      have hz:(0:Int)<((rs.length-q:Nat):Int):=by omega
      obtain⟨hcl,_⟩:=hcalls wr g off C hRw hqw
      have f1:Fence.wide.fn 125:=trivial
      have f2:Fence.wide.fn 126:=trivial
      have hcap:s.n≤C-q:=by have:=hR.len;omega
      have hlow:s.n≤rs.length-q:=by omega
      gi_wp2_with (gi_at_call 125;refine(callsIn_wide.2 hcl).mono ?_;rintro e w1 ⟨rfl,hb1⟩)
      have hs1:Go.Lift.Safe S wr w1:=safe_of_below hb1 hSw
      have hR1:=roSafe hRw hs1 hg
      obtain⟨_,hct⟩:=hcalls w1 g off C hR1 (hQ _ _ hqw hs1)
      gi_wp2_with (gi_at_call 126;refine(callsIn_wide.2 hct).mono ?_;rintro e w2 ⟨rfl,hb2⟩)
      have hs2:Go.Lift.Safe S w1 w2:=safe_of_below hb2 fun i hi=>Nat.lt_of_lt_of_le (hSw i hi) hb1.size
      have hJ2:=hJ _ _ _ (hJ _ _ _ hJs hb1) hb2
      obtain⟨fn,tmps,assign,body,hy,hR3⟩:=hY pre (a,s.t,s.w) w2 hJ2 (by simp at hlen;omega)
      simp only [encC]at hy
      gi_wp2
      simp only [go_sem,hy]
      refine⟨fun _=>hn,hR3.mono ?_⟩
      rintro e w3 (⟨rfl,hJ3,hs3⟩ | ⟨rfl,hJx3⟩)
      · gi_wp2
        go_roundw
        case rel =>
          refine⟨pre++ [(a,s.t,s.w)],rest,_,q+s.n,rfl,by rw [hpl];simp [placesC],by simp at hlen ⊢; omega,hc',hle,?_,?_,hJ3,((hs.trans hs1).trans hs2).trans hs3⟩
          · exact⟨_,_,by rw [Nat.sub_sub]⟩
          · intro h
            have hR0:=hR.len
            rw [if_neg (by omega)]
            simp only [Value.slice.injEq,Option.some.injEq,Addr.mk.injEq,true_and,and_true]
            omega
        case measure =>
          show rs.length-q-s.n<rs.length-q
          omega
      · gi_wp2
        refine bodyPost_ret (results_none rfl _ _ _) rfl ?_
        exact⟨⟨_,rfl⟩,.inr ⟨pre++ [(a,s.t,s.w)],by rw [hpl];simp [placesC],hJx3⟩⟩
theorem all_stops(n:Nat)(hn:1≤n)(Bn g off C:Nat)(S:Nat→Prop)(Q:World→Prop)(rs:List Int)(ss:List CStep)(w:World)
    (hQ: ∀ W W',Q W→Go.Lift.Safe S W W'→Q W') (hS: ∀ i,S i→i<w.heap.size) (hBl:Bn<w.heap.size)
    (v:Value) (hBn:w.cell? ⟨Bn,0,none⟩=some v) (hv:(∃ x c,v= .slice x rs.length c)∧(0<rs.length→v= .slice (some ⟨g,off,none⟩) rs.length C)) (hR:0<rs.length→RoAt w g off C rs∧S g) (hq:Q w) (hch:ChainC Q rs 0 ss) :
    SeqStopsK Fence.wide n Tryz.prog 124 #[.pointer (some ⟨Bn,0,none⟩)] encC (Go.Lift.Safe S) (fun ys=>ys=placesC 0 ss) (fun pre=>pre <+: placesC 0 ss) ss.length w:=by
  intro l J Jx W hW hA _ hY h0
  have hsw:Go.Lift.Safe S w W:=safe_of_below hW hS
  refine all1_in n hn l Bn g off C S Q rs ss J Jx (fun s A B hJ hb=> ?_) hQ hY W (fun i hi=>Nat.lt_of_lt_of_le (hS i hi) hW.size) v ((hW.cell (p:=⟨Bn,0,none⟩) hBl).trans hBn) hv (fun h=>⟨roSafe (hR h).1 hsw (hR h).2,(hR h).2⟩) (hQ _ _ hq hsw) hch h0
  exact hA s A B none hJ ⟨hb.os,hb.tape,hb.output,hb.size,fun k hk _=>hb.block k hk⟩ fun r e=>by cases e
end Go.Proofs.YtjpfnbihopoeeaaGreatDoor
namespace Go.Proofs.YtjpfnbihopoeeaaGreatDoor
open Go.RowKit Go.Shelf Go.Lift
attribute [local go_sem] Oper.semAt_some
theorem info92:(Tryz.prog.info? 92).map (fun i=>(i.zero,i.size,i.bytes))=some (some (.agg #[.string .empty,.int .i64 0]),2,24):=by kernel_rfl
def clsV(xs:List CEl):List Value:=xs.flatMap fun x=> [Value.string ⟨x.2.1.toArray⟩,Value.int .i64 x.2.2]
theorem clsV_snoc(xs:List CEl)(x:CEl):clsV (xs++ [x])=clsV xs++ [Value.string ⟨x.2.1.toArray⟩,Value.int .i64 x.2.2]:=by simp [clsV]
theorem placesC_len: ∀ (a:Int) (ss:List CStep),(placesC a ss).length=ss.length
  | _,[]=>rfl
  | a,s::r=>by simp only [placesC,List.length_cons,placesC_len _ r]
structure TextAt(Q:World→Prop)(s:ByteArray)(rs:List Int)(ss:List CStep):Prop where
  few:ss.length≤2^30
  runes: ∀ W,Q W→Calls Tryz.prog 123 #[.string s] W fun e W'=>Below W.heap.size W W' ∧
    ∃ v g off C,e= .returned v∧((∃ x c,v= .slice x rs.length c)∧(0<rs.length→v= .slice (some ⟨g,off,none⟩) rs.length C))∧(0<rs.length→RoAt W' g off C rs∧W.heap.size≤g)
  chain:ChainC Q rs 0 ss
set_option maxRecDepth 100000 in
set_option maxHeartbeats 2000000 in
theorem allC(Q:World→Prop)(hQ: ∀ W W',Q W→Below W.heap.size W W'→Q W')(s:ByteArray)(rs:List Int)(ss:List CStep)(ht:TextAt Q s rs ss)(w:World)(hq:Q w) :
    Calls Tryz.prog 74 #[.string s] w fun e W'=>Below w.heap.size w W'∧ ∃ Bn v g off C,e= .returned (.func (.func 124) #[] #[.pointer (some ⟨Bn,0,none⟩)])∧Bn<W'.heap.size∧W'.cell? ⟨Bn,0,none⟩=some v ∧
      ((∃ x c,v= .slice x rs.length c)∧(0<rs.length→v= .slice (some ⟨g,off,none⟩) rs.length C))∧(0<rs.length→RoAt W' g off C rs∧w.heap.size≤g):=by
  refine(callsIn_wide (n:=5)).1 ?_
  refine callsIn_of_wp Tryz.func74 rfl trivial ?_ rfl
  have f1:Fence.wide.fn 123:=trivial
  simp only [Tryz.ntmps74,List.size_toArray,List.length_cons,List.length_nil,Nat.reduceAdd,Nat.reduceSub,Array.replicate_succ,Array.replicate_zero,List.push_toArray,List.append_toArray,List.nil_append,List.cons_append]
  gi_wp2_with (gi_at_call 123;refine(callsIn_wide.2 (ht.runes w hq)).mono ?_;rintro e w1 ⟨hb,v,g,off,C,rfl,⟨⟨x0,c0,rfl⟩,hv⟩,hR⟩)
  go_ret
  have hb2:Below w1.heap.size w1 (w1.alloc (.cells #[.slice x0 rs.length c0] 139)):=(Below.refl _ _).alloc (Nat.le_refl _) _
  refine⟨hb.trans (hb2.mono hb.size),w1.heap.size,_,g,off,C,rfl,by simp,(Boxed.new w1 _ _).cell,⟨⟨x0,c0,rfl⟩,hv⟩,fun h=>⟨(hR h).1.below hb2 (hR h).1.blk,(hR h).2⟩⟩
structure QOk(N:Nat→Prop)(Q:World→Prop):Prop where
  low: ∀ W,Q W→ ∀ i,N i→i<W.heap.size
  keep: ∀ S W W',(∀ i,N i→S i)→Q W→Go.Lift.Safe S W W'→Q W'
theorem QOk.below {N:Nat→Prop}{Q:World→Prop}(h:QOk N Q){W W':World}(q:Q W)(k:Below W.heap.size W W'):Q W' :=
  h.keep (fun i=>i<W.heap.size) W W' (h.low W q) q ⟨k.os,k.tape,k.output,k.size,k.block⟩
theorem safe_putObj {S:Nat→Prop}{m:Nat}(hS: ∀ i,S i→i<m)(W:World)(l:Nat)(o o':Obj)(hl:m≤l)(h:W.heap[l]? =some o)(_:o.isCells=false)(_:o.isWalk=false):Go.Lift.Safe S W (W.putObj l o') :=
  ⟨rfl,rfl,rfl,by simp,fun k hk=>World.putObj_heap_other (by have:=hS k hk;omega)⟩
theorem cell_two_new(W:World)(a b:Value)(t:TypeId)(j:Nat)(u:Value)(h: [a,b][j]? =some u):(W.alloc (.cells #[a,b] t)).cell? ((⟨W.heap.size,0,none⟩:Addr).add j)=some u:=by
  have e:(⟨W.heap.size,0,none⟩:Addr).add j=⟨W.heap.size,j,none⟩:=by simp [Addr.add];intro h;exact h.symm
  rw [e,cell?_alloc_last]
  simpa using h
theorem ownsRow_le {W:World}{b b':Nat}{e:TypeId}{size:Nat}{v:Value}{k:Nat}{xs:List Value}(h:W.ownsRow b e size v k xs)(hb:b'≤b):W.ownsRow b' e size v k xs:=by
  refine⟨h.1,?_⟩
  rcases h.2 with h1 | ⟨g,cap,cur,h1,h2,h3⟩
  · exact .inl h1
  · exact .inr ⟨g,cap,cur,h1,Nat.le_trans hb h2,h3⟩
set_option maxRecDepth 100000 in
set_option maxHeartbeats 2000000 in
theorem splitC (N:Nat→Prop) (Q:World→Prop) (hQ:QOk N Q) (s:ByteArray) (rs:List Int) (ss:List CStep) (ht:TextAt Q s rs ss) (w:World) (hq:Q w) :
    Calls Tryz.prog 141 #[.string s] w fun e W'=>Below w.heap.size w W'∧ ∃ v,e= .returned v∧W'.ownsRow w.heap.size 92 2 v ss.length (clsV (placesC 0 ss))∧(ss= []→v= .slice none 0 0):=by
  obtain⟨i0,hi,hz0,hz1,hz2⟩:=info_parts info92
  refine(callsIn_wide (n:=5)).1 ?_
  refine callsIn_of_wp_marks Tryz.func141 rfl trivial ?_ rfl
  have f1:Fence.wide.fn 74:=trivial
  simp only [Tryz.ntmps141,List.size_toArray,List.length_cons,List.length_nil,Nat.reduceAdd,Nat.reduceSub,Array.replicate_succ,Array.replicate_zero,List.push_toArray,List.append_toArray,List.nil_append,List.cons_append]
  have hb0:Below w.heap.size w (w.alloc (.cells #[.slice none 0 0] 115)):=(Below.refl _ _).alloc (Nat.le_refl _) _
  have hq0:=hQ.below hq hb0
  gi_wp2_with (gi_at_call 74;refine(callsIn_wide.2 (allC Q (fun _ _ q k=>hQ.below q k) s rs ss ht _ hq0)).mono ?_;rintro e w1 ⟨hb,Bn,v,g,off,C,rfl,hBl,hBn,hv,hR⟩)
  have hsz:w.heap.size+1≤w1.heap.size:=by have:=hb.size;rwa [World.size_alloc]at this
  have hB1:Below w.heap.size w w1:=hb0.trans (hb.mono (by rw [World.size_alloc];omega))
  have bO:Boxed w1 w.heap.size 115 (.slice none 0 0):=(hb.block _ (by rw [World.size_alloc];omega)).trans (Boxed.new w _ _)
  have hq1:=hQ.below hq0 hb
  obtain⟨S,hSd⟩: ∃ S:Nat→Prop,S=fun k=>k<w1.heap.size∧k≠w.heap.size:=⟨_,rfl⟩
  have hSl: ∀ i,S i→i<w1.heap.size:=fun i h=>by rw [hSd]at h;exact h.1
  have hNS: ∀ i,N i→S i:=fun i h=>by rw [hSd];have:=hQ.low w hq i h;exact⟨by omega,by omega⟩
  refine wpIn_rangeFunc_ownH rfl (by omega) (gf:=124) (lb:= #[.pointer (some ⟨Bn,0,none⟩)]) rfl trivial (enters_of Tryz.func124 (by kernel_rfl) rfl)
    (all_stops (5-1) (by omega) Bn g off C S Q rs ss w1 (fun W W' q k=>hQ.keep S W W' hNS q k) hSl hBl v hBn hv (fun h=>⟨(hR h).1,by rw [hSd];exact⟨(hR h).1.blk,by have:=(hR h).2;rw [World.size_alloc]at this;omega⟩⟩) hq1 ht.chain)
    (fun h k=>h.trans k) (safe_putObj hSl) (Below.refl _ _) (fun _=>rfl)
    (fun pre W=>(∃ v,Boxed W w.heap.size 115 v∧W.ownsRow w1.heap.size 92 2 v pre.length (clsV pre)∧(pre= []→v= .slice none 0 0))∧(Below w.heap.size w W∧w1.heap.size≤W.heap.size))
    (fun _ _ _=>False)
    (OwnFrom.and (Own.from (holdsRow_own w1.heap.size w.heap.size 115 92 2 (fun pre=>pre.length) (fun pre=>clsV pre) (fun pre v=>pre= []→v= .slice none 0 0)) _) (fun s A B row hs hg hr=>⟨(ownFrom_below (Nat.le_refl _) (by omega)) s A B row hs.1 hg hr,Nat.le_trans hs.2 hg.size⟩))
    (fun _ _ _ _ _ hs _ _=>hs)
    ⟨⟨_,bO,World.ownsRow_nil _ _ _ _,fun _=>rfl⟩,hB1,Nat.le_refl _⟩
    (fun x a' W=> ∃ B,w1.heap.size≤B∧W.heap[B]? =some (.cells #[.string ⟨x.2.1.toArray⟩,.int .i64 x.2.2] 92 (0,0)) ∧
      a'= {tmps:= #[.string s,undef,.slice none 0 0,.pointer (some ⟨w.heap.size,0,none⟩),undef,.pointer (some ⟨B,0,none⟩),.string s,.func (.func 124) #[] #[.pointer (some ⟨Bn,0,none⟩)],.int .i64 x.1,.agg #[.string ⟨x.2.1.toArray⟩,.int .i64 x.2.2],undef,undef,undef,undef,undef],defers:= []})
    (fun x a' s A B row hs hg hr=>by
      obtain⟨b,h1,h2,h3⟩:=hs
      exact⟨b,h1,(grownBy_keeps_cells hg (fun r e=>(hr r e).2) h2 rfl).trans h2,h3⟩)
    ?assign ?body ?done ?stop
  case assign =>
    rintro l pre x W K ⟨⟨v,hv,hrow,hnil⟩,hB,hm⟩ hK
    simp only [encC]
    gi_wp2
    have hg:=World.grownBy_alloc W (.cells #[.string ⟨x.2.1.toArray⟩,.int .i64 x.2.2] 92) none
    exact hK _ _ ((KeepsOthers.alloc W _).from _) ((Go.Lift.Safe.refl S W).alloc (fun i hi=>Nat.lt_of_lt_of_le (hSl i hi) hm) _)
      ⟨⟨v,hv.alloc _,hrow.alloc _,hnil⟩,(hB.alloc (Nat.le_trans hB.size (Nat.le_refl _)) _),by rw [World.size_alloc];omega⟩
      ⟨_,hm,World.alloc_heap_new W _,rfl⟩
  case body =>
    rintro l pre x a' W hl hrec ⟨⟨v,hv,hrow,_⟩,hB,hm⟩ ⟨b,hb1,hb2,rfl⟩ hlt
    have hc:=hv.cell
    have hx0:W.cell? ⟨b,0,none⟩=some (.string ⟨x.2.1.toArray⟩):=by simp [World.cell?,hb2]
    have hx1:W.cell? ⟨b,1,none⟩=some (.int .i64 x.2.2):=by simp [World.cell?,hb2]
    have hfew:=ht.few
    gi_wp2_with (gi_at_builtin;refine wpListIn_append_own _ rfl _ _ 115 rfl w1.heap.size 92 i0 (.agg #[.string .empty,.int .i64 0]) 2 24 Tryz.underlying115 hi hz0 hz1 hz2 rfl (by decide) _ _ _ rfl (hrow.alloc _) ⟨W.heap.size,0,none⟩ 1 1 [.string ⟨x.2.1.toArray⟩,.int .i64 x.2.2] rfl rfl ?_ (by simp [Value.oneCell']) (by simp [maxLen];omega) (by omega) (by simp;omega) ?_;rotate_left;intro v' w2 hown' hgrow _;obtain⟨g',cap',rfl⟩:=ownsRow_succ hown';obtain⟨hv1,hv2,hr2,hk2,hb3⟩:=hv.appended (n₀:=w.heap.size) (by decide) (ownsRow_le hrow (by omega)) hB.size (Nat.le_refl _) (ownsRow_le hown' (by omega)) hgrow;have hc1:=hv1.cell;have hf1:=hv1.frozen)
    · have hgw:(W.alloc (.cells #[.string ⟨x.2.1.toArray⟩,.int .i64 x.2.2] 92)).grownBy w2 v.ownBlock:=hgrow
      refine⟨hk2.from _,?_,⟨⟨_,hv2,?_,fun h=>by simp at h⟩,hB.trans hb3,?_⟩⟩
      · refine⟨?_,?_,?_,?_,?_⟩
        · exact hgrow.os
        · exact hgrow.tape
        · exact hgrow.output
        · exact Nat.le_trans (by rw [World.size_alloc];omega) (Nat.le_trans hgrow.size (KeepsWalks.setCell w2 _ _).size)
        · intro k hk
          rw [hSd]at hk
          rw [Below.heap_setCell _ _ _ k hk.2,hgw.block k (by rw [World.size_alloc];omega) (fun e=> ?_),Below.heap_alloc _ _ _ (by omega)]
          rcases hrow.2 with ⟨rfl,_⟩ | ⟨g2,cap,cur,rfl,q1,_⟩
          · simp [Value.ownBlock]at e
          · simp [Value.ownBlock]at e;omega
      · rw [clsV_snoc,List.length_append]
        exact hown'.kept (grownBy_setCell' w2 w.heap.size _) (.inr (hv1.not_row (by decide) hown').symm)
      · have:=hgrow.size;have:=(KeepsWalks.setCell w2 ⟨w.heap.size,0,none⟩ (.slice (some ⟨g',0,none⟩) (pre.length+1) cap')).size;rw [World.size_alloc]at *; omega
    · exact cell_two_new W _ _ _
  case done =>
    rintro D ys W hD rfl ⟨⟨v,hv,hrow,hnil⟩,hB,hm⟩ hK
    have hc:=hv.cell
    gi_wp2
    refine⟨by simp,.inl ⟨_,_,rfl,run_takeDeferred hK,?_⟩⟩
    refine⟨_,results_tmp rfl _ _ _,hB.trans (belowK_b (w:=w1) (by omega) W D _ _ (by simpa using hD) hK rfl rfl),v,rfl,?_⟩
    have e:(placesC 0 ss).length=ss.length:=placesC_len 0 ss
    rw [e]at hrow
    exact⟨ownsRow_putObj (ownsRow_le hrow (by omega)) _ hK rfl,fun h=>hnil (by rw [h];rfl)⟩
  case stop =>
    rintro D c pre W _ _ h _
    exact h.elim
end Go.Proofs.YtjpfnbihopoeeaaGreatDoor
namespace Go.Lift
noncomputable section
section
variable {β:Type}
def fNat(n:Nat)(k:Nat→β):β:=Nat.rec (motive:=fun _=>β) (k 0) (fun m _=>k (Nat.succ m)) n
theorem fNat_eq(n:Nat)(k:Nat→β):fNat n k=k n:=by cases n<;>rfl
def fInt(n:Int)(k:Int→β):β :=
  match n with
  | .ofNat m=>fNat m fun m=>k (.ofNat m)
  | .negSucc m=>fNat m fun m=>k (.negSucc m)
theorem fInt_eq(n:Int)(k:Int→β):fInt n k=k n:=by cases n<;>simp [fInt,fNat_eq]
def fKind(d:IntKind)(k:IntKind→β):β :=
  match d with
  | .i8=>k .i8 | .i16=>k .i16 | .i32=>k .i32 | .i64=>k .i64 | .u8=>k .u8 | .u16=>k .u16 | .u32=>k .u32 | .u64=>k .u64
theorem fKind_eq(d:IntKind)(k:IntKind→β):fKind d k=k d:=by cases d<;>rfl
def fBool(b:Bool)(k:Bool→β):β :=
  match b with
  | true=>k true
  | false=>k false
theorem fBool_eq(b:Bool)(k:Bool→β):fBool b k=k b:=by cases b<;>rfl
def fAddr(a:AAddr)(k:AAddr→β):β :=
  match a with
  | ⟨a,b,c,d,e⟩=>fNat a fun a=>fNat b fun b=>fNat c fun c=>fNat d fun d=>fNat e fun e=>k ⟨a,b,c,d,e⟩
theorem fAddr_eq(a:AAddr)(k:AAddr→β):fAddr a k=k a:=by cases a;simp [fAddr,fNat_eq]
def fByte(b:UInt8)(k:UInt8→β):β :=
  match b with
  | ⟨⟨⟨n,h⟩⟩⟩=>fNat n fun m=>k (UInt8.ofNat m)
theorem fByte_eq(b:UInt8)(k:UInt8→β):fByte b k=k b:=by
  obtain⟨⟨⟨n,h⟩⟩⟩:=b
  simp only [fByte,fNat_eq]
  congr 1
  apply UInt8.toNat_inj.1
  simp [UInt8.toNat,UInt8.ofNat]
  omega
def fBytes:List UInt8→(List UInt8→β)→β
  | [],k=>k []
  | b::r,k=>fByte b fun b=>fBytes r fun r=>k (b::r)
theorem fBytes_eq: ∀ (l:List UInt8) (k:List UInt8→β),fBytes l k=k l
  | [],k=>rfl
  | b::r,k=>by simp only [fBytes,fByte_eq,fBytes_eq r]
def fS(v:AVal)(k:AVal→β):β :=
  match v with
  | .undef=>k .undef
  | .bool b=>fBool b fun b=>k (.bool b)
  | .int d n=>fKind d fun d=>fInt n fun n=>k (.int d n)
  | .str s=>fBytes s fun s=>k (.str s)
  | .ptr none=>k (.ptr none)
  | .ptr (some a)=>fAddr a fun a=>k (.ptr (some a))
  | .slice none n c=>fNat n fun n=>fNat c fun c=>k (.slice none n c)
  | .slice (some a) n c=>fAddr a fun a=>fNat n fun n=>fNat c fun c=>k (.slice (some a) n c)
  | .nilFunc=>k .nilFunc
  | .nilIface=>k .nilIface
  | .func a b c=>k (.func a b c)
  | .iface t v=>k (.iface t v)
  | .agg l=>k (.agg l)
  | .tuple l=>k (.tuple l)
theorem fS_eq(v:AVal)(k:AVal→β):fS v k=k v:=by
  cases v with
  | ptr o=>cases o<;>simp [fS,fAddr_eq]
  | slice o n c=>cases o<;>simp [fS,fAddr_eq,fNat_eq]
  | _=>simp [fS,fBool_eq,fKind_eq,fInt_eq,fBytes_eq]
def fSs:List AVal→(List AVal→β)→β
  | [],k=>k []
  | a::r,k=>fS a fun a=>fSs r fun r=>k (a::r)
theorem fSs_eq: ∀ (l:List AVal) (k:List AVal→β),fSs l k=k l
  | [],k=>rfl
  | a::r,k=>by simp only [fSs,fS_eq,fSs_eq r]
def fV1(v:AVal)(k:AVal→β):β :=
  match v with
  | .agg l=>fSs l fun l=>k (.agg l)
  | .iface t v=>fNat t fun t=>fS v fun v=>k (.iface t v)
  | .func a b c=>fSs b fun b=>fSs c fun c=>k (.func a b c)
  | .tuple l=>fSs l fun l=>k (.tuple l)
  | v=>fS v k
theorem fV1_eq(v:AVal)(k:AVal→β):fV1 v k=k v:=by
  unfold fV1;split<;>simp [fS_eq,fSs_eq,fNat_eq]
def fV1s:List AVal→(List AVal→β)→β
  | [],k=>k []
  | a::r,k=>fV1 a fun a=>fV1s r fun r=>k (a::r)
theorem fV1s_eq: ∀ (l:List AVal) (k:List AVal→β),fV1s l k=k l
  | [],k=>rfl
  | a::r,k=>by simp only [fV1s,fV1_eq,fV1s_eq r]
def fV(v:AVal)(k:AVal→β):β :=
  match v with
  | .tuple l=>fV1s l fun l=>k (.tuple l)
  | .iface t v=>fNat t fun t=>fV1 v fun v=>k (.iface t v)
  | v=>fV1 v k
theorem fV_eq(v:AVal)(k:AVal→β):fV v k=k v:=by
  unfold fV;split<;>simp [fV1_eq,fV1s_eq,fNat_eq]
def fBlk(b:ABlk)(k:ABlk→β):β :=
  match b with
  | ⟨l,es,ex,ro,v,m,f,none⟩=>fV1s l fun l=>fNat es fun es=>fBool ex fun ex=>fBool ro fun ro=>fNat v fun v=>fNat m fun m=>fNat f fun f=>k ⟨l,es,ex,ro,v,m,f,none⟩
  | ⟨l,es,ex,ro,v,m,f,some (t,n)⟩=>fV1s l fun l=>fNat es fun es=>fBool ex fun ex=>fBool ro fun ro=>fNat v fun v=>fNat m fun m=>fNat f fun f=>k ⟨l,es,ex,ro,v,m,f,some (t,n)⟩
theorem fBlk_eq(b:ABlk)(k:ABlk→β):fBlk b k=k b:=by
  obtain⟨l,es,ex,ro,v,m,f,ty⟩:=b
  cases ty<;>simp [fBlk,fV1s_eq,fNat_eq,fBool_eq]
def toL(n:Nat)(t:Trie AVal):List AVal:=(List.range n).map fun i=>(t.get i).getD skipped
theorem toL_get(n:Nat)(t:Trie AVal)(i:Nat):(toL n t)[i]? =if i<n then some ((t.get i).getD skipped)else none:=by
  simp only [toL,List.getElem?_map]
  by_cases h:i<n
  · rw [List.getElem?_range h,if_pos h];rfl
  · rw [List.getElem?_eq_none (by simpa using h),if_neg h];rfl
def tget(n:Nat)(t:Trie AVal)(i:Nat):Option AVal:=cond (Nat.blt i n) (some (Option.rec (motive:=fun _=>AVal) skipped (fun v=>v) (t.get i))) none
theorem tget_eq(n:Nat)(t:Trie AVal)(i:Nat):tget n t i=(toL n t)[i]? :=by
  rw [toL_get];unfold tget
  by_cases h:i<n
  · rw [show Nat.blt i n=true by simpa [Nat.blt_eq]using h,if_pos h];cases t.get i<;>rfl
  · rw [show Nat.blt i n=false by cases hb:Nat.blt i n with | false=>rfl | true=>exact absurd (Nat.blt_eq.mp hb) h,if_neg h];rfl
def agetT(n:Nat)(t:Trie AVal)(o:Operand):AVal :=
  match o with
  | .tmp i=>cond (Nat.blt i n) (Option.rec (motive:=fun _=>AVal) skipped (fun v=>v) (t.get i)) .undef
  | .const v=>ofConst v
  | .global _=> .undef
  | .func f=> .func (.func f) [] []
theorem agetT_eq(n:Nat)(t:Trie AVal):agetT n t=agetOp (toL n t):=by
  funext o
  cases o with
  | tmp i =>
    have:=tget_eq n t i
    simp only [agetOp,List.getD_eq_getElem?_getD,← this]
    unfold tget
    show cond (Nat.blt i n) (Option.rec (motive:=fun _=>AVal) skipped (fun v=>v) (t.get i)) .undef=_
    cases Nat.blt i n<;>rfl
  | const v=>rfl
  | global g=>rfl
  | func f=>rfl
theorem toL_set(n:Nat)(t:Trie AVal)(d:Nat)(v:AVal):toL n (t.set d v)=(toL n t).set d v:=by
  apply List.ext_getElem?
  intro i
  rw [toL_get,List.getElem?_set,toL_get]
  by_cases h:i<n
  · simp only [h,if_true,Trie.get_set]
    by_cases hd:d=i
    · subst hd;simp [toL,h]
    · simp [hd]
  · simp only [h,if_false]
    by_cases hd:d=i
    · subst hd;simp [toL,h]
    · simp [hd]
section
variable {α:Type}
def fSing (f:Nat):Nat→α→(Trie α→β)→β :=
  Nat.rec (motive:=fun _=>Nat→α→(Trie α→β)→β) (fun _ v c=>c (.node (some v) .nil .nil))
    (fun _ ih k v c=>cond (Nat.beq k 0) (c (.node (some v) .nil .nil)) (cond (Nat.beq (Nat.mod k 2) 1) (ih (Nat.div k 2) v fun u=>c (.node none u .nil)) (ih (Nat.sub (Nat.div k 2) 1) v fun u=>c (.node none .nil u)))) f
theorem fSing_eq: ∀ (f k:Nat) (v:α) (c:Trie α→β),fSing f k v c=c (Trie.sing f k v)
  | 0,k,v,c=>rfl
  | f +1,k,v,c=>by
    show cond (Nat.beq k 0) (c (.node (some v) .nil .nil)) (cond (Nat.beq (k % 2) 1) (fSing f (k / 2) v fun u=>c (.node none u .nil)) (fSing f (k / 2-1) v fun u=>c (.node none .nil u))) =
      c (cond (Nat.beq k 0) (.node (some v) .nil .nil) (cond (Nat.beq (k % 2) 1) (.node none (Trie.sing f (k / 2) v) .nil) (.node none .nil (Trie.sing f (k / 2-1) v))))
    rw [fSing_eq f,fSing_eq f]
    cases Nat.beq k 0<;>cases Nat.beq (k % 2) 1<;>rfl
def fSetT (t:Trie α):Nat→α→(Trie α→β)→β :=
  Trie.rec (motive:=fun _=>Nat→α→(Trie α→β)→β) (fun k v c=>fSing k k v c)
    (fun o l r sl sr k v c=>cond (Nat.beq k 0) (c (.node (some v) l r)) (cond (Nat.beq (Nat.mod k 2) 1) (sl (Nat.div k 2) v fun u=>c (.node o u r)) (sr (Nat.sub (Nat.div k 2) 1) v fun u=>c (.node o l u)))) t
theorem fSetT_eq: ∀ (t:Trie α) (k:Nat) (v:α) (c:Trie α→β),fSetT t k v c=c (t.set k v)
  | .nil,k,v,c=>fSing_eq k k v c
  | .node o l r,k,v,c=>by
    show cond (Nat.beq k 0) (c (.node (some v) l r)) (cond (Nat.beq (k % 2) 1) (fSetT l (k / 2) v fun u=>c (.node o u r)) (fSetT r (k / 2-1) v fun u=>c (.node o l u))) =
      c (cond (Nat.beq k 0) (.node (some v) l r) (cond (Nat.beq (k % 2) 1) (.node o (l.set (k / 2) v) r) (.node o l (r.set (k / 2-1) v))))
    rw [fSetT_eq l,fSetT_eq r]
    cases Nat.beq k 0<;>cases Nat.beq (k % 2) 1<;>rfl
def fAt (f:α→(α→β)→β) (t:Trie α):Nat→(Trie α→β)→β :=
  Trie.rec (motive:=fun _=>Nat→(Trie α→β)→β) (fun _ c=>c .nil)
    (fun o l r fl fr k c=>cond (Nat.beq k 0) (Option.rec (motive:=fun _=>β) (c (.node none l r)) (fun b=>f b fun b=>c (.node (some b) l r)) o) (cond (Nat.beq (Nat.mod k 2) 1) (fl (Nat.div k 2) fun u=>c (.node o u r)) (fr (Nat.sub (Nat.div k 2) 1) fun u=>c (.node o l u)))) t
theorem fAt_eq {f:α→(α→β)→β}(hf: ∀ a k,f a k=k a): ∀ (t:Trie α) (k:Nat) (c:Trie α→β),fAt f t k c=c t
  | .nil,k,c=>rfl
  | .node o l r,k,c=>by
    show cond (Nat.beq k 0) (Option.rec (motive:=fun _=>β) (c (.node none l r)) (fun b=>f b fun b=>c (.node (some b) l r)) o) (cond (Nat.beq (k % 2) 1) (fAt f l (k / 2) fun u=>c (.node o u r)) (fAt f r (k / 2-1) fun u=>c (.node o l u)))=_
    rw [fAt_eq hf l,fAt_eq hf r]
    cases o<;>cases Nat.beq k 0<;>cases Nat.beq (k % 2) 1<;>simp [hf]
end
def fPut(s:Trie AVal)(d:Option Tmp)(v:AVal)(k:Trie AVal→β):β:=Option.rec (motive:=fun _=>β) (k s) (fun d=>fSetT s d v k) d
theorem fPut_eq(n:Nat)(s:Trie AVal)(d:Option Tmp)(v:AVal)(k:Trie AVal→β):fPut s d v k=k (Option.rec (motive:=fun _=>Trie AVal) s (fun d=>s.set d v) d):=by cases d<;>simp [fPut,fSetT_eq]
theorem toL_put(n:Nat)(s:Trie AVal)(d:Option Tmp)(v:AVal):toL n (Option.rec (motive:=fun _=>Trie AVal) s (fun d=>s.set d v) d)=aput (toL n s) d v:=by cases d<;>simp [aput,toL_set]
def fHeapTo(id:Nat)(h:AHeap)(k:AHeap→β):β :=
  match h with
  | ⟨n,l⟩=>fAt fBlk l id fun l=>k ⟨n,l⟩
theorem fHeapTo_eq(id:Nat)(h:AHeap)(k:AHeap→β):fHeapTo id h k=k h:=by cases h;simp [fHeapTo,fAt_eq fBlk_eq]
def fHeap(h:AHeap)(k:AHeap→β):β :=
  match h with
  | ⟨n,l⟩=>fNat n fun n=>k ⟨n,l⟩
theorem fHeap_eq(h:AHeap)(k:AHeap→β):fHeap h k=k h:=by cases h;simp [fHeap,fNat_eq]
inductive Turns where
  | no | at (id:Nat) | all
def fTurn(t:Turns)(h:AHeap)(k:AHeap→β):β :=
  match t with
  | .no=>k h
  | .at id=>fHeapTo id h k
  | .all=>fHeap h k
theorem fTurn_eq(t:Turns)(h:AHeap)(k:AHeap→β):fTurn t h k=k h:=by cases t<;>simp [fTurn,fHeapTo_eq,fHeap_eq]
def fW(v:AVal)(k:AVal→β):β :=
  match v with
  | .undef=>k .undef
  | .bool b=>k (.bool b)
  | .int d n=>k (.int d n)
  | .str s=>k (.str s)
  | .ptr a=>k (.ptr a)
  | .slice a n c=>k (.slice a n c)
  | .nilFunc=>k .nilFunc
  | .nilIface=>k .nilIface
  | .func a b c=>k (.func a b c)
  | .iface t v=>k (.iface t v)
  | .agg l=>k (.agg l)
  | .tuple l=>k (.tuple l)
theorem fW_eq(v:AVal)(k:AVal→β):fW v k=k v:=by cases v<;>rfl
def shallow(o:Op):Bool :=
  match o with
  | .move (.tmp _) | .assign (.tmp _) | .pick _ (.tmp _) (.tmp _) | .extract _ _ | .load _ _=>true
  | .call c=>match c.callee with | .value _=>true | _=>false
  | _=>false
def fRes(o:Op)(v:AVal)(k:AVal→β):β:=cond (shallow o) (fW v k) (fV v k)
theorem fRes_eq(o:Op)(v:AVal)(k:AVal→β):fRes o v k=k v:=by unfold fRes;cases shallow o<;>simp [fW_eq,fV_eq]
end
def turnsOf (nid:Nat) (ρ:Operand→AVal) (o:Op) (v:AVal):Turns :=
  match o with
  | .alloc _ | .box _ _ | .buildSlice _ _ _ | .makeSlice _ _ _=> .at nid
  | .store _ a _=>match ρ a with | .ptr (some a)=> .at a.id | _=> .no
  | .call c =>
    match c.callee with
    | .value _=> .all
    | .builtin .append=>match v with | .slice (some a) _ _=> .at a.id | _=> .no
    | _=> .no
  | .convert _ _ _=>match v with | .slice (some a) _ _=> .at a.id | _=> .no
  | _=> .no
section
variable {E:AEnv}
def wantedT (ops:Array Oper) (n:Nat) (s:Trie AVal) (o:Oper):Option Bool :=
  match o.guard with
  | none=>some true
  | some (j,want) =>
    match (ops[j]?).bind (·.dst)with
    | some d =>
      match tget n s d with
      | some (.bool b)=>some (b == want)
      | some (.tuple [])=>some false
      | _=>none
    | none=>none
theorem wantedT_eq(ops:Array Oper)(n:Nat)(s:Trie AVal)(o:Oper):wantedT ops n s o=awanted ops (toL n s) o:=by
  unfold wantedT awanted
  simp only [tget_eq]
  rfl
structure FSt where
  slots:Trie AVal
  heap:AHeap
def FSt.to(n:Nat)(s:FSt):ASt:=⟨toL n s.slots,s.heap⟩
def frun (E:AEnv) (call:ACall) (ops:Array Oper) (draw:Bool) (n n0:Nat) (l:List Oper):Nat→Trie AVal→AHeap→Option FSt :=
  List.rec (motive:=fun _=>Nat→Trie AVal→AHeap→Option FSt) (fun _ s h=>some ⟨s,h⟩)
    (fun o _ ih i s h =>
      match wantedT ops n s o with
      | some true =>
        match (cond draw (dop E call ops n0 i (agetT n s) h o.op) (aopX E call (Nat.add n0 i) (agetT n s) h o.op))with
        | some (v,h')=>fRes o.op v fun v=>fTurn (turnsOf (Nat.add n0 i) (agetT n s) o.op v) h' fun h'=>fPut s o.dst v fun s'=>ih (Nat.succ i) s' h'
        | none=>none
      | some false=>fPut s o.dst skipped fun s'=>ih (Nat.succ i) s' h
      | none=>none) l
theorem frun_cons (call:ACall) (ops:Array Oper) (draw:Bool) (n n0 i:Nat) (s:Trie AVal) (h:AHeap) (o:Oper) (r:List Oper):frun E call ops draw n n0 (o::r) i s h =
      match wantedT ops n s o with
      | some true =>
        match (cond draw (dop E call ops n0 i (agetT n s) h o.op) (aopX E call (n0+i) (agetT n s) h o.op))with
        | some (v,h')=>frun E call ops draw n n0 r (i+1) (Option.rec (motive:=fun _=>Trie AVal) s (fun d=>s.set d v) o.dst) h'
        | none=>none
      | some false=>frun E call ops draw n n0 r (i+1) (Option.rec (motive:=fun _=>Trie AVal) s (fun d=>s.set d skipped) o.dst) h
      | none=>none:=by
  show (match wantedT ops n s o with
      | some true =>
        match (cond draw (dop E call ops n0 i (agetT n s) h o.op) (aopX E call (n0+i) (agetT n s) h o.op))with
        | some (v,h')=>fRes o.op v fun v=>fTurn (turnsOf (n0+i) (agetT n s) o.op v) h' fun h'=>fPut s o.dst v fun s'=>frun E call ops draw n n0 r (i+1) s' h'
        | none=>none
      | some false=>fPut s o.dst skipped fun s'=>frun E call ops draw n n0 r (i+1) s' h
      | none=>none)=_
  simp only [fRes_eq,fTurn_eq,fPut_eq n]
theorem frun_arun {call:ACall} {ops:Array Oper} {n n0:Nat} : ∀ (l:List Oper) (i:Nat) (s:Trie AVal) (h:AHeap),(∀ j,l[j]? =ops[i+j]?) →
    (frun E call ops false n n0 l i s h).map (FSt.to n)=arun E call ops n0 (List.range' i l.length) ⟨toL n s,h⟩
  | [],i,s,h,_=>rfl
  | o ::r,i,s,h,hl=>by
    have ho:ops[i]? =some o:=by have:=hl 0;simpa using this.symm
    have hr: ∀ j,r[j]? =ops[i+1+j]? :=fun j=>by have:=hl (j+1);simp at this;rw [this];congr 1;omega
    rw [frun_cons]
    simp only [List.length_cons,List.range'_succ,arun,astep,ho,wantedT_eq,agetT_eq,cond_false]
    cases hw:awanted ops (toL n s) o with
    | none=>rfl
    | some b =>
      cases b with
      | true =>
        simp only
        cases ha:aopX E call (n0+i) (agetOp (toL n s)) h o.op with
        | none=>rfl
        | some p =>
          obtain⟨v,h'⟩:=p
          simp only
          rw [frun_arun r (i+1) _ _ hr,toL_put]
      | false =>
        simp only
        rw [frun_arun r (i+1) _ _ hr,toL_put]
theorem frun_drun {call:ACall} {ops:Array Oper} {n n0:Nat} : ∀ (l:List Oper) (i:Nat) (s:Trie AVal) (h:AHeap),(∀ j,l[j]? =ops[i+j]?) →
    (frun E call ops true n n0 l i s h).map (FSt.to n)=drun E call ops n0 (List.range' i l.length) ⟨toL n s,h⟩
  | [],i,s,h,_=>rfl
  | o ::r,i,s,h,hl=>by
    have ho:ops[i]? =some o:=by have:=hl 0;simpa using this.symm
    have hr: ∀ j,r[j]? =ops[i+1+j]? :=fun j=>by have:=hl (j+1);simp at this;rw [this];congr 1;omega
    rw [frun_cons]
    simp only [List.length_cons,List.range'_succ,drun,dstep,ho,wantedT_eq,agetT_eq,cond_true]
    cases hw:awanted ops (toL n s) o with
    | none=>rfl
    | some b =>
      cases b with
      | true =>
        simp only
        cases ha:dop E call ops n0 i (agetOp (toL n s)) h o.op with
        | none=>rfl
        | some p =>
          obtain⟨v,h'⟩:=p
          simp only
          rw [frun_drun r (i+1) _ _ hr,toL_put]
      | false =>
        simp only
        rw [frun_drun r (i+1) _ _ hr,toL_put]
def fregion(E:AEnv)(call:ACall)(ops:Array Oper)(draw:Bool)(n:Nat)(s:FSt):Option FSt :=
  match s with
  | ⟨s,⟨n0,l⟩⟩=>cond (!draw || drawOk ops) (fNat (Nat.add n0 ops.size) fun m=>frun E call ops draw n n0 ops.toList 0 s ⟨m,l⟩) none
theorem fregion_eq(call:ACall)(ops:Array Oper)(draw:Bool)(n:Nat)(s:FSt):(fregion E call ops draw n s).map (FSt.to n)=aregion E call ops draw (s.to n):=by
  obtain⟨s,n0,l⟩:=s
  have hl: ∀ j:Nat,ops.toList[j]? =ops[0+j]? :=fun j=>by simp
  have hr:List.range ops.size=List.range' 0 ops.toList.length:=by rw [List.range_eq_range',Array.length_toList]
  unfold fregion aregion
  cases draw with
  | false=>simp only [Bool.not_false,Bool.true_or,cond_true,fNat_eq,Bool.false_eq_true,if_false,frun_arun _ _ _ _ hl,hr,FSt.to,Nat.add_eq]
  | true =>
    cases hd:drawOk ops with
    | false=>simp
    | true=>simp only [Bool.not_true,Bool.false_or,hd,cond_true,if_true,fNat_eq,frun_drun _ _ _ _ hl,hr,FSt.to,Nat.add_eq]
def fexec (E:AEnv) (call:ACall) (n:Nat) (fuel:Nat):Option Code→Code→FSt→Option (AExit×FSt) :=
  Nat.rec (motive:=fun _=>Option Code→Code→FSt→Option (AExit×FSt)) (fun _ _ _=>none)
  (fun m ih b c s =>
  match b with
  | some body =>
    match ih none c s with
    | some (.goto l,s') =>
      match findLabel body l with
      | some rest=>ih (some body) rest s'
      | none=>some (.goto l,s')
    | r=>r
  | none =>
    match c with
    | .skip=>some (.normal,s)
    | .label _=>some (.normal,s)
    | .region _ ops draw =>
      match fregion E call ops draw n s with
      | some s'=>some (.normal,s')
      | none=>none
    | .seq a b =>
      match ih none a s with
      | some (.normal,s')=>ih none b s'
      | r=>r
    | .cond x a b =>
      match agetT n s.slots x with
      | .bool true=>ih none a s
      | .bool false=>ih none b s
      | _=>none
    | .block id c =>
      match ih none c s with
      | some (.exit j,s')=>some (if j=id then .normal else .exit j,s')
      | r=>r
    | .loop c =>
      match ih none c s with
      | some (.normal,s')=>ih none (.loop c) s'
      | r=>r
    | .scope c=>ih (some c) c s
    | .goto l=>some (.goto l,s)
    | .exit id=>some (.exit id,s)
    | .ret=>some (.ret,s)
    | _=>none) fuel
def toP(n:Nat)(p:AExit×FSt):AExit×ASt:=(p.1,p.2.to n)
theorem fexec_eq (call:ACall) (k:Nat): ∀ (n:Nat) (b:Option Code) (c:Code) (s:FSt),(fexec E call k n b c s).map (toP k)=aexec E call n b c (s.to k):=by
  intro n
  induction n with
  | zero=>intro b c s;rfl
  | succ n ih =>
    intro b c s
    cases b with
    | some body =>
      show Option.map (toP k) (match fexec E call k n none c s with
        | some (.goto l,s') =>
          match findLabel body l with
          | some rest=>fexec E call k n (some body) rest s'
          | none=>some (.goto l,s')
        | r=>r)=_
      simp only [aexec,← ih]
      cases hx:fexec E call k n none c s with
      | none=>rfl
      | some p =>
        obtain⟨e,s'⟩:=p
        cases e with
        | goto l =>
          simp only [Option.map_some,toP]
          cases hf:findLabel body l with
          | none=>rfl
          | some rest=>simp only [hf];exact ih (some body) rest s'
        | _=>rfl
    | none =>
      cases c
      case region id ops draw =>
        show Option.map (toP k) (match fregion E call ops draw k s with
          | some s'=>some (.normal,s')
          | none=>none)=_
        simp only [aexec,← fregion_eq]
        cases fregion E call ops draw k s<;>rfl
      case seq a b =>
        show Option.map (toP k) (match fexec E call k n none a s with
          | some (.normal,s')=>fexec E call k n none b s'
          | r=>r)=_
        simp only [aexec,← ih]
        cases hx:fexec E call k n none a s with
        | none=>rfl
        | some p=>obtain⟨e,s'⟩:=p;cases e<;>first | exact ih none b s' | rfl
      case cond x a b =>
        show Option.map (toP k) (match agetT k s.slots x with
          | .bool true=>fexec E call k n none a s
          | .bool false=>fexec E call k n none b s
          | _=>none)=_
        simp only [aexec,← ih,agetT_eq]
        have he:agetOp (s.to k).slots x=agetOp (toL k s.slots) x:=rfl
        rw [he]
        cases agetOp (toL k s.slots) x with
        | bool t=>cases t<;>rfl
        | _=>rfl
      case block id c =>
        show Option.map (toP k) (match fexec E call k n none c s with
          | some (.exit j,s')=>some (if j=id then .normal else .exit j,s')
          | r=>r)=_
        simp only [aexec,← ih]
        cases hx:fexec E call k n none c s with
        | none=>rfl
        | some p=>obtain⟨e,s'⟩:=p;cases e<;>rfl
      case loop c =>
        show Option.map (toP k) (match fexec E call k n none c s with
          | some (.normal,s')=>fexec E call k n none (.loop c) s'
          | r=>r)=_
        simp only [aexec,← ih]
        cases hx:fexec E call k n none c s with
        | none=>rfl
        | some p=>obtain⟨e,s'⟩:=p;cases e<;>first | exact ih none (.loop c) s' | rfl
      case scope c=>exact ih (some c) c s
      all_goals rfl
def fArgs:List AVal→Nat→Trie AVal→(Trie AVal→Option (AVal×AHeap))→Option (AVal×AHeap)
  | [],_,t,k=>k t
  | v::r,i,t,k=>fV v fun v=>fSetT t i v fun t=>fArgs r (Nat.succ i) t k
theorem fArgs_eq: ∀ (l:List AVal) (i:Nat) (t:Trie AVal) (k:Trie AVal→Option (AVal×AHeap)),
    ∃ t',fArgs l i t k=k t'∧ ∀ j,t'.get j=if j<i then t.get j else if h:j-i<l.length then some l[j-i]else t.get j
  | [],i,t,k=>⟨t,rfl,fun j=>by simp⟩
  | v ::r,i,t,k=>by
    obtain⟨t',h1,h2⟩:=fArgs_eq r (i+1) (t.set i v) k
    refine⟨t',by simp only [fArgs,fV_eq,fSetT_eq];exact h1,fun j=> ?_⟩
    rw [h2 j,Trie.get_set]
    by_cases hj:j<i
    · rw [if_pos (by omega),if_neg (by omega),if_pos hj]
    · rw [if_neg hj]
      by_cases he:i=j
      · subst he;rw [if_pos (by omega),if_pos rfl];simp
      · rw [if_neg (by omega),if_neg he]
        by_cases hl:j- (i+1)<r.length
        · rw [dif_pos hl,dif_pos (by simp;omega)]
          obtain⟨m,hm⟩: ∃ m,j-i=m+1:=⟨j-i-1,by omega⟩
          have hm':j- (i+1)=m:=by omega
          simp only [hm,hm',List.getElem_cons_succ]
        · rw [dif_neg hl,dif_neg (by simp;omega)]
theorem fArgs_toL {l:List AVal}{m:Nat}{t:Trie AVal}(h: ∀ j,t.get j=if j<0 then(Trie.nil:Trie AVal).get j else if h:j-0<l.length then some l[j-0]else(Trie.nil:Trie AVal).get j) :
    toL (l.length+(m-l.length)) t=l++List.replicate (m-l.length) skipped:=by
  apply List.ext_getElem?
  intro i
  rw [toL_get,h i,if_neg (Nat.not_lt_zero i)]
  simp only [Nat.sub_zero,Trie.get_nil]
  by_cases hi:i<l.length
  · rw [if_pos (by omega),dif_pos hi,List.getElem?_append_left hi,List.getElem?_eq_getElem hi];rfl
  · rw [dif_neg hi,List.getElem?_append_right (by omega),List.getElem?_replicate]
    by_cases hn:i<l.length+(m-l.length)
    · rw [if_pos hn,if_pos (by omega)];rfl
    · rw [if_neg hn,if_neg (by omega)]
def fresults (D:Tys) (n:Nat) (rs:List ResultVar) (s:FSt):Option (List AVal) :=
  match rs with
  | []=>some []
  | .tmp t::r=>(fresults D n r s).map fun l=>agetT n s.slots (.tmp t)::l
  | .cell a t::r =>
    match agetT n s.slots (.tmp a)with
    | .ptr (some p) =>
      match aload D t p s.heap,fresults D n r s with
      | some v,some l=>some (v::l)
      | _,_=>none
    | _=>none
theorem fresults_eq(D:Tys)(n:Nat)(s:FSt): ∀ (rs:List ResultVar),fresults D n rs s=aresults D rs (s.to n)
  | []=>rfl
  | .tmp t::r=>by simp only [fresults,aresults,fresults_eq D n s r,agetT_eq];rfl
  | .cell a t::r=>by simp only [fresults,aresults,fresults_eq D n s r,agetT_eq];rfl
def fOut(r:Option (AVal×AHeap)):Option (AVal×AHeap) :=
  match r with
  | some (v,⟨n,l⟩)=>fNat n fun n=>fV v fun v=>some (v,⟨n,l⟩)
  | none=>none
theorem fOut_eq(r:Option (AVal×AHeap)):fOut r=r:=by
  cases r with
  | none=>rfl
  | some p=>obtain⟨v,n,l⟩:=p;simp [fOut,fNat_eq,fV_eq]
def fcall (P:Program) (E:AEnv) (fuel:Nat):ACall :=
  Nat.rec (motive:=fun _=>ACall) (fun _ _ _=>none)
  (fun n ih f args h =>
    match E.prim f with
    | some g=>g args h
    | none =>
    match P.funcs[f]? with
    | some fn =>
      match fn.body with
      | some c =>
        fNat (args.length+(fn.ntmps-args.length)) fun k=>fArgs args 0 .nil fun sl =>
        match fexec E ih k n none c ⟨sl,h⟩with
        | some (.exit _,_)=>none
        | some (.goto _,_)=>none
        | some (_,s) =>
          match fresults E.D k fn.results.toList s with
          | some l=>fOut (some (aresult l,s.heap))
          | none=>none
        | none=>none
      | none=>none
    | none=>none) fuel
theorem fcall_eq (P:Program) (E:AEnv): ∀ (n:Nat),fcall P E n=acall P E n:=by
  intro n
  induction n with
  | zero=>rfl
  | succ n ih =>
    funext f args h
    show(match E.prim f with
    | some g=>g args h
    | none =>
    match P.funcs[f]? with
    | some fn =>
      match fn.body with
      | some c =>
        fNat (args.length+(fn.ntmps-args.length)) fun k=>fArgs args 0 .nil fun sl =>
        match fexec E (fcall P E n) k n none c ⟨sl,h⟩with
        | some (.exit _,_)=>none
        | some (.goto _,_)=>none
        | some (_,s) =>
          match fresults E.D k fn.results.toList s with
          | some l=>fOut (some (aresult l,s.heap))
          | none=>none
        | none=>none
      | none=>none
    | none=>none)=_
    simp only [acall,ih,fNat_eq,fOut_eq]
    cases E.prim f with
    | some g=>rfl
    | none =>
    simp only
    cases hf:P.funcs[f]? with
    | none=>rfl
    | some fn =>
      simp only
      cases fn.body with
      | none=>rfl
      | some c =>
        simp only
        obtain⟨t,h1,h2⟩:=fArgs_eq args 0 .nil fun sl =>
          match fexec E (acall P E n) (args.length+(fn.ntmps-args.length)) n none c ⟨sl,h⟩with
          | some (.exit _,_)=>none
          | some (.goto _,_)=>none
          | some (_,s) =>
            match fresults E.D (args.length+(fn.ntmps-args.length)) fn.results.toList s with
            | some l=>some (aresult l,s.heap)
            | none=>none
          | none=>none
        rw [h1]
        have hs:(FSt.mk t h).to (args.length+(fn.ntmps-args.length))=⟨args++List.replicate (fn.ntmps-args.length) skipped,h⟩:=by
          simp only [FSt.to,fArgs_toL h2]
        have hx:=fexec_eq (E:=E) (acall P E n) (args.length+(fn.ntmps-args.length)) n none c ⟨t,h⟩
        rw [hs]at hx
        rw [← hx]
        cases hy:fexec E (acall P E n) (args.length+(fn.ntmps-args.length)) n none c ⟨t,h⟩with
        | none=>rfl
        | some p =>
          obtain⟨e,s⟩:=p
          simp only [Option.map_some,toP]
          cases e with
          | exit id=>rfl
          | goto l=>rfl
          | normal=>simp only [fresults_eq];cases aresults E.D fn.results.toList (s.to (args.length+(fn.ntmps-args.length)))<;>rfl
          | ret=>simp only [fresults_eq];cases aresults E.D fn.results.toList (s.to (args.length+(fn.ntmps-args.length)))<;>rfl
theorem fcall_true {P:Program}{E:AEnv}{n:Nat}{f:FuncId}{args:List AVal}{h:AHeap}(k:saysTrue (fcall P E n f args h)=true): ∃ h',acall P E n f args h=some (.bool true,h'):=by
  rw [fcall_eq]at k;exact saysTrue_spec k
end
end
end Go.Lift
namespace Go.Proofs.YtjpfnbihopoeeaaGreatDoor
open Go.RowKit Go.Lift
set_option maxRecDepth 1000000
theorem mixed:Tryz.prog.follows .mixedOrders=true:=by decide+kernel
noncomputable def env0:AEnv:= {D:=tyD Tryz.prog,eqs:= []}
theorem env0_ok:EnvOk Tryz.prog env0 where
  tys:=Tys.ok_self _
  eqs:=fun t h=>by simp [AEnv.eqT,env0]at h
  names:=names_of (by decide+kernel)
  prims:=fun f g h=>by simp [env0]at h
  exts:=fun f k h=>by simp [env0]at h
noncomputable def ansIs(r:Option (AVal×AHeap))(v:AVal):Bool :=
  match r with
  | some (x,_)=>AVal.same x v
  | none=>false
theorem ansIs_spec {r:Option (AVal×AHeap)}{v:AVal}(h:ansIs r v=true): ∃ h',r=some (v,h'):=by
  unfold ansIs at h
  split at h
  · rename_i x h';rw [AVal.same_eq h];exact⟨h',rfl⟩
  · cases h
def kindNs:List Int:= [98,50,97,49,48,99,100]
def kindT:List (List AVal×AVal):=kindNs.map fun r=>([.int .i32 r],.int .i8 9)
theorem kind_runs:(kindNs.all fun r=>ansIs (fcall Tryz.prog env0 400 140 [.int .i32 r] ⟨0,.nil⟩) (.int .i8 9))=true:=by decide+kernel
theorem kind_ok(C:(Nat→Prop)→World→Prop):PrimOk Tryz.prog C 140 (memoPrim kindT):=by
  have h:=memo_ok (E:=env0) env0_ok mixed (fun _ _ _ _ _ _=>trivial) (f:=140) (t:=kindT) fun x hx=>by
    simp only [kindT,List.mem_map]at hx
    obtain⟨r,hr,rfl⟩:=hx
    obtain⟨h',e⟩:=ansIs_spec (List.all_eq_true.1 kind_runs r hr)
    rw [fcall_eq]at e
    exact⟨rfl,rfl,_,_,e⟩
  intro N0 w0 hN _
  exact h N0 w0 hN trivial
noncomputable def env1:AEnv:= {D:=tyD Tryz.prog,eqs:= [],prim:=fun f=>if f=140 then some (memoPrim kindT)else none}
theorem env1_ok:EnvOk Tryz.prog env1 where
  tys:=Tys.ok_self _
  eqs:=fun t h=>by simp [AEnv.eqT,env1]at h
  names:=env0_ok.names
  prims:=fun f g h=>by
    simp only [env1]at h
    split at h
    · rename_i e;subst e;simp only [Option.some.injEq]at h;subst h;exact kind_ok _
    · cases h
  exts:=fun f k h=>by simp [env1]at h
abbrev yesW:World→Prop:=fun _=>True
noncomputable def stepB(rs:List Int)(p:Nat)(s:CStep):Bool :=
  decide (0<s.n) && decide (p+s.n≤rs.length) && decide (s.t.length<2^62) &&
  ansIs (fcall Tryz.prog env1 400 125 [.slice (some ⟨0,0,p,0,1⟩) (rs.length-p) (rs.length-p)] (roHeap rs)) (.tuple [.int .i64 s.n,.int .i64 s.w]) &&
  ansIs (fcall Tryz.prog env1 400 126 [.slice (some ⟨0,0,p,0,1⟩) s.n (rs.length-p)] (roHeap rs)) (.str s.t)
theorem stepB_spec {rs:List Int}{p:Nat}{s:CStep}(h:stepB rs p s=true):StepAt yesW rs p s:=by
  simp only [stepB,Bool.and_eq_true,decide_eq_true_eq]at h
  obtain⟨⟨⟨⟨h1,h2⟩,h3⟩,h4⟩,h5⟩:=h
  obtain⟨k1,e1⟩:=ansIs_spec h4
  obtain⟨k2,e2⟩:=ansIs_spec h5
  rw [fcall_eq]at e1 e2
  refine⟨h1,h2,h3,fun W g off C hR _=>⟨?_,?_⟩⟩
  · have hl:=hR.len
    refine(hR.calls env1_ok mixed trivial rfl e1 (args':= #[.slice (some ⟨g,off+p,none⟩) (rs.length-p) (C-p)]) (by simp only [VRels];exact⟨_,_,rfl,RoAt.slice (Nat.le_refl _) (by omega) (by omega),rfl⟩)).mono ?_
    rintro e W' ⟨v',rfl,hv,hb⟩
    simp only [VRel,VRels]at hv
    obtain⟨xs,rfl,a,t,e3,rfl,b,t2,e4,rfl,e5⟩:=hv
    refine⟨?_,hb⟩
    subst e5;subst e4
    obtain⟨l⟩:=xs
    simp only at e3;subst e3;rfl
  · have hl:=hR.len
    refine(hR.calls env1_ok mixed trivial rfl e2 (args':= #[.slice (some ⟨g,off+p,none⟩) s.n (C-p)]) (by simp only [VRels];exact⟨_,_,rfl,RoAt.slice (by omega) (by omega) (by omega),rfl⟩)).mono ?_
    rintro e W' ⟨v',rfl,hv,hb⟩
    simp only [VRel]at hv
    obtain⟨t,rfl,ht⟩:=hv
    refine⟨?_,hb⟩
    rw [← ht]
noncomputable def chainB(rs:List Int):Nat→List CStep→Bool
  | p,[]=>decide (p=rs.length)
  | p,s::r=>stepB rs p s && chainB rs (p+s.n) r
theorem chainB_spec {rs:List Int} : ∀ {p:Nat} {ss:List CStep},chainB rs p ss=true→ChainC yesW rs p ss
  | p,[],h=>by simp only [chainB,decide_eq_true_eq]at h;exact h
  | p,s::r,h=>by
    simp only [chainB,Bool.and_eq_true]at h
    exact⟨stepB_spec h.1,chainB_spec h.2⟩
noncomputable def runesB(s:List UInt8)(rs:List Int):Bool :=
  match fcall Tryz.prog env1 400 123 [.str s] ⟨0,.nil⟩with
  | some (.slice none 0 0,_)=>decide (rs= [])
  | some (.slice (some a) n c,h)=>decide (0<n) && decide (a.fld=0) && decide (a.es=1) &&
    match h.get a.id with
    | some b=>decide (a.idx+n≤b.lim a.ver) && decide (a.idx+n≤b.elems.length) && AVal.sames ((b.elems.drop a.idx).take n) (i32s rs)
    | none=>false
  | _=>false
theorem runesB_spec {s:List UInt8} {rs:List Int} (h:runesB s rs=true) (W:World):Calls Tryz.prog 123 #[.string ⟨s.toArray⟩] W fun e W'=>Below W.heap.size W W' ∧
    ∃ v g off C,e= .returned v∧((∃ x c,v= .slice x rs.length c)∧(0<rs.length→v= .slice (some ⟨g,off,none⟩) rs.length C))∧(0<rs.length→RoAt W' g off C rs∧W.heap.size≤g):=by
  unfold runesB at h
  have key: ∀ {v:AVal} {h1:AHeap},fcall Tryz.prog env1 400 123 [.str s] ⟨0,.nil⟩=some (v,h1)→Calls Tryz.prog 123 #[.string ⟨s.toArray⟩] W fun e w'=> ∃ v' φ',e= .returned v'∧Keep noMap φ' 0∧VRel φ' v v'∧HRel φ' (fun k=>k<W.heap.size) h1 w'∧Below W.heap.size W w':=by
    intro v h1 e
    rw [fcall_eq]at e
    refine(acall_sound env1_ok (N0:=fun k=>k<W.heap.size) (w0:=W) (fun _ h=>h) trivial mixed _ _ [.str s] ⟨0,.nil⟩ _ _ e noMap W #[.string ⟨s.toArray⟩] (HRel.empty _ _ _) (Safe.refl _ _) (by simp only [VRels,VRel];exact⟨_,_,rfl,⟨_,rfl,rfl⟩,rfl⟩)).2.mono ?_
    rintro e w' ⟨v',φ',k1,k2,k3,k4,k5,k6⟩
    exact⟨v',φ',k1,k2,k3,k4,k5.below⟩
  split at h
  · rename_i h1 e
    simp only [decide_eq_true_eq]at h;subst h
    refine(key e).mono ?_
    rintro e w' ⟨v',φ',rfl,_,hv,_,hb⟩
    simp only [VRel]at hv
    obtain⟨rfl,_,_⟩:=hv
    exact⟨hb,_,0,0,0,rfl,⟨⟨_,_,rfl⟩,fun h=>by simp at h⟩,fun h=>by simp at h⟩
  · rename_i a n c h1 e
    simp only [Bool.and_eq_true,decide_eq_true_eq]at h
    obtain⟨⟨⟨q1,q2⟩,q3⟩,q4⟩:=h
    split at q4
    · rename_i b hb
      simp only [Bool.and_eq_true,decide_eq_true_eq]at q4
      obtain⟨⟨q5,q6⟩,q7⟩:=q4
      refine(key e).mono ?_
      rintro e w' ⟨v',φ',rfl,hk,hv,hH,hbl⟩
      obtain⟨g,off,C,rfl,hn,hR,p,hp,hpg,hbase⟩:=RoAt.of_rel hH hv q2 q3 q1 hb q5 (AVal.sames_eq q7) q6
      refine⟨hbl,_,g,off,C,rfl,⟨⟨_,_,rfl⟩,fun _=>rfl⟩,fun _=>⟨hR,?_⟩⟩
      have hro:p.ro=false:=by
        cases hr:p.ro with
        | false=>rfl
        | true=>have:=hk.ro _ _ _ hp hr;simp [noMap]at this
      exact Nat.le_of_not_lt (hbase hro)
    · cases q4
  · cases h
noncomputable def textB(s:List UInt8)(rs:List Int)(ss:List CStep):Bool:=decide (ss.length≤2^30) && runesB s rs && chainB rs 0 ss
theorem textB_spec {s:List UInt8}{rs:List Int}{ss:List CStep}(h:textB s rs ss=true):TextAt yesW ⟨s.toArray⟩ rs ss:=by
  simp only [textB,Bool.and_eq_true,decide_eq_true_eq]at h
  exact⟨h.1.1,fun W _=>runesB_spec h.1.2 W,chainB_spec h.2⟩
def lettersR(s:List UInt8):List Int:=s.map fun b=>(b.toNat:Int)
def lettersC(s:List UInt8):List CStep:=s.map fun b=>⟨1,[b],1⟩
def splitTs:List (List UInt8):= [[],[98],[50],[97],[49,48],[97,98],[99],[100],[98,98,98],[99,99]]
theorem split_runs:(splitTs.all fun s=>textB s (lettersR s) (lettersC s))=true:=by decide+kernel
end Go.Proofs.YtjpfnbihopoeeaaGreatDoor
namespace Go.Proofs.YtjpfnbihopoeeaaGreatDoor
open Go.Lift Go.Shelf
set_option maxRecDepth 1000000
def rhoS:Ren where
  f:=fun x=>if x=99 then 115 else if x=105 then 63 else if x=156 then 62 else if x=165 then 113 else if x=166 then 77 else if x=169 then 79 else if x=170 then 116 else if x=206 then 154 else if x=212 then 114 else if x=240 then 127 else if x=241 then 151 else if x=263 then 152 else if x=264 then 153 else if x=276 then 166 else if x=277 then 188 else 0
  t:=fun x=>if x=0 then 0 else if x=3 then 3 else if x=4 then 4 else if x=5 then 5 else if x=9 then 9 else if x=20 then 20 else if x=31 then 36 else if x=37 then 96 else if x=46 then 108 else if x=51 then 148 else if x=53 then 134 else if x=70 then 95 else if x=72 then 98 else if x=75 then 100 else if x=76 then 102 else if x=80 then 105 else if x=109 then 127 else if x=127 then 162 else if x=146 then 181 else if x=148 then 183 else if x=164 then 193 else 0
  g:=fun x=>0
theorem lays156:Lays.n156 Tryz.prog rhoS:=by
  constructor
  all_goals first | kernel_rfl | (intro w;kernel_rfl)
theorem lays105:Lays.n105 Tryz.prog rhoS:=by
  constructor
  all_goals first | kernel_rfl | (intro w;kernel_rfl)
theorem lays240:Lays.n240 Tryz.prog rhoS:=by
  constructor
  all_goals first | kernel_rfl | (intro w;kernel_rfl)
theorem extraB:Builder.Extra Tryz.prog rhoS where
  sizeBuilder:=by kernel_rfl
  liesBuilder:=by kernel_rfl
  t5:=by kernel_rfl
  a5:=by intro w;kernel_rfl
  z5:=by intro w;kernel_rfl
  v5:=by intro w;kernel_rfl
  infoByte:=by kernel_rfl
  cellsByte:=by kernel_rfl
  sizeByte:=by kernel_rfl
  neB5:=by decide
def rhoE:Ren where
  f:=fun x=>if x=17 then 158 else if x=21 then 191 else if x=22 then 192 else if x=23 then 193 else if x=24 then 194 else if x=25 then 218 else if x=26 then 219 else if x=27 then 220 else if x=28 then 238 else if x=29 then 250 else if x=30 then 260 else if x=31 then 261 else if x=32 then 262 else if x=33 then 263 else if x=34 then 264 else if x=35 then 265 else if x=36 then 266 else if x=37 then 267 else if x=38 then 268 else if x=39 then 269 else if x=40 then 270 else 0
  t:=fun x=>if x=0 then 0 else if x=2 then 2 else if x=3 then 3 else if x=4 then 4 else if x=5 then 5 else if x=9 then 9 else if x=20 then 20 else if x=22 then 134 else if x=24 then 100 else if x=34 then 211 else if x=36 then 108 else if x=37 then 96 else if x=39 then 214 else if x=44 then 246 else if x=47 then 162 else if x=48 then 276 else if x=50 then 278 else if x=52 then 294 else if x=55 then 297 else if x=59 then 300 else if x=60 then 148 else if x=61 then 301 else if x=65 then 304 else if x=66 then 305 else if x=67 then 105 else 0
  g:=fun x=>if x=0 then 1 else if x=1 then 2 else if x=2 then 5 else if x=3 then 6 else if x=4 then 7 else 0
theorem lays17:LaysPu.n17 Tryz.prog rhoE:=by
  constructor
  all_goals first | kernel_rfl | (intro w;kernel_rfl)
end Go.Proofs.YtjpfnbihopoeeaaGreatDoor
namespace Go.Proofs.YtjpfnbihopoeeaaGreatDoor
open Go.RowKit Go.Lift
set_option maxRecDepth 1000000
noncomputable def splitPrim(tbl:List (List UInt8×List (List UInt8×Int))):APrim:=fun args h =>
  match args with
  | [.str s] =>
    match tbl.find? (fun x=>x.1 == s)with
    | some x =>
      match x.2 with
      | []=>some (.slice none 0 0,h)
      | _=>some (.slice (some ⟨h.next,0,0,0,2⟩) x.2.length x.2.length,(⟨h.next+1,h.blks⟩:AHeap).set h.next (.made (x.2.map fun c=> .agg [.str c.1,.int .i64 c.2]) 2 false (some (92,0))))
    | none=>none
  | _=>none
theorem flat_cls(φ:Map): ∀ (a:Int) (ss:List CStep),VRels φ (flat ((ss.map fun s=>(s.t,s.w)).map fun c=>AVal.agg [.str c.1,.int .i64 c.2])) (clsV (placesC a ss))
  | _,[]=>by simp [flat,clsV,placesC,VRels]
  | a,s::r=>by
    have ih:=flat_cls φ (wrap64 (a+(s.t.length:Nat))) r
    simp only [flat,List.map_cons,List.flatMap_cons,AVal.cells,placesC,clsV]at ih ⊢
    simp only [List.cons_append,List.nil_append,VRels,VRel]
    exact⟨_,_,rfl,⟨_,rfl,rfl⟩,_,_,rfl,rfl,ih⟩
theorem yesOk:QOk (fun _=>False) yesW:=⟨fun _ _ _ h=>h.elim,fun _ _ _ _ _ _=>trivial⟩
theorem split_ok {C:(Nat→Prop)→World→Prop} {tbl:List (List UInt8×List (List UInt8×Int))} (ht: ∀ x∈tbl,∃ rs ss,TextAt yesW ⟨x.1.toArray⟩ rs ss∧x.2=ss.map fun s=>(s.t,s.w)):PrimOk Tryz.prog C 141 (splitPrim tbl):=by
  intro N0 w0 hN hC args h v h' hg φ w args' hH hB hA
  unfold splitPrim at hg
  split at hg
  · rename_i s
    split at hg
    · rename_i x hx
      have hm:=List.mem_of_find?_eq_some hx
      have hs:x.1=s:=by have:=List.find?_some hx;simpa using this
      obtain⟨rs,ss,hT,he⟩:=ht x hm
      obtain⟨l⟩:=args'
      simp only [VRels,VRel]at hA
      obtain⟨a,t,rfl,⟨u,rfl,rfl⟩,rfl⟩:=hA
      refine⟨⟨Tryz.f141,_,Tryz.func141,rfl⟩,?_⟩
      rw [hs]at hT
      have hu:(⟨u.data.toList.toArray⟩:ByteArray)=u:=by rfl
      rw [hu]at hT
      refine(splitC _ _ yesOk u rs ss hT w trivial).mono ?_
      rintro e w' ⟨hb,v',rfl,hrow,hnil⟩
      have hH':=hH.alike (Alike.below hb)
      have hB':=hB.belowBy hN hb
      cases ss with
      | nil =>
        simp only [List.map_nil]at he
        rw [he]at hg
        simp only [Option.some.injEq,Prod.mk.injEq]at hg
        obtain⟨rfl,rfl⟩:=hg
        exact⟨_,φ,rfl,Keep.refl _ _,by rw [hnil rfl];simp [VRel],hH',hB',Nat.le_refl _⟩
      | cons s0 r0 =>
        rw [he]at hg
        simp only [List.map_cons,Option.some.injEq,Prod.mk.injEq]at hg
        obtain⟨rfl,rfl⟩:=hg
        rcases hrow.2 with ⟨_,h0⟩ | ⟨g,cap,cur,rfl,hbg,hgb,hn,hcap,hsz,htk⟩
        · simp at h0
        · have hid: ∀ v,φ h.next v=none:=fun v=>by
            cases hq:φ h.next v with
            | none=>rfl
            | some p=>have:=(hH.dom _ _ _ hq).1;omega
          have hH2:HRel φ N0 ⟨h.next+1,h.blks⟩ w':=hH'.next (n:=h.next+1) (by omega)
          have hlow: ¬ N0 g:=fun k=>by have:=hN g k;have:=hB.size;omega
          have hne: ∀ i v p,φ i v=some p→p.blk≠g:=fun i v p hp=>by
            obtain⟨_,b,_,_,_,_,_,_,h8⟩:=hH.dom i v p hp
            have:=h8.blk;omega
          have hlen:(((s0::r0).map fun s=>(s.t,s.w)).map fun c=>AVal.agg [.str c.1,.int .i64 c.2]).length=(s0::r0).length:=by simp
          have had:=hH2.adopt (nid:=h.next) (g:=g) hid (by show h.next<h.next+1;omega) hlow hne
            (l:=((s0::r0).map fun s=>(s.t,s.w)).map fun c=>AVal.agg [.str c.1,.int .i64 c.2]) (es:=2) (by decide) (fun e he=>by
              simp only [List.mem_map]at he
              obtain⟨c,_,rfl⟩:=he
              rfl) (c:=cur) (t:=92) (tot:=cap) (ex:=false) hgb
            (by rw [hlen,htk];exact flat_cls φ 0 (s0::r0)) (by omega) (by rw [hlen];exact hn)
            (by rw [hlen,htk];intro x hx;simp only [clsV,List.mem_flatMap]at hx;obtain⟨y,_,hy⟩:=hx;simp at hy;rcases hy with rfl | rfl<;>rfl)
            (ty:=some (92,0)) (fun q hq=>by cases hq;exact⟨rfl,fun h=>absurd rfl h⟩)
          refine⟨_,φ.add h.next 0 ⟨g,0,0,2,cap,false,false⟩,rfl,?_,?_,had,hB',by show h.next≤h.next+1;omega⟩
          · have hx:=Ext.add φ ⟨g,0,0,2,cap,false,false⟩ (hid 0) h.next (id:=h.next) (v:=0)
            exact⟨hx.le,fun i hi hn2=>hx.new i hi (by omega) hn2,hx.ro⟩
          · simp only [VRel,List.length_cons,List.length_map]
            refine⟨_,cap,rfl,Nat.le_refl _,by simpa using hn,.inl ⟨rfl,⟨g,0,0,2,cap,false,false⟩,Map.add_self _ _ _ _,rfl,.inr ⟨Nat.zero_le _,by simp [Place.at],by simp⟩,fun h=>by simp at h⟩⟩
    · cases hg
  · cases hg
def tblT:List (List UInt8×List (List UInt8×Int)):=splitTs.map fun s=>(s,s.map fun b=>([b],1))
theorem tbl_ok: ∀ x∈tblT,∃ rs ss,TextAt yesW ⟨x.1.toArray⟩ rs ss∧x.2=ss.map fun s=>(s.t,s.w):=by
  intro x hx
  simp only [tblT,List.mem_map]at hx
  obtain⟨s,hs,rfl⟩:=hx
  exact⟨_,_,textB_spec (List.all_eq_true.1 split_runs s hs),by simp [lettersC]⟩
structure cnd(N0:Nat→Prop)(w:World):Prop where
  s:N0 1
  syn: ∃ te pe,w.cell? ⟨1,0,none⟩=some (.iface te pe)
theorem cnd.keep {N0 N1:Nat→Prop}{w0 w:World}(h:cnd N0 w0)(hs:Go.Lift.Safe N0 w0 w)(hn: ∀ x,N0 x→N1 x):cnd N1 w where
  s:=hn _ h.s
  syn:=by obtain⟨te,pe,e⟩:=h.syn;exact⟨te,pe,by rw [World.cell?_of_block (hs.block _ h.s)];exact e⟩
noncomputable def errPrim:APrim:=fun args h =>
  match args with
  | [.str f,.str s,.int .i64 _,.int .i64 _,.iface t (.int .i64 2)]=>if t=rhoE.t 34∧s.length≤2^20 then some (.iface (rhoE.t 39) .undef,h)else none
  | _=>none
theorem err_ok:PrimOk Tryz.prog cnd 158 errPrim:=by
  intro N0 w0 hN hC args h v h' hg φ w args' hH hB hA
  unfold errPrim at hg
  split at hg
  · rename_i f s b1 b2 t
    split at hg
    · rename_i hc
      obtain⟨rfl,hl⟩:=hc
      simp only [Option.some.injEq,Prod.mk.injEq]at hg
      obtain⟨rfl,rfl⟩:=hg
      obtain⟨l⟩:=args'
      simp only [VRels,VRel]at hA
      obtain⟨a,t,rfl,⟨u,rfl,rfl⟩,a,t,rfl,⟨u2,rfl,rfl⟩,a,t,rfl,rfl,a,t,rfl,rfl,a,t,rfl,⟨z,rfl,rfl⟩,rfl⟩:=hA
      have hCw:=hC.keep hB fun _ hx=>hx
      obtain⟨te,pe,he⟩:=hCw.syn
      refine⟨⟨Tryz.f158,_,Tryz.func158,rfl⟩,?_⟩
      refine(AnyPu.strconv_toError_syntax lays17 u u2 _ _ _ w (by have:u2.size≤2^20:=(by simpa using hl);omega) he (.inr ⟨te,pe,rfl⟩)).mono ?_
      rintro e w' ⟨n,rfl,_,_,hb⟩
      exact⟨_,φ,rfl,Keep.refl _ _,by simp only [VRel];exact⟨_,rfl,trivial⟩,hH.alike (Alike.below hb),hB.belowBy hN hb,Nat.le_refl _⟩
    · cases hg
  · cases hg
noncomputable def env:AEnv :=
 { cond:=cnd,D:=tyD Tryz.prog,eqs:= [75,76],
   prim:=fun f=>if f=141 then some (splitPrim tblT)else if f=140 then some (memoPrim kindT)else if f=62 then some joinPrim else if f=63 then some repeatPrim else if f=127 then some (checkPrim 98)else if f=158 then some errPrim else none,
   ext:=fun f=>if f=172 then some 0 else if f=229 then some 1 else if f=159 then some 2 else none}
theorem env_ok:EnvOk Tryz.prog env where
  tys:=Tys.ok_self _
  eqs:=eqs_of (by decide+kernel)
  names:=env0_ok.names
  prims:=fun f g h=>by
    simp only [env]at h
    repeat' split at h
    · rename_i e;subst e;simp only [Option.some.injEq]at h;subst h;exact split_ok tbl_ok
    · rename_i e;subst e;simp only [Option.some.injEq]at h;subst h;exact kind_ok _
    · rename_i e;subst e;simp only [Option.some.injEq]at h;subst h;exact join_ok lays156 extraB ⟨Tryz.f62,_,Tryz.func62,rfl⟩
    · rename_i e;subst e;simp only [Option.some.injEq]at h;subst h;exact repeat_ok lays105 extraB ⟨Tryz.f63,_,Tryz.func63,rfl⟩
    · rename_i e;subst e;simp only [Option.some.injEq]at h;subst h;exact check_ok lays240 extraB.toX72 ⟨Tryz.f127,_,Tryz.func127,rfl⟩
    · rename_i e;subst e;simp only [Option.some.injEq]at h;subst h;exact err_ok
    · cases h
  exts:=fun f k h=>by
    simp only [env]at h
    repeat' split at h
    · rename_i e;subst e;simp only [Option.some.injEq]at h;subst h
      exact⟨Tryz.f172,_,by kernel_rfl,by kernel_rfl,by kernel_rfl,by kernel_rfl,rfl⟩
    · rename_i e;subst e;simp only [Option.some.injEq]at h;subst h
      exact⟨Tryz.f229,_,by kernel_rfl,by kernel_rfl,by kernel_rfl,by kernel_rfl,rfl⟩
    · rename_i e;subst e;simp only [Option.some.injEq]at h;subst h
      exact⟨Tryz.f159,_,by kernel_rfl,by kernel_rfl,by kernel_rfl,by kernel_rfl,rfl⟩
    · cases h
end Go.Proofs.YtjpfnbihopoeeaaGreatDoor
namespace Go.Lift
noncomputable section
open Go.RowKit
def AAddr.ren(r:Nat→Nat)(a:AAddr):AAddr:= {a with id:=r a.id}
mutual
def AVal.ren(r:Nat→Nat):AVal→AVal
  | .ptr (some a)=> .ptr (some (a.ren r))
  | .slice (some a) n c=> .slice (some (a.ren r)) n c
  | .func fn f c=> .func fn (AVal.rens r f) (AVal.rens r c)
  | .iface t v=> .iface t (AVal.ren r v)
  | .agg cs=> .agg (AVal.rens r cs)
  | .tuple vs=> .tuple (AVal.rens r vs)
  | .undef=> .undef
  | .bool b=> .bool b
  | .int k n=> .int k n
  | .str s=> .str s
  | .ptr none=> .ptr none
  | .slice none n c=> .slice none n c
  | .nilFunc=> .nilFunc
  | .nilIface=> .nilIface
def AVal.rens(r:Nat→Nat):List AVal→List AVal
  | []=> []
  | a::l=>AVal.ren r a::AVal.rens r l
end
theorem AVal.rens_map(r:Nat→Nat): ∀ (l:List AVal),AVal.rens r l=l.map (AVal.ren r)
  | []=>rfl
  | a::l=>by simp [AVal.rens,AVal.rens_map r l]
mutual
def Clo(D:Nat→Prop):AVal→Prop
  | .ptr (some a)=>D a.id
  | .slice (some a) _ _=>D a.id
  | .func _ f c=>Clos D f∧Clos D c
  | .iface _ v=>Clo D v
  | .agg cs=>Clos D cs
  | .tuple vs=>Clos D vs
  | .undef=>True
  | .bool _=>True
  | .int _ _=>True
  | .str _=>True
  | .ptr none=>True
  | .slice none _ _=>True
  | .nilFunc=>True
  | .nilIface=>True
def Clos(D:Nat→Prop):List AVal→Prop
  | []=>True
  | a::l=>Clo D a∧Clos D l
end
theorem Clos_iff {D:Nat→Prop} : ∀ {l:List AVal},Clos D l↔ ∀ a∈l,Clo D a
  | []=>by simp [Clos]
  | a::l=>by simp [Clos,Clos_iff (l:=l)]
mutual
theorem VRel.ren {φ ψ:Map}{r:Nat→Nat}(h: ∀ i v p,φ i v=some p→ψ (r i) v=some p): ∀ {a:AVal} {v:Value},VRel φ a v→VRel ψ (a.ren r) v
  | .undef,_,_=>by simp [VRel,AVal.ren]
  | .bool b,v,k=>by simpa [VRel,AVal.ren]using k
  | .int _ n,v,k=>by simpa [VRel,AVal.ren]using k
  | .str s,v,k=>by simpa [VRel,AVal.ren]using k
  | .ptr none,v,k=>by simpa [VRel,AVal.ren]using k
  | .ptr (some a),v,k=>by
    simp only [VRel,AVal.ren]at k ⊢
    obtain⟨x,e,p,hp,q⟩:=k
    exact⟨x,e,p,h _ _ _ hp,q⟩
  | .slice none len cap,v,k=>by simpa [VRel,AVal.ren]using k
  | .slice (some a) len cap,v,k=>by
    simp only [VRel,AVal.ren]at k ⊢
    obtain⟨x,c,e,l1,l2,q⟩:=k
    refine⟨x,c,e,l1,l2,?_⟩
    rcases q with ⟨hf,p,hp,q⟩ | ⟨f,hf,p,hp,q⟩
    · exact .inl ⟨hf,p,h _ _ _ hp,q⟩
    · exact .inr ⟨f,hf,p,h _ _ _ hp,q⟩
  | .func fn f c,v,k=>by
    simp only [VRel,AVal.ren]at k ⊢
    obtain⟨f',c',e,r1,r2⟩:=k
    exact⟨f',c',e,VRels.ren h r1,VRels.ren h r2⟩
  | .nilFunc,v,k=>by simpa [VRel,AVal.ren]using k
  | .iface t a,v,k=>by
    simp only [VRel,AVal.ren]at k ⊢
    obtain⟨x,e,q⟩:=k
    exact⟨x,e,VRel.ren h q⟩
  | .nilIface,v,k=>by simpa [VRel,AVal.ren]using k
  | .agg cs,v,k=>by
    simp only [VRel,AVal.ren]at k ⊢
    obtain⟨x,e,q⟩:=k
    exact⟨x,e,VRels.ren h q⟩
  | .tuple cs,v,k=>by
    simp only [VRel,AVal.ren]at k ⊢
    obtain⟨x,e,q⟩:=k
    exact⟨x,e,VRels.ren h q⟩
theorem VRels.ren {φ ψ:Map}{r:Nat→Nat}(h: ∀ i v p,φ i v=some p→ψ (r i) v=some p): ∀ {l:List AVal} {t:List Value},VRels φ l t→VRels ψ (AVal.rens r l) t
  | [],t,k=>by simpa [VRels,AVal.rens]using k
  | a::l,t,k=>by
    simp only [VRels,AVal.rens]at k ⊢
    obtain⟨v,t',e,k1,k2⟩:=k
    exact⟨v,t',e,VRel.ren h k1,VRels.ren h k2⟩
end
mutual
theorem VRel.unren {φ ψ:Map}{r:Nat→Nat}{D:Nat→Prop}(h: ∀ i,D i→ ∀ v p,ψ (r i) v=some p→φ i v=some p): ∀ {a:AVal} {v:Value},Clo D a→VRel ψ (a.ren r) v→VRel φ a v
  | .undef,_,_,_=>by simp [VRel]
  | .bool b,v,_,k=>by simpa [VRel,AVal.ren]using k
  | .int _ n,v,_,k=>by simpa [VRel,AVal.ren]using k
  | .str s,v,_,k=>by simpa [VRel,AVal.ren]using k
  | .ptr none,v,_,k=>by simpa [VRel,AVal.ren]using k
  | .ptr (some a),v,c,k=>by
    simp only [VRel,AVal.ren,Clo]at k c ⊢
    obtain⟨x,e,p,hp,q⟩:=k
    exact⟨x,e,p,h _ c _ _ hp,q⟩
  | .slice none len cap,v,_,k=>by simpa [VRel,AVal.ren]using k
  | .slice (some a) len cap,v,cl,k=>by
    simp only [VRel,AVal.ren,Clo]at k cl ⊢
    obtain⟨x,c,e,l1,l2,q⟩:=k
    refine⟨x,c,e,l1,l2,?_⟩
    rcases q with ⟨hf,p,hp,q⟩ | ⟨f,hf,p,hp,q⟩
    · exact .inl ⟨hf,p,h _ cl _ _ hp,q⟩
    · exact .inr ⟨f,hf,p,h _ cl _ _ hp,q⟩
  | .func fn f c,v,cl,k=>by
    simp only [VRel,AVal.ren,Clo]at k cl ⊢
    obtain⟨f',c',e,r1,r2⟩:=k
    exact⟨f',c',e,VRels.unren h cl.1 r1,VRels.unren h cl.2 r2⟩
  | .nilFunc,v,_,k=>by simpa [VRel,AVal.ren]using k
  | .iface t a,v,cl,k=>by
    simp only [VRel,AVal.ren,Clo]at k cl ⊢
    obtain⟨x,e,q⟩:=k
    exact⟨x,e,VRel.unren h cl q⟩
  | .nilIface,v,_,k=>by simpa [VRel,AVal.ren]using k
  | .agg cs,v,cl,k=>by
    simp only [VRel,AVal.ren,Clo]at k cl ⊢
    obtain⟨x,e,q⟩:=k
    exact⟨x,e,VRels.unren h cl q⟩
  | .tuple cs,v,cl,k=>by
    simp only [VRel,AVal.ren,Clo]at k cl ⊢
    obtain⟨x,e,q⟩:=k
    exact⟨x,e,VRels.unren h cl q⟩
theorem VRels.unren {φ ψ:Map}{r:Nat→Nat}{D:Nat→Prop}(h: ∀ i,D i→ ∀ v p,ψ (r i) v=some p→φ i v=some p): ∀ {l:List AVal} {t:List Value},Clos D l→VRels ψ (AVal.rens r l) t→VRels φ l t
  | [],t,_,k=>by simpa [VRels,AVal.rens]using k
  | a::l,t,c,k=>by
    simp only [VRels,AVal.rens,Clos]at k c ⊢
    obtain⟨v,t',e,k1,k2⟩:=k
    exact⟨v,t',e,VRel.unren h c.1 k1,VRels.unren h c.2 k2⟩
end
def ABlk.ren(r:Nat→Nat)(b:ABlk):ABlk:= {b with elems:=b.elems.map (AVal.ren r)}
theorem ABlk.lim_ren(r:Nat→Nat)(b:ABlk)(v:Nat):(b.ren r).lim v=b.lim v:=by
  show(if v=b.ver then(b.elems.map (AVal.ren r)).length else if b.minVer≤v∧v<b.ver then b.forkLen else 0)=b.lim v
  rw [List.length_map];rfl
theorem AVal.cells_ren(r:Nat→Nat)(e:AVal):(e.ren r).cells=e.cells.map (AVal.ren r):=by
  cases e with
  | ptr o=>cases o<;>simp [AVal.ren,AVal.cells]
  | slice o n c=>cases o<;>simp [AVal.ren,AVal.cells]
  | agg l=>simp [AVal.ren,AVal.cells,AVal.rens_map]
  | _=>simp [AVal.ren,AVal.cells]
theorem Row.ren {φ ψ:Map}{r:Nat→Nat}(h: ∀ i v p,φ i v=some p→ψ (r i) v=some p){S T:Nat→Prop}{b:ABlk}{v:Nat}{p:Place}{w:World}(k:Row φ S b v p w)(hT:p.ro=false→ ¬ T p.blk):Row ψ T (b.ren r) v p w where
  blk:=k.blk
  base:=hT
  cells:=k.cells
  free:=k.free
  mark:=k.mark
  shp:=k.shp
  cont i e h1 h2 h3:=by
    rw [ABlk.lim_ren]at h2
    simp only [ABlk.ren,List.getElem?_map,Option.map_eq_some_iff]at h3
    obtain⟨e0,h3,rfl⟩:=h3
    obtain⟨k1,k2,k3⟩:=k.cont i e0 h1 h2 h3
    refine⟨by rw [AVal.cells_ren,List.length_map];exact k1,k2,fun j x' hx=> ?_⟩
    rw [AVal.cells_ren,List.getElem?_map,Option.map_eq_some_iff]at hx
    obtain⟨x0,hx,rfl⟩:=hx
    obtain⟨x,g1,g2,g3⟩:=k3 j x0 hx
    exact⟨x,g1,VRel.ren h g2,g3⟩
theorem Clo.cells {D:Nat→Prop}{e:AVal}(h:Clo D e): ∀ x∈e.cells,Clo D x:=by
  intro x hx
  cases e with
  | agg l=>simp only [Clo]at h;exact Clos_iff.1 h x (by simpa [AVal.cells]using hx)
  | ptr o=>cases o<;>(simp only [AVal.cells,List.mem_singleton]at hx;subst hx;exact h)
  | slice o n c=>cases o<;>(simp only [AVal.cells,List.mem_singleton]at hx;subst hx;exact h)
  | _=>simp only [AVal.cells,List.mem_singleton]at hx;subst hx;exact h
theorem Row.unren {φ ψ:Map}{r:Nat→Nat}{D:Nat→Prop}(h: ∀ i,D i→ ∀ v p,ψ (r i) v=some p→φ i v=some p){S T:Nat→Prop}{b:ABlk}{v:Nat}{p:Place}{w:World}(hc: ∀ e∈b.elems,Clo D e)(k:Row ψ S (b.ren r) v p w)
    (hT:p.ro=false→ ¬ T p.blk):Row φ T b v p w where
  blk:=k.blk
  base:=hT
  cells:=k.cells
  free:=k.free
  mark:=k.mark
  shp:=k.shp
  cont i e h1 h2 h3:=by
    have h3':(b.ren r).elems[i]? =some (e.ren r):=by simp [ABlk.ren,h3]
    obtain⟨k1,k2,k3⟩:=k.cont i (e.ren r) h1 (by rw [ABlk.lim_ren];exact h2) h3'
    rw [AVal.cells_ren,List.length_map]at k1
    refine⟨k1,k2,fun j x' hx=> ?_⟩
    obtain⟨x,g1,g2,g3⟩:=k3 j (x'.ren r) (by rw [AVal.cells_ren,List.getElem?_map,hx];rfl)
    exact⟨x,g1,VRel.unren h ((hc e (List.mem_of_getElem? h3)).cells x' (List.mem_of_getElem? hx)) g2,g3⟩
theorem Row.at {φ ψ:Map}(h:φ.le ψ){S:Nat→Prop}{b:ABlk}{v:Nat}{p:Place}{w w':World}(k:Row φ S b v p w)(hs:w.heap.size≤w'.heap.size)(hb:w'.heap[p.blk]? =w.heap[p.blk]?):Row ψ S b v p w' where
  blk:=Nat.lt_of_lt_of_le k.blk hs
  base:=k.base
  cells o ho:=by
    have:=k.cells o ho
    simp only [World.cell?,hb]at this ⊢; exact this
  free hr o ho:=by
    have:=k.free hr o ho
    simp only [World.frozen?,hb]at this ⊢; exact this
  mark hr:=(k.mark hr).of_eq (markOf_of hb)
  shp t ht:=by rw [markOf_of hb];exact k.shp t ht
  cont i e h1 h2 h3:=by
    obtain⟨k1,k2,k3⟩:=k.cont i e h1 h2 h3
    refine⟨k1,k2,fun j x' hx=> ?_⟩
    obtain⟨x,g1,g2,g3⟩:=k3 j x' hx
    refine⟨x,?_,VRel.mono h g2,g3⟩
    simp only [World.cell?,Place.at,hb]at g1 ⊢; exact g1
def In(h:AHeap)(i:Nat):Prop:=(h.get i).isSome=true
structure Within(r:Nat→Nat)(h H:AHeap):Prop where
  get: ∀ i b,h.get i=some b→i<h.next∧H.get (r i)=some (b.ren r)
  inj: ∀ i j,In h i→In h j→r i=r j→i=j
  clo: ∀ i b,h.get i=some b→ ∀ e∈b.elems,Clo (In h) e
open Classical in
def pull(ψ:Map)(r:Nat→Nat)(h:AHeap):Map:=fun i v=>if In h i then ψ (r i) v else none
theorem pull_some {ψ:Map}{r:Nat→Nat}{h:AHeap}{i v:Nat}{p:Place}(k:pull ψ r h i v=some p):In h i∧ψ (r i) v=some p:=by
  unfold pull at k
  split at k
  · rename_i hi;exact⟨hi,k⟩
  · cases k
theorem pull_of {ψ:Map}{r:Nat→Nat}{h:AHeap}{i v:Nat}(hi:In h i):pull ψ r h i v=ψ (r i) v:=by unfold pull;rw [if_pos hi]
theorem HRel.pull {ψ:Map}{S T:Nat→Prop}{H h:AHeap}{w:World}{r:Nat→Nat}(k:HRel ψ S H w)(hw:Within r h H)(hT: ∀ i v p,pull ψ r h i v=some p→p.ro=false→ ¬ T p.blk):HRel (pull ψ r h) T h w where
  dom i v p hp:=by
    obtain⟨hi,hq⟩:=pull_some hp
    obtain⟨b,hb⟩:=Option.isSome_iff_exists.1 hi
    obtain⟨h1,h2⟩:=hw.get i b hb
    obtain⟨k1,B,k2,k3,k4,k5,k6,k7,k8⟩:=k.dom _ _ _ hq
    rw [h2]at k2;simp only [Option.some.injEq]at k2;subst k2
    exact⟨h1,b,hb,k3,k4,k5,k6,k7,k8.unren (fun i hi v p hp=>by rw [pull_of hi];exact hp) (hw.clo i b hb) (hT i v p hp)⟩
  apart i v p j u q hp hq hb hne:=by
    obtain⟨hi,hp'⟩:=pull_some hp
    obtain⟨hj,hq'⟩:=pull_some hq
    exact k.apart _ _ _ _ _ _ hp' hq' hb fun e=>hne (hw.inj i j hi hj e)
  same i v p u q hp hq hb:=by
    obtain⟨hi,hp'⟩:=pull_some hp
    obtain⟨_,hq'⟩:=pull_some hq
    exact k.same _ _ _ _ _ hp' hq' hb
class CondOk (C:(Nat→Prop)→World→Prop):Prop where
  mono: ∀ {N0 N1:Nat→Prop} {w0 w:World},Low N0 w0.heap.size→C N0 w0→Safe N0 w0 w→(∀ x,N0 x→N1 x)→C N1 w
def FDoes (P:Program) (C:(Nat→Prop)→World→Prop) (f:FuncId) (args:List AVal) (h:AHeap) (v:AVal) (h':AHeap):Prop :=
  ∀ (N0:Nat→Prop) (w0:World),Low N0 w0.heap.size→C N0 w0→ ∀ (φ:Map) (w:World) (args':Array Value),HRel φ N0 h w→Safe N0 w0 w→VRels φ args args'.toList →
    (∃ fn c,P.funcs[f]? =some fn∧fn.body=some c) ∧
    Calls P f args' w fun e w'=> ∃ v' φ',e= .returned v'∧Keep φ φ' h.next∧VRel φ' v v'∧HRel φ' N0 h' w'∧Safe N0 w0 w'∧h.next≤h'.next
theorem FDoes.of_acall {P:Program}{E:AEnv}(hE:EnvOk P E)(hmix:P.follows .mixedOrders=true){n:Nat}{f:FuncId}{args:List AVal}{h h':AHeap}{v:AVal}(hc:acall P E n f args h=some (v,h')):FDoes P E.cond f args h v h' :=
  fun N0 w0 hN hC φ w args' hH hB hA=>acall_sound hE hN hC hmix n f args h v h' hc φ w args' hH hB hA
open Classical in
def push(ψ φ':Map)(r:Nat→Nat):Map:=fun j u=>if k: ∃ i p,r i=j∧φ' i u=some p then φ' k.choose u else ψ j u
theorem FDoes.frame {P:Program} {C:(Nat→Prop)→World→Prop} [hCo:CondOk C] {f:FuncId} {args:List AVal} {h h':AHeap} {v:AVal} (k:FDoes P C f args h v h') {r:Nat→Nat} {H H':AHeap} (hw:Within r h H) (hargs:Clos (In h) args)
    (hnew: ∀ i,h.next≤i→r i=H.next+(i-h.next)) (hget: ∀ i b,h'.get i=some b→(In h i∨h.next≤i)→H'.get (r i)=some (b.ren r)) (hnext:H'.next=H.next+(h'.next-h.next))
    (hout: ∀ j,j<H.next→(∀ i,In h i→r i≠j)→H'.get j=H.get j):FDoes P C f (args.map (AVal.ren r)) H (v.ren r) H':=by
  intro S w0 hS hCw ψ w args' hH hsafe hA
  let φ:=pull ψ r h
  let S1:Nat→Prop:=fun x=>S x∨(x<w.heap.size∧ ∀ i v p,φ i v=some p→p.ro=false→p.blk≠x)
  have hlow:Low S1 w.heap.size:=by
    rintro x (hx | hx)
    · exact Nat.lt_of_lt_of_le (hS x hx) hsafe.size
    · exact hx.1
  have hbase: ∀ i v p,φ i v=some p→p.ro=false→ ¬ S1 p.blk:=by
    rintro i v p hp hro (hx | hx)
    · obtain⟨_,hq⟩:=pull_some hp
      obtain⟨_,B,_,_,_,_,_,_,hrow⟩:=hH.dom _ _ _ hq
      exact hrow.base hro hx
    · exact hx.2 i v p hp hro rfl
  have hφ:HRel φ S1 h w:=hH.pull hw hbase
  have hA':VRels φ args args'.toList:=by
    rw [← AVal.rens_map]at hA
    exact VRels.unren (fun i hi v p hp=>by show pull ψ r h i v=some p;rw [pull_of hi];exact hp) hargs hA
  obtain⟨hb,hc⟩:=k S1 w hlow (hCo.mono hS hCw hsafe fun x hx=> .inl hx) φ w args' hφ (Safe.refl _ _) hA'
  refine⟨hb,hc.mono fun e w' ⟨v',φ',he,kp,hv,hr,hs,hn⟩=> ?_⟩
  have from': ∀ i u p,φ' i u=some p→(In h i∧r i<H.next)∨h.next≤i:=by
    intro i u p hp
    by_cases hi:i<h.next
    · by_cases hin:In h i
      · left
        refine⟨hin,?_⟩
        by_cases hex: ∃ u0 p0,φ i u0=some p0
        · obtain⟨u0,p0,h0⟩:=hex
          exact(hH.dom _ _ _ (pull_some h0).2).1
        · have:=kp.new i hi (fun u=>by
            cases hq:φ i u with
            | none=>rfl
            | some q=>exact absurd ⟨u,q,hq⟩ hex) u
          rw [this]at hp;cases hp
      · have:=kp.new i hi (fun u=>by show pull ψ r h i u=none;unfold Lift.pull;rw [if_neg hin]) u
        rw [this]at hp;cases hp
    · exact .inr (by omega)
  have uniq: ∀ i j u t p q,φ' i u=some p→φ' j t=some q→r i=r j→i=j:=by
    intro i j u t p q hp hq e
    rcases from' i u p hp with ⟨hi,li⟩ | hi<;>rcases from' j t q hq with ⟨hj,lj⟩ | hj
    · exact hw.inj i j hi hj e
    · rw [hnew j hj]at e;omega
    · rw [hnew i hi]at e;omega
    · rw [hnew i hi,hnew j hj]at e;omega
  have q1: ∀ i u p,φ' i u=some p→push ψ φ' r (r i) u=some p:=by
    intro i u p hp
    have hex: ∃ i' p',r i'=r i∧φ' i' u=some p':=⟨i,p,rfl,hp⟩
    unfold push
    rw [dif_pos hex]
    obtain⟨p',e1,e2⟩:=hex.choose_spec
    rw [uniq _ _ _ _ _ _ e2 hp e1];exact hp
  have q2: ∀ j u,(¬ ∃ i p,r i=j∧φ' i u=some p)→push ψ φ' r j u=ψ j u:=by
    intro j u hex;unfold push;rw [dif_neg hex]
  have q3: ∀ j u p,ψ j u=some p→(¬ ∃ i p,r i=j∧φ' i u=some p)→ ∀ i,In h i→r i≠j:=by
    intro j u p hp hex i hi e
    subst e
    have h1:φ i u=some p:=by show pull ψ r h i u=some p;rw [pull_of hi];exact hp
    exact hex ⟨i,p,rfl,kp.le _ _ _ h1⟩
  have q4:(ψ:Map).le (push ψ φ' r):=by
    intro j u p hp
    by_cases hex: ∃ i p,r i=j∧φ' i u=some p
    · obtain⟨i,q,rfl,hq⟩:=hex
      rw [q1 i u q hq]
      rcases from' i u q hq with ⟨hi,li⟩ | hi
      · have h1:φ i u=some p:=by show pull ψ r h i u=some p;rw [pull_of hi];exact hp
        rw [kp.le _ _ _ h1]at hq;exact hq.symm
      · have:=(hH.dom _ _ _ hp).1
        rw [hnew i hi]at this;omega
    · rw [q2 j u hex];exact hp
  have away: ∀ j u p,ψ j u=some p→(∀ i,In h i→r i≠j)→S1 p.blk:=by
    intro j u p hp hne
    obtain⟨_,B,_,_,_,_,_,_,hrow⟩:=hH.dom _ _ _ hp
    refine .inr ⟨hrow.blk,fun i v q hq hro e=> ?_⟩
    obtain⟨hi,hq'⟩:=pull_some hq
    have:=(hH.apart _ _ _ _ _ _ hq' hp e (hne i hi)).1
    rw [hro]at this;cases this
  refine⟨v',push ψ φ' r,he,⟨q4,?_,?_⟩,VRel.ren q1 hv,⟨?_,?_,?_⟩,hsafe.trans (hs.less fun i hi=> .inl hi),by omega⟩
  · intro j hj hnone u
    by_cases hex: ∃ i p,r i=j∧φ' i u=some p
    · obtain⟨i,q,rfl,hq⟩:=hex
      rcases from' i u q hq with ⟨hi,li⟩ | hi
      · have hil:i<h.next:=by
          obtain⟨b,hb⟩:=Option.isSome_iff_exists.1 hi
          exact(hw.get i b hb).1
        have:=kp.new i hil (fun u=>by show pull ψ r h i u=none;rw [pull_of hi];exact hnone u) u
        rw [this]at hq;cases hq
      · rw [hnew i hi]at hj;omega
    · rw [q2 j u hex];exact hnone u
  · intro j u p hp hro
    by_cases hex: ∃ i p,r i=j∧φ' i u=some p
    · obtain⟨i,q,rfl,hq⟩:=hex
      rw [q1 i u q hq]at hp
      simp only [Option.some.injEq]at hp;subst hp
      exact(pull_some (kp.ro i u q hq hro)).2
    · rw [q2 j u hex]at hp;exact hp
  · intro j u p hp
    by_cases hex: ∃ i p,r i=j∧φ' i u=some p
    · obtain⟨i,q,rfl,hq⟩:=hex
      rw [q1 i u q hq]at hp
      simp only [Option.some.injEq]at hp;subst hp
      obtain⟨d1,b,d2,d3,d4,d5,d6,d7,d8⟩:=hr.dom _ _ _ hq
      have hio:In h i∨h.next≤i:=by
        rcases from' i u q hq with ⟨hi,_⟩ | hi
        · exact .inl hi
        · exact .inr hi
      refine⟨?_,b.ren r,hget i b d2 hio,d3,d4,d5,d6,d7,d8.ren q1 fun hro hx=>d8.base hro (.inl hx)⟩
      rcases from' i u q hq with ⟨_,li⟩ | hi
      · omega
      · rw [hnew i hi,hnext];omega
    · rw [q2 j u hex]at hp
      obtain⟨d1,B,d2,d3,d4,d5,d6,d7,d8⟩:=hH.dom _ _ _ hp
      have hne:=q3 j u p hp hex
      exact⟨by omega,B,by rw [hout j d1 hne];exact d2,d3,d4,d5,d6,d7,d8.at q4 hs.size (hs.block _ (away j u p hp hne))⟩
  · have mixed: ∀ i u p j t q,φ' i u=some p→ψ j t=some q→(∀ i,In h i→r i≠j)→p.blk=q.blk→p.ro=true∧q.ro=true:=by
      intro i u p j t q hp hq hne hb
      have hx:=away j t q hq hne
      by_cases hro:p.ro=true
      · obtain⟨hi,hp'⟩:=pull_some (kp.ro i u p hp hro)
        exact hH.apart _ _ _ _ _ _ hp' hq hb (hne i hi)
      · obtain⟨_,b,_,_,_,_,_,_,d8⟩:=hr.dom _ _ _ hp
        exact absurd (hb▸hx) (d8.base (by simpa using hro))
    intro i u p j t q hp hq hb hne
    by_cases hex: ∃ i' p,r i'=i∧φ' i' u=some p<;>by_cases hey: ∃ i' p,r i'=j∧φ' i' t=some p
    · obtain⟨i',p',rfl,hp'⟩:=hex
      obtain⟨j',q',rfl,hq'⟩:=hey
      rw [q1 _ _ _ hp']at hp;rw [q1 _ _ _ hq']at hq
      simp only [Option.some.injEq]at hp hq;subst hp;subst hq
      exact hr.apart _ _ _ _ _ _ hp' hq' hb fun e=>hne (by rw [e])
    · obtain⟨i',p',rfl,hp'⟩:=hex
      rw [q1 _ _ _ hp']at hp;rw [q2 _ _ hey]at hq
      simp only [Option.some.injEq]at hp;subst hp
      exact mixed _ _ _ _ _ _ hp' hq (q3 j t q hq hey) hb
    · obtain⟨j',q',rfl,hq'⟩:=hey
      rw [q2 _ _ hex]at hp;rw [q1 _ _ _ hq']at hq
      simp only [Option.some.injEq]at hq;subst hq
      exact(mixed _ _ _ _ _ _ hq' hp (q3 i u p hp hex) hb.symm).symm
    · rw [q2 _ _ hex]at hp;rw [q2 _ _ hey]at hq
      exact hH.apart _ _ _ _ _ _ hp hq hb hne
  · intro i u p t q hp hq hb
    have both: ∀ i' p',r i'=i→ ∀ u',φ' i' u'=some p'→ ∀ t q,push ψ φ' r i t=some q→φ' i' t=some q:=by
      intro i' p' e u' hp' t q hq
      by_cases hey: ∃ j' p,r j'=i∧φ' j' t=some p
      · obtain⟨j',q',e2,hq'⟩:=hey
        have:=uniq i' j' _ _ _ _ hp' hq' (by rw [e,e2])
        subst this
        rw [← e2,q1 _ _ _ hq']at hq;rw [hq'];exact hq
      · rw [q2 _ _ hey]at hq
        rcases from' i' u' p' hp' with ⟨hi,_⟩ | hi
        · exact absurd e (q3 i t q hq hey i' hi)
        · have:=(hH.dom _ _ _ hq).1
          rw [← e,hnew i' hi]at this;omega
    by_cases hex: ∃ i' p,r i'=i∧φ' i' u=some p
    · obtain⟨i',p',e,hp'⟩:=hex
      exact hr.same i' _ _ _ _ (both i' p' e u hp' u p hp) (both i' p' e u hp' t q hq) hb
    · by_cases hey: ∃ i' p,r i'=i∧φ' i' t=some p
      · obtain⟨i',p',e,hp'⟩:=hey
        exact hr.same i' _ _ _ _ (both i' p' e t hp' u p hp) (both i' p' e t hp' t q hq) hb
      · rw [q2 _ _ hex]at hp;rw [q2 _ _ hey]at hq
        exact hH.same _ _ _ _ _ hp hq hb
end
end Go.Lift
