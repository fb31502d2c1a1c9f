/-
  Parts of the proof of KeysName.
-/
import Derived.Calls
import Derived.Orders
import Derived.Lib.Bytealg
import Derived.Below
import Derived.Deep.MidRow
import Derived.WalkKit
import Derived.ChangeKeysEq
import Derived.WalkLawsBesides
import Derived.Deep.AppendSrc
import Derived.Deep.Upon
import Derived.Lib.UnsafeStr
set_option linter.unusedVariables false
set_option linter.defProp false
set_option linter.unusedSimpArgs false
variable {p:Prop}
def A(h : p := by omega) : p := h
def ao(h : p := by kernel_rfl) : p := h
def au(h : p := by simp) : p := h
def aC(h : p := by decide) : p := h
namespace Go
abbrev o2:=@of_decide_eq_true
abbrev ea:=@List.all_eq_true
abbrev az:=@if_pos
abbrev ai:=@if_neg
abbrev dR:=@List.mem_cons
abbrev ia:=@List.not_mem_nil
abbrev hh:=@or_false
abbrev iZ:=@Nat.eq_of_beq_eq_true
abbrev o3:=@Nat.mul_one
abbrev cC:=@Bool.and_eq_true
abbrev eC:=@Bool.or_eq_true
abbrev gV:=@Bool.not_eq_true'
abbrev o4:=@decide_eq_false_iff_not
abbrev hB:=@List.cons_append
abbrev e4:=@List.getElem?_eq_some_iff
abbrev sh:=@List.getElem?_set_self
abbrev qo:=@List.getElem?_set_ne
abbrev lx:=@List.getElem?_drop
abbrev ke:=@List.getElem?_take
abbrev ei:=@List.map_cons
abbrev ds:=@List.getElem?_eq_getElem
abbrev hC:=@List.getD_eq_getElem?_getD
abbrev ib:=@List.getElem?_eq_none
abbrev kf:=@Nat.lt_of_lt_of_le
abbrev si:=@Array.getElem?_push
abbrev a8:=@Option.some.injEq
abbrev kP:=@List.flatMap_cons
abbrev gw:=@Nat.zero_add
abbrev mq:=@List.getElem?_append_left
abbrev o5:=@List.getElem?_append_right
abbrev qp:=@Nat.succ_mul
abbrev dt:=@List.length_append
abbrev bK:=@List.length_cons
abbrev kg:=@Array.getElem?_eq_getElem
abbrev gx:=@List.mem_of_getElem?
abbrev o6:=@Nat.sub_zero
abbrev cq:=@List.length_nil
abbrev qq:=@Nat.add_zero
abbrev dG:=@if_true
abbrev eE:=@Option.map_some
abbrev o7:=@Nat.mul_le_mul_right
abbrev gK:=@Nat.lt_or_ge
abbrev gk:=@List.length_pos_iff
abbrev jy:=@Nat.add_mul
abbrev hi:=@List.mem_append
abbrev eF:=@List.length_drop
abbrev fy:=@Array.length_toList
abbrev hS:=@List.map_nil
abbrev dm:=@congrArg
abbrev qs:=@List.drop_drop
abbrev ey:=@Bool.false_eq_true
abbrev ez:=@if_false
abbrev sj:=@List.range'_succ
abbrev jz:=@Option.isNone_some
abbrev jA:=@Option.isNone_none
abbrev sk:=@List.range_eq_range'
abbrev cb:=@Option.map_eq_some_iff
abbrev hD:=@List.getElem?_map
abbrev qt:=@Nat.add_assoc
abbrev ly:=@List.mem_iff_getElem
abbrev ic:=@List.getElem_mem
abbrev jB:=@beq_iff_eq
abbrev nE:=@List.take_of_length_le
abbrev sl:=@List.mem_of_mem_take
abbrev hT:=@List.foldl_cons
abbrev eP:=@decide_eq_true_eq
abbrev u7:=@Array.toList_map
abbrev o8:=@List.map_map
abbrev dV:=@List.mem_map
abbrev nF:=@Option.isSome_iff_exists
abbrev qu:=@List.eq_of_mem_replicate
abbrev so:=@Nat.mod_eq_of_lt
abbrev u9:=@List.getElem?_range
abbrev yM:=@List.mem_or_eq_of_mem_set
abbrev o9:=@List.ext_getElem?
abbrev iE:=@List.all_cons
abbrev iF:=@List.length_map
abbrev mr:=@Array.toList_append
abbrev bC:=@Prod.mk.injEq
abbrev u':=@List.length_eq_zero_iff
abbrev eQ:=@List.nil_append
abbrev fJ:=@List.cons.injEq
abbrev qv:=@UInt8.toNat_ofNat'
abbrev nG:=@Option.isSome_none
abbrev o':=@Array.getElem?_eq_none
abbrev lz:=@List.drop_zero
abbrev iG:=@Array.getD_eq_getD_getElem?
abbrev qw:=@Option.bind_some
abbrev qx:=@List.nodup_cons
abbrev i':=@List.map_congr_left
abbrev er:=@List.mem_range
abbrev cF:=@List.mem_singleton
abbrev va:=@List.any_eq_true
abbrev sp:=@Bool.false_or
abbrev ms:=@List.mem_filter
abbrev pa:=@Option.getD_some
abbrev vb:=@List.Pairwise.filter
abbrev vc:=@List.nodup_range
abbrev yN:=@Array.getElem?_setIfInBounds
abbrev qy:=@List.nodup_append
abbrev kQ:=@List.mem_cons_self
abbrev fz:=@UInt8.toNat_inj
abbrev eG:=@Nat.blt_eq
abbrev qz:=@Option.map_none
abbrev hj:=@List.getElem?_cons_succ
abbrev ie:=@decide_eq_false
abbrev pb:=@List.map_id
abbrev kh:=@List.mem_cons_of_mem
abbrev hU:=@Nat.le_of_ble_eq_true
abbrev sq:=@List.getElem_inj
abbrev lA:=@Ne.symm
abbrev fR:=@List.getElem?_cons_zero
abbrev sr:=@List.nodup_iff_pairwise_ne
abbrev qA:=@List.length_singleton
abbrev nH:=@List.map_append
abbrev pc:=@List.eq_nil_of_length_eq_zero
abbrev ja:=@Int.toNat_of_nonneg
abbrev jb:=@List.append_assoc
abbrev hE:=@and_true
abbrev kR:=@List.nodup_nil
abbrev kS:=@Int.eq_ofNat_of_zero_le
abbrev fS:=@Int.toNat_natCast
abbrev vd:=@List.drop_eq_nil_iff
abbrev yO:=@List.drop_append_of_le_length
abbrev nI:=@List.drop_length
abbrev mu:=@beq_eq_false_iff_ne
abbrev lB:=@not_false_eq_true
abbrev qB:=@List.isPrefixOf_iff_prefix
abbrev gy:=@List.append_nil
abbrev ve:=@Nat.and_two_pow_sub_one_eq_mod
abbrev ki:=@List.drop_eq_getElem_cons
abbrev kj:=@List.take_length
abbrev vf:=@Nat.pow_le_pow_right
abbrev jC:=@Nat.beq_eq
abbrev ss:=@List.map_drop
abbrev nJ:=@Nat.succ_le_of_lt
abbrev yP:=@List.prefix_iff_eq_take
abbrev lC:=@List.length_take
abbrev vg:=@Classical.byContradiction
abbrev qC:=@Nat.div_div_eq_div_mul
abbrev pd:=@Nat.sub_add_cancel
abbrev gL:=@Bool.eq_false_iff
abbrev yQ:=@Int.tdiv_eq_ediv_of_nonneg
abbrev iH:=@decide_eq_true
abbrev qD:=@List.getD_cons_zero
abbrev mv:=@beq_false_of_ne
abbrev qE:=@List.take_succ_cons
end Go
namespace Go.br
inductive aI(α:Type) where
 |nil
 |node (v:Option α) (l r:aI α)
section
variable {α:Type}
noncomputable def aI.get(t:aI α):Nat->Option α :=
 aI.rec (motive:=λ_=>Nat->Option α) (λ_=>none)
  (λv _ _ gl a k=>cond (Nat.beq k 0) v (cond (Nat.beq (k%2) 1) (gl (k/2)) (a (k/2-1)))) t
noncomputable def aI.gm(f:Nat):Nat->α->aI α :=
 Nat.rec (motive:=λ_=>Nat->α->aI α) (λ_ v=> .node (some v) .nil .nil)
  (λ_ ih k v=>cond (Nat.beq k 0) (.node (some v) .nil .nil) (cond (Nat.beq (k%2) 1) (.node none (ih (k/2) v) .nil) (.node none .nil (ih (k/2-1) v)))) f
noncomputable def aI.set(t:aI α):Nat->α->aI α :=
 aI.rec (motive:=λ_=>Nat->α->aI α) (λk v=>aI.gm k k v)
  (λo l r aB a k v=>cond (Nat.beq k 0) (.node (some v) l r) (cond (Nat.beq (k%2) 1) (.node o (aB (k/2) v) r) (.node o l (a (k/2-1) v)))) t
def beq_true{a b:Nat}(h:a=b):Nat.beq a b=true:=by subst h;exact Nat.beq_refl a
def beq_false{a b:Nat}(h:a≠b):Nat.beq a b=false:=by
 cases c:Nat.beq a b with
 |false=>rfl
 |true=>exact absurd (iZ c) h
def aI.lD(k:Nat):(aI.nil:aI α).get k=none:=rfl
def aI.jc(v:Option α)(l r:aI α):(aI.node v l r).get 0=v:=rfl
def aI.iI(v:Option α)(l r:aI α)(m:Nat):(aI.node v l r).get (2*m+1)=l.get m:=by show cond (Nat.beq (2*m+1) 0) v (cond (Nat.beq ((2*m+1)%2) 1) (l.get ((2*m+1)/2)) (r.get ((2*m+1)/2-1)))=_;rw [beq_false A,beq_true A,show(2*m+1)/2=m by omega];rfl
def aI.iJ(v:Option α)(l r:aI α)(m:Nat):(aI.node v l r).get (2*m+2)=r.get m:=by show cond (Nat.beq (2*m+2) 0) v (cond (Nat.beq ((2*m+2)%2) 1) (l.get ((2*m+2)/2)) (r.get ((2*m+2)/2-1)))=_;rw [beq_false A,beq_false A,show(2*m+2)/2-1=m by omega];rfl
def aI.pe(f:Nat)(v:α):aI.gm f 0 v=.node (some v) .nil .nil:=by cases f<;>rfl
def aI.vh(f m:Nat)(v:α):aI.gm (f+1) (2*m+1) v=.node none (aI.gm f m v) .nil:=by show cond (Nat.beq (2*m+1) 0) (aI.node (some v) .nil .nil) (cond (Nat.beq ((2*m+1)%2) 1) (aI.node none (aI.gm f ((2*m+1)/2) v) .nil) (aI.node none .nil (aI.gm f ((2*m+1)/2-1) v)))=_;rw [beq_false A,beq_true A,show(2*m+1)/2=m by omega];rfl
def aI.vi(f m:Nat)(v:α):aI.gm (f+1) (2*m+2) v=.node none .nil (aI.gm f m v):=by show cond (Nat.beq (2*m+2) 0) (aI.node (some v) .nil .nil) (cond (Nat.beq ((2*m+2)%2) 1) (aI.node none (aI.gm f ((2*m+2)/2) v) .nil) (aI.node none .nil (aI.gm f ((2*m+2)/2-1) v)))=_;rw [beq_false A,beq_false A,show(2*m+2)/2-1=m by omega];rfl
def aI.set_nil(k:Nat)(v:α):(aI.nil:aI α).set k v=aI.gm k k v:=rfl
def aI.jD(o:Option α)(l r:aI α)(v:α):(aI.node o l r).set 0 v=.node (some v) l r:=rfl
def aI.hk(o:Option α)(l r:aI α)(m:Nat)(v:α):(aI.node o l r).set (2*m+1) v=.node o (l.set m v) r:=by show cond (Nat.beq (2*m+1) 0) (aI.node (some v) l r) (cond (Nat.beq ((2*m+1)%2) 1) (aI.node o (l.set ((2*m+1)/2) v) r) (aI.node o l (r.set ((2*m+1)/2-1) v)))=_;rw [beq_false A,beq_true A,show(2*m+1)/2=m by omega];rfl
def aI.hl(o:Option α)(l r:aI α)(m:Nat)(v:α):(aI.node o l r).set (2*m+2) v=.node o l (r.set m v):=by show cond (Nat.beq (2*m+2) 0) (aI.node (some v) l r) (cond (Nat.beq ((2*m+2)%2) 1) (aI.node o (l.set ((2*m+2)/2) v) r) (aI.node o l (r.set ((2*m+2)/2-1) v)))=_;rw [beq_false A,beq_false A,show(2*m+2)/2-1=m by omega];rfl
def three(k:Nat):k=0\/(∃m,k=2*m+1)\/ ∃m,k=2*m+2:=by
 rcases Nat.eq_zero_or_pos k with h|h
 .exact .inl h
 .rcases Nat.mod_two_eq_zero_or_one k with ag|ag
  .exact .inr (.inr ⟨k/2-1,A⟩)
  .exact .inr (.inl ⟨k/2,A⟩)
def aI.DW(v:α):∀(k f g:Nat),k<=f->k<=g->aI.gm f k v=aI.gm g k v:=by
 intro k;induction k using Nat.strongRecOn with
 |_ k ih =>
  intro f g c ab;rcases three k with rfl|⟨m,rfl⟩|⟨m,rfl⟩
  .rw [aI.pe,aI.pe]
  .obtain⟨f,rfl⟩:∃a,f=a+1:=⟨f-1,A⟩
   obtain⟨g,rfl⟩:∃b,g=b+1:=⟨g-1,A⟩
   rw [aI.vh,aI.vh,ih m A f g A A]
  .obtain⟨f,rfl⟩:∃a,f=a+1:=⟨f-1,A⟩
   obtain⟨g,rfl⟩:∃b,g=b+1:=⟨g-1,A⟩
   rw [aI.vi,aI.vi,ih m A f g A A]
def aI.Me(v:α):∀(k f j:Nat),k<=f->(aI.gm f k v).get j=if k=j then some v else none:=by
 intro k;induction k using Nat.strongRecOn with
 |_ k ih =>
  intro f j b;rcases three k with rfl|⟨m,rfl⟩|⟨m,rfl⟩
  .rw [aI.pe];rcases three j with rfl|⟨i,rfl⟩|⟨i,rfl⟩
   .rw [aI.jc,az rfl]
   .rw [aI.iI,aI.lD,ai A]
   .rw [aI.iJ,aI.lD,ai A]
  .obtain⟨f,rfl⟩:∃a,f=a+1:=⟨f-1,A⟩
   rw [aI.vh];rcases three j with rfl|⟨i,rfl⟩|⟨i,rfl⟩
   .rw [aI.jc,ai A]
   .rw [aI.iI,ih m A f i A];by_cases h:m=i
    .rw [az h,az A]
    .rw [ai h,ai A]
   .rw [aI.iJ,aI.lD,ai A]
  .obtain⟨f,rfl⟩:∃a,f=a+1:=⟨f-1,A⟩
   rw [aI.vi];rcases three j with rfl|⟨i,rfl⟩|⟨i,rfl⟩
   .rw [aI.jc,ai A]
   .rw [aI.iI,aI.lD,ai A]
   .rw [aI.iJ,ih m A f i A];by_cases h:m=i
    .rw [az h,az A]
    .rw [ai h,ai A]
def aI.iK(v:α):∀(t:aI α)(k j:Nat),(t.set k v).get j=if k=j then some v else t.get j
 |.nil,k,j=>by rw [aI.set_nil,aI.Me v k k j (Nat.le_refl _),aI.lD]
 |.node o l r,k,j=>by
  rcases three k with rfl|⟨m,rfl⟩|⟨m,rfl⟩
  .rw [aI.jD];rcases three j with rfl|⟨i,rfl⟩|⟨i,rfl⟩
   .rw [aI.jc,az rfl]
   .rw [aI.iI,aI.iI,ai A]
   .rw [aI.iJ,aI.iJ,ai A]
  .rw [aI.hk];rcases three j with rfl|⟨i,rfl⟩|⟨i,rfl⟩
   .rw [aI.jc,aI.jc,ai A]
   .rw [aI.iI,aI.iI,aI.iK v l m i];by_cases h:m=i
    .rw [az h,az A]
    .rw [ai h,ai A]
   .rw [aI.iJ,aI.iJ,ai A]
  .rw [aI.hl];rcases three j with rfl|⟨i,rfl⟩|⟨i,rfl⟩
   .rw [aI.jc,aI.jc,ai A]
   .rw [aI.iI,aI.iI,ai A]
   .rw [aI.iJ,aI.iJ,aI.iK v r m i];by_cases h:m=i
    .rw [az h,az A]
    .rw [ai h,ai A]
def aI.Mf(x y:α):∀(a b:Nat),a≠b->(aI.gm a a x).set b y=(aI.gm b b y).set a x:=by
 intro a;induction a using Nat.strongRecOn with
 |_ a ih =>
  intro b d
  have c:∀(m:Nat)(v:α),aI.gm (2*m+1) (2*m+1) v=.node none (aI.gm m m v) .nil:=λm v=>by rw [aI.vh,aI.DW v m (2*m) m A (Nat.le_refl _)]
  have even:∀(m:Nat)(v:α),aI.gm (2*m+2) (2*m+2) v=.node none .nil (aI.gm m m v):=λm v=>by rw [aI.vi,aI.DW v m (2*m+1) m A (Nat.le_refl _)]
  rcases three a with rfl|⟨m,rfl⟩|⟨m,rfl⟩<;>rcases three b with rfl|⟨i,rfl⟩|⟨i,rfl⟩
  .exact absurd rfl d
  .rw [aI.pe,c,aI.hk,aI.jD,aI.set_nil]
  .rw [aI.pe,even,aI.hl,aI.jD,aI.set_nil]
  .rw [aI.pe,c,aI.hk,aI.jD,aI.set_nil]
  .rw [c,c,aI.hk,aI.hk,ih m A i A]
  .rw [c,even,aI.hk,aI.hl,aI.set_nil,aI.set_nil]
  .rw [aI.pe,even,aI.hl,aI.jD,aI.set_nil]
  .rw [c,even,aI.hk,aI.hl,aI.set_nil,aI.set_nil]
  .rw [even,even,aI.hl,aI.hl,ih m A i A]
def aI.set_comm(x y:α):∀(t:aI α)(a b:Nat),a≠b->(t.set a x).set b y=(t.set b y).set a x
 |.nil,a,b,h=>by rw [aI.set_nil,aI.set_nil,aI.Mf x y a b h]
 |.node o l r,a,b,h=>by
  rcases three a with rfl|⟨m,rfl⟩|⟨m,rfl⟩<;>rcases three b with rfl|⟨i,rfl⟩|⟨i,rfl⟩
  .exact absurd rfl h
  .rw [aI.jD,aI.hk,aI.hk,aI.jD]
  .rw [aI.jD,aI.hl,aI.hl,aI.jD]
  .rw [aI.jD,aI.hk,aI.hk,aI.jD]
  .rw [aI.hk,aI.hk,aI.hk,aI.hk,aI.set_comm x y l m i A]
  .rw [aI.hk,aI.hl,aI.hl,aI.hk]
  .rw [aI.hl,aI.jD,aI.jD,aI.hl]
  .rw [aI.hl,aI.hk,aI.hk,aI.hl]
  .rw [aI.hl,aI.hl,aI.hl,aI.hl,aI.set_comm x y r m i A]
def yR(f:α->α->Bool):Option α->Option α->Bool
 |none,none=>true
 |some a,some b=>f a b
 |_,_=>false
def aI.nK(b6:Nat):aI α->Nat->Nat->Bool
 |.nil,_,_=>true
 |.node v l r,p,s=>(!decide (p<b6) || v.isNone)&&l.nK b6 (p+s) (2*s)&&r.nK b6 (p+2*s) (2*s)
def aI.kT(f:α->α->Bool)(b6:Nat):aI α->aI α->Nat->Nat->Bool
 |.nil,u,p,s=>u.nK b6 p s
 |.node v l r,.nil,p,s=>(aI.node v l r).nK b6 p s
 |.node v l r,.node c a b,p,s=>(!decide (p<b6) || yR f v c)&&aI.kT f b6 l a (p+s) (2*s)&&aI.kT f b6 r b (p+2*s) (2*s)
def vj(p s m:Nat):p+s* (2*m+1)=p+s+2*s*m:=by rw [Nat.mul_add,o3,<-Nat.mul_assoc,Nat.mul_comm s 2];omega
def vk(p s m:Nat):p+s* (2*m+2)=p+2*s+2*s*m:=by rw [Nat.mul_add,<-Nat.mul_assoc,Nat.mul_comm s 2];omega
def aI.vl(b6:Nat):∀(t:aI α)(p s:Nat),t.nK b6 p s=true-> ∀k,p+s*k<b6->t.get k=none
 |.nil,p,s,_,k,_=>rfl
 |.node v l r,p,s,h,k,a=>by
  simp only [aI.nK,cC,eC,gV,o4]at h;obtain⟨⟨Y,ag⟩,b⟩:=h;rcases three k with rfl|⟨m,rfl⟩|⟨m,rfl⟩
  .rw [aI.jc];rcases Y with Y|Y
   .simp at a;omega
   .simpa using Y
  .rw [aI.iI];rw [vj]at a;exact aI.vl b6 l _ _ ag m a
  .rw [aI.iJ];rw [vk]at a;exact aI.vl b6 r _ _ b m a
def aI.vm(b6:Nat):∀(t:aI α)(p s:Nat),(∀k,p+s*k<b6->t.get k=none)->t.nK b6 p s=true
 |.nil,p,s,_=>rfl
 |.node v l r,p,s,h=>by
  simp only [aI.nK,cC,eC,gV,o4];refine⟨⟨?_,?_⟩,?_⟩
  .by_cases ae:p<b6
   .right;have:=h 0 (by simpa using ae);rw [aI.jc]at this;simp [this]
   .exact .inl ae
  .exact aI.vm b6 l _ _ λm hm=>by have:=h (2*m+1) (by rw [vj];exact hm);rwa [aI.iI]at this
  .exact aI.vm b6 r _ _ λm hm=>by have:=h (2*m+2) (by rw [vk];exact hm);rwa [aI.iJ]at this
def aI.yS{f:α->α->Bool}(d:∀a b,f a b=true->a=b)(b6:Nat):∀(t u:aI α)(p s:Nat),aI.kT f b6 t u p s=true-> ∀k,p+s*k<b6->t.get k=u.get k
 |.nil,u,p,s,h,k,c=>by rw [aI.lD,aI.vl b6 u p s (by simpa [aI.kT]using h) k c]
 |.node v l r,.nil,p,s,h,k,c=>by rw [aI.lD,aI.vl b6 _ p s (by simpa [aI.kT]using h) k c]
 |.node v l r,.node j g i,p,s,h,k,c=>by
  simp only [aI.kT,cC,eC,gV,o4]at h;obtain⟨⟨Y,ag⟩,e⟩:=h;rcases three k with rfl|⟨m,rfl⟩|⟨m,rfl⟩
  .rw [aI.jc,aI.jc];rcases Y with Y|Y
   .simp at c;omega
   .cases v<;>cases j<;>simp [yR]at Y<;>first|rfl|(rw [d _ _ Y])
  .rw [aI.iI,aI.iI];rw [vj]at c;exact aI.yS d b6 l g _ _ ag m c
  .rw [aI.iJ,aI.iJ];rw [vk]at c;exact aI.yS d b6 r i _ _ e m c
def aI.vn{f:α->α->Bool}(b:∀a,f a a=true)(b6:Nat):∀(t u:aI α)(p s:Nat),(∀k,p+s*k<b6->t.get k=u.get k)->aI.kT f b6 t u p s=true
 |.nil,u,p,s,h=>by simp only [aI.kT];exact aI.vm b6 u p s λk c=>by rw [<-h k c,aI.lD]
 |.node v l r,.nil,p,s,h=>by simp only [aI.kT];exact aI.vm b6 _ p s λk c=>by rw [h k c,aI.lD]
 |.node v l r,.node g d e,p,s,h=>by
  simp only [aI.kT,cC,eC,gV,o4];refine⟨⟨?_,?_⟩,?_⟩
  .by_cases ae:p<b6
   .right;have:=h 0 (by simpa using ae);rw [aI.jc,aI.jc]at this;subst this;cases v<;>simp [yR,b]
   .exact .inl ae
  .exact aI.vn b b6 l d _ _ λm hm=>by have:=h (2*m+1) (by rw [vj];exact hm);rwa [aI.iI,aI.iI]at this
  .exact aI.vn b b6 r e _ _ λm hm=>by have:=h (2*m+2) (by rw [vk];exact hm);rwa [aI.iJ,aI.iJ]at this
end
noncomputable section
structure bB where
 id:Nat
 ad:Nat
 idx:Nat
 fld:Nat
 es:Nat
 deriving DecidableEq
inductive J where
 |undef
 |bool (b:Bool)
 |int (k:IntKind) (n:Int)
 |str (s:List UInt8)
 |ptr (a:Option bB)
 |slice (a:Option bB) (len cap:Nat)
 |func (fn:Fn) (first captured:List J)
 |nilFunc
 |iface (t:TypeId) (v:J)
 |nilIface
 |agg (cs:List J)
 |tuple (vs:List J)
 deriving Inhabited
abbrev eR:J:= .tuple []
def J.cells:J->List J
 |.agg cs=>cs
 |v=> [v]
def fK:Value->J
 |.bool b=> .bool b
 |.int k n=> .int k n
 |.string s=> .str s.data.toList
 |.pointer none=> .ptr none
 |.slice none 0 0=> .slice none 0 0
 |.nilFunc=> .nilFunc
 |.nilIface=> .nilIface
 |_=> .undef
def nL:Value->J
 |.agg cs=> .agg (cs.toList.map fK)
 |.iface t v=> .iface t (fK v)
 |v=>fK v
inductive iL where
 |int (k:IntKind)|bool|string|ptr (e:TypeId)|slice (e:TypeId)|array (n:Nat) (e:TypeId)
 |struct (fs:List (Nat×TypeId))|func|iface (own:Bool)|other
 deriving Inhabited
structure nM where
 kind:iL
 size:Nat
 bytes:Nat
 zero:Option J
 deriving Inhabited
def iL.isAgg:iL->Bool
 |.struct _|.array _ _=>true
 |_=>false
def fm:TypeDesc->iL
 |.int k=> .int k
 |.bool=> .bool
 |.string=> .string
 |.pointer e=> .ptr e
 |.slice e=> .slice e
 |.array n e=> .array n e
 |.struct fs=> .struct (fs.toList.map λf=>(f.offset,f.type))
 |.func _ _ _=> .func
 |.interface a=> .iface (!a.isEmpty)
 |_=> .other
def vo(P:Program)(t:TypeId):Option nM :=
 match P.info? t,P.underlying t with
 |some i,some d=>some {kind:=fm d,size:=i.size,bytes:=i.bytes,zero:=i.zero.map nL}
 |_,_=>none
abbrev cV:=TypeId->Option nM
def cV.cG(D:cV)(P:Program):Prop:= ∀t d,D t=some d->vo P t=some d
structure aa where
 bg:List J
 es:Nat
 exact:Bool
 ro:Bool
 ad:Nat
 eH:Nat
 fo:Nat
 ty:Option (TypeId×Nat)
 deriving Inhabited
structure T where
 M:Nat
 aF:aI aa
def T.get(h:T)(id:Nat):Option aa:=h.aF.get id
def T.set(h:T)(id:Nat)(b:aa):T:= {h with aF:=h.aF.set id b}
def aa.b6(b:aa)(ad:Nat):Nat :=
 if ad=b.ad then b.bg.length else if b.eH<=ad/\ad<b.ad then b.fo else 0
def aa.elem?(b:aa)(ad idx:Nat):Option J :=
 if idx<b.b6 ad then b.bg[idx]? else none
def aa.an(bg:List J)(es:Nat)(exact:Bool)(ty:Option (TypeId×Nat):=none):aa :=
 {bg,es,exact,ro:=false,ad:=0,eH:=0,fo:=0,ty}
def aa.grow(b:aa)(new:List J):aa :=
 {b with bg:=b.bg++new,ad:=b.ad+1,fo:=if b.eH=b.ad then b.bg.length else min b.fo b.bg.length}
def gW(l:List J)(i:Nat):List J->List J
 |[]=>l
 |v::vs=>gW (l.set i v) (i+1) vs
def aa.put(b:aa)(idx:Nat)(vs:List J):aa :=
 {b with bg:=gW b.bg idx vs,eH:=b.ad}
def eK(a:Bool)(size fld:Nat)(e:J):Option J :=
 if a then
  match e with
  |.agg cs=>if fld=0/\size=cs.length then some (.agg cs)else if fld+size<=cs.length then some (.agg ((cs.drop fld).take size))else none
  |_=>none
 else
  match e with
  |.agg cs=>cs[fld]?
  |_=>if fld=0 then some e else none
def a6(D:cV)(t:TypeId)(a:bB)(h:T):Option J :=
 match D t,h.get a.id with
 |some d,some b =>
  match b.elem? a.ad a.idx with
  |some e=>eK d.kind.isAgg d.size a.fld e
  |none=>none
 |_,_=>none
def J.hV:J->Bool
 |.agg _|.tuple _|.undef=>false
 |_=>true
def nN(fld:Nat)(v e:J):Option J :=
 match e with
 |.agg cs=>if fld+v.cells.length<=cs.length then some (.agg (gW cs fld v.cells))else none
 |_=>if fld=0/\v.hV then some v else none
def J.fits(v:J)(a:Bool)(size:Nat):Bool :=
 match v with
 |.agg cs=>a&&cs.length == size&&cs.all (·.hV)
 |.tuple _=>false
 |.undef=>false
 |_=> !a&&size == 1
def gz(D:cV)(t:TypeId)(a:bB)(v:J)(h:T):Option T :=
 match D t,h.get a.id with
 |some d,some b =>
  if v.fits d.kind.isAgg d.size&&!b.ro&&a.ad == b.ad then
   match b.bg[a.idx]? with
   |some e =>
    match nN a.fld v e with
    |some e'=>some (h.set a.id {b with bg:=b.bg.set a.idx e',eH:=b.ad})
    |none=>none
   |none=>none
  else none
 |_,_=>none
def ig(op:BinOp)(k:IntKind)(x y:Int):Option J :=
 match op with
 |.add=>some (.int k (k.wrap (x+y)))
 |.sub=>some (.int k (k.wrap (x-y)))
 |.mul=>some (.int k (k.wrap (x*y)))
 |.quo=>if y=0 then none else some (.int k (k.wrap (x.tdiv y)))
 |.rem=>if y=0 then none else some (.int k (x.tmod y))
 |.and=>some (.int k (k.wrap (BitVec.ofInt k.bits x &&& BitVec.ofInt k.bits y).toNat))
 |.or=>some (.int k (k.wrap (BitVec.ofInt k.bits x ||| BitVec.ofInt k.bits y).toNat))
 |.xor=>some (.int k (k.wrap (BitVec.ofInt k.bits x ^^^ BitVec.ofInt k.bits y).toNat))
 |.andNot=>some (.int k (k.wrap (BitVec.ofInt k.bits x &&& ~~~(BitVec.ofInt k.bits y)).toNat))
 |.eql=>some (.bool (x == y))
 |.neq=>some (.bool (x != y))
 |.lss=>some (.bool (decide (x<y)))
 |.leq=>some (.bool (decide (x<=y)))
 |.gtr=>some (.bool (decide (x>y)))
 |.geq=>some (.bool (decide (x≥y)))
 |_=>none
def st(op:BinOp)(k:IntKind)(x y:Int):Option J :=
 if y<0 then none else
 match op with
 |.shl=>some (.int k (k.wrap (x*2^(min y.toNat k.bits))))
 |.shr=>some (.int k (x.fdiv (2^(min y.toNat k.bits))))
 |_=>none
def su(op:BinOp)(x y:List UInt8):Option J :=
 match op with
 |.add=>if x.length+y.length<2^62 then some (.str (x++y))else none
 |.eql=>some (.bool (x == y))
 |.neq=>some (.bool (!(x == y)))
 |.lss=>some (.bool (Op.bytesLess x y))
 |.leq=>some (.bool (Op.bytesLess x y || x == y))
 |.gtr=>some (.bool (!(Op.bytesLess x y || x == y)))
 |.geq=>some (.bool (!Op.bytesLess x y))
 |_=>none
def vp(k:iL)(a b:J):Option Bool :=
 match k,a,b with
 |.int _,.int k a,.int k' b=>if k=k' then some (a == b)else none
 |.bool,.bool a,.bool b=>some (a == b)
 |.string,.str a,.str b=>some (a == b)
 |_,_,_=>none
def pf(D:cV):List (Nat×TypeId)->List J->List J->Option Bool
 |[],[],[]=>some true
 |(_,t)::fs,a::x,b::y =>
  match D t with
  |some d =>
   match vp d.kind a b,pf D fs x y with
   |some p,some q=>some (p&&q)
   |_,_=>none
  |none=>none
 |_,_,_=>none
def qF(k:iL):List J->List J->Option Bool
 |[],[]=>some true
 |a::x,b::y =>
  match vp k a b,qF k x y with
  |some p,some q=>some (p&&q)
  |_,_=>none
 |_,_=>none
def nO(D:cV)(eS:TypeId->Bool)(lit:Bool)(t:TypeId)(x y:J):Option Bool :=
 match D t with
 |none=>none
 |some d =>
  match d.kind,x,y with
  |.bool,.bool a,.bool b=>some (a == b)
  |.ptr _,.ptr none,.ptr none=>some true
  |.ptr _,.ptr none,.ptr (some _)=>some false
  |.ptr _,.ptr (some _),.ptr none=>some false
  |.slice _,.slice none _ _,.slice none _ _=>some true
  |.slice _,.slice none _ _,.slice (some _) _ _=>some false
  |.slice _,.slice (some _) _ _,.slice none _ _=>some false
  |.func,.nilFunc,.nilFunc=>some true
  |.func,.nilFunc,.func _ _ _=>some false
  |.func,.func _ _ _,.nilFunc=>some false
  |.iface _,.nilIface,.nilIface=>if lit then some true else none
  |.iface _,.nilIface,.iface _ _=>some false
  |.iface _,.iface _ _,.nilIface=>some false
  |.struct fs,.agg x,.agg y=>if eS t then pf D fs x y else none
  |.array n e,.agg x,.agg y =>
   if eS t then
    match D e with
    |some c=>if c.size=1/\x.length=n then qF c.kind x y else none
    |none=>none
   else none
  |_,_,_=>none
def hn(D:cV)(eS:TypeId->Bool)(lit:Bool)(op:BinOp)(t:TypeId)(x y:J):Option J :=
 match x,y with
 |.int k a,.int k' b =>
  match op with
  |.shl|.shr=>st op k a b
  |_=>if k=k' then ig op k a b else none
 |.str a,.str b=>su op a b
 |_,_ =>
  match op with
  |.eql=>(nO D eS lit t x y).map λb=> .bool b
  |.neq=>(nO D eS lit t x y).map λb=> .bool (!b)
  |_=>none
def sv(op:UnOp)(x:J):Option J :=
 match op,x with
 |.neg,.int k n=>some (.int k (k.wrap (0-n)))
 |.not,.bool b=>some (.bool (!b))
 |.xor,.int k n=>ig .xor k (if k.signed then-1 else k.max) n
 |_,_=>none
def vq:J->J->Option J
 |.int k x,.int k' y=>if k=k' then some (.int k (if y>x then y else x))else none
 |_,_=>none
def vr:J->J->Option J
 |.int k x,.int k' y=>if k=k' then some (.int k (if y<x then y else x))else none
 |_,_=>none
def nP(f:J->J->Option J):J->List J->Option J
 |x,[]=>some x
 |x,y::r =>
  match f x y with
  |some z=>nP f z r
  |none=>none
def J.known:J->Bool
 |.undef=>false
 |_=>true
def qG(place:Nat->Option (Nat×Nat))(cells:List J):List (Nat×J)->Option (List J)
 |[]=>some cells
 |(i,v)::rest =>
  match place i with
  |none=>none
  |some (off,size) =>
   if v.cells.length=size/\off+size<=cells.length/\v.known=true then qG place (gW cells off v.cells) rest else none
def DX(D:cV)(fs:List (Nat×TypeId)):Bool:=fs.all λf=>(D f.2).isSome
def yT(D:cV)(t:TypeId)(parts:List (Nat×J)):Option J :=
 match D t with
 |some d =>
  match d.kind,d.zero with
  |.struct fs,some z =>
   if z.known=true/\DX D fs=true then
    (qG (λi=>match fs[i]? with|some (off,a)=>(D a).map λx=>(off,x.size)|none=>none) z.cells parts).map .agg
   else none
  |.array _ e,some z =>
   match D e with
   |some x=>if z.known=true then(qG (λi=>some (i*x.size,x.size)) z.cells parts).map .agg else none
   |none=>none
  |_,_=>none
 |none=>none
def kU(l:List J):List (Nat×J)->Option (List J)
 |[]=>some l
 |(i,v)::rest=>if i<l.length then kU (l.set i v) rest else none
def hF(nid es len cap:Nat):J:= .slice (some ⟨nid,0,0,0,es⟩) len cap
def jE(D:cV)(t:TypeId)(len:Nat)(parts:List (Nat×J))(nid:Nat)(h:T):Option (J×T) :=
 match D t with
 |some d =>
  match d.kind with
  |.slice e =>
   match D e with
   |some x =>
    match x.zero with
    |some z =>
     if len*x.size<=2^24/\0<x.size/\z.fits x.kind.isAgg x.size/\(parts.all λp=>p.2.fits x.kind.isAgg x.size)then
      match kU (List.replicate len z) parts with
      |some l=>some (hF nid x.size len len,h.set nid (.an l x.size true))
      |none=>none
     else none
    |none=>none
   |none=>none
  |_=>none
 |none=>none
def sw(D:cV)(t:TypeId)(len cap:J)(nid:Nat)(h:T):Option (J×T) :=
 match D t,len,cap with
 |some d, .int _ l,.int _ c =>
  match d.kind with
  |.slice e =>
   match D e with
   |some x =>
    match x.zero with
    |some z =>
     if 0<=l/\l<=c/\c<2^62/\x.bytes*c<=2^48/\0<x.size/\z.fits x.kind.isAgg x.size then
      some (hF nid x.size l.toNat c.toNat,h.set nid (.an (List.replicate c.toNat z) x.size true))
     else none
    |none=>none
   |none=>none
  |_=>none
 |_,_,_=>none
def eI(v:Option J)(a b:Nat):Option Nat :=
 match v with
 |none=>some a
 |some (.int _ i)=>if 0<=i/\i<=b then some i.toNat else none
 |_=>none
def dW(D:cV)(t:TypeId)(x:J)(aD ah mx:Option J):Option J :=
 match D t,x with
 |some d, .slice a len cap =>
  match d.kind with
  |.slice e =>
   match D e,eI mx cap cap with
   |some cg,some m =>
    match eI ah len m with
    |some b =>
     match eI aD 0 b with
     |some l =>
      if mx.isSome/\ah.isNone then none else
      match a with
      |none=>some (.slice none (b-l) (m-l))
      |some a=>if a.es=cg.size/\a.fld=0 then some (.slice (some {a with idx:=a.idx+l}) (b-l) (m-l))else none
     |none=>none
    |none=>none
   |_,_=>none
  |_=>none
 |some d,.ptr (some a) =>
  match d.kind with
  |.array n e =>
   match D e with
   |some cg =>
    if mx.isSome then none else
    match eI ah n n with
    |some b =>
     match eI aD 0 b with
     |some l=>if l<n/\cg.size=1 then some (.slice (some {a with fld:=a.fld+l+1}) (b-l) (n-l))else none
     |none=>none
    |none=>none
   |none=>none
  |_=>none
 |some d,.str s =>
  match d.kind with
  |.string =>
   if mx.isSome then none else
   match eI ah s.length s.length with
   |some b =>
    match eI aD 0 b with
    |some l=>some (.str ((s.take b).drop l))
    |none=>none
   |none=>none
  |_=>none
 |_,_=>none
def iM(D:cV)(t:TypeId)(x i:J):Option J :=
 match D t,x,i with
 |some d,.slice (some a) len _,.int _ i =>
  match d.kind with
  |.slice e =>
   match D e with
   |some cg =>
    if 0<=i/\i<len/\a.es=cg.size/\a.fld=0 then some (.ptr (some {a with idx:=a.idx+i.toNat}))
    else if 0<=i/\i<len/\0<a.fld/\cg.size=1 then some (.ptr (some {a with fld:=a.fld-1+i.toNat}))
    else none
   |none=>none
  |_=>none
 |some d,.ptr (some a),.int _ i =>
  match d.kind with
  |.array n e =>
   match D e with
   |some cg=>if 0<=i/\i<n then some (.ptr (some {a with fld:=a.fld+i.toNat*cg.size}))else none
   |none=>none
  |_=>none
 |_,_,_=>none
def apart(D:cV)(t:TypeId)(cs:List J)(off:Nat):Option J :=
 match D t with
 |some d=>if d.kind.isAgg then(if off+d.size<=cs.length then some (.agg ((cs.drop off).take d.size))else none)else cs[off]?
 |none=>none
def c'(D:cV)(t:TypeId)(x i:J):Option J :=
 match D t,x,i with
 |some d,.agg cs,.int _ i =>
  match d.kind with
  |.array n e =>
   match D e with
   |some cg=>if 0<=i/\i<n then apart D e cs (i.toNat*cg.size)else none
   |none=>none
  |_=>none
 |some d,.str s,.int _ i =>
  match d.kind with
  |.string=>if 0<=i then(s[i.toNat]?).map λb=> .int .u8 b.toNat else none
  |_=>none
 |_,_,_=>none
def yU(D:cV)(t:TypeId)(x:J)(f:Nat):Option J :=
 match D t,x with
 |some d,.ptr (some a) =>
  match d.kind with
  |.struct fs =>
   match fs[f]? with
   |some (off,b) =>
    match D b with
    |some fd=>if 0<fd.size then some (.ptr (some {a with fld:=a.fld+off}))else none
    |none=>none
   |none=>none
  |_=>none
 |_,_=>none
def yV(D:cV)(t:TypeId)(x:J)(f:Nat):Option J :=
 match D t,x with
 |some d,.agg cs =>
  match d.kind with
  |.struct fs =>
   match fs[f]? with
   |some (off,a)=>apart D a cs off
   |none=>none
  |_=>none
 |_,_=>none
def ed(es:Nat)(x:J)(h:T):Option (List J) :=
 match x with
 |.slice none 0 _=>some []
 |.slice (some a) len _ =>
  if a.fld=0 then
   if a.es=es then
    match h.get a.id with
    |some b=>if len=0 then some []else if a.idx+len<=b.b6 a.ad/\a.idx+len<=b.bg.length then some ((b.bg.drop a.idx).take len)else none
    |none=>if len=0 then some []else none
   else none
  else if len=0 then some []
  else if es=1 then
   match h.get a.id with
   |some b =>
    match b.elem? a.ad a.idx with
    |some (.agg cs)=>if a.fld-1+len<=cs.length/\((cs.drop (a.fld-1)).take len).all (·.hV)=true then some ((cs.drop (a.fld-1)).take len)else none
    |_=>none
   |none=>none
  else none
 |.str s=>if es=1 then some (s.map λb=> .int .u8 b.toNat)else none
 |_=>none
def nM.pg(d:nM):Bool :=
 match d.zero with
 |some z=>z.fits d.kind.isAgg d.size
 |none=>false
def fA(D:cV)(t:TypeId)(s x:J)(nid:Nat)(h:T):Option (J×T) :=
 match D t,s with
 |some d, .slice base len cap =>
  match d.kind with
  |.slice e =>
   match D e with
   |some cg =>
    match ed cg.size x h with
    |some new =>
     let c:=len+new.length
     if 0 < cg.size/\(c+c/4+512)*cg.bytes<=2^48/\c<2^62/\cg.pg=true then
      match base with
      |none=>if c=0 then some (.slice none 0 cap,h)else if cap=0/\len=0 then some (hF nid cg.size c c,h.set nid (.an new cg.size false (some (e,0))))else none
      |some a =>
       if a.es =cg.size/\a.fld=0 then
        match h.get a.id with
        |some b =>
         if c<=cap then
          if new=[]then some (.slice base c cap,h)else
          if b.ro=false/\a.ad=b.ad/\a.idx+c<=b.bg.length then some (.slice base c cap,h.set a.id (b.put (a.idx+len) new))else none
         else if b.exact then
          match ed cg.size s h with
          |some old=>some (hF nid cg.size c c,h.set nid (.an (old++new) cg.size false (some (e,0))))
          |none=>none
         else if b.ro=false/\a.ad=b.ad/\a.idx+len=b.bg.length/\new≠[]/\(b.ty=none\/b.ty=some (e,0))then
          some (.slice (some {a with ad:=a.ad+1}) c c,
           h.set a.id (b.grow new))
         else none
        |none=>none
       else none
     else none
    |none=>none
   |none=>none
  |_=>none
 |_,_=>none
def yW(D:cV)(t:TypeId)(x:J):Option J :=
 match D t,x with
 |some d,.slice _ n _=>match d.kind with|.slice _=>some (.int .i64 n)|_=>none
 |some d,.str s=>match d.kind with|.string=>some (.int .i64 s.length)|_=>none
 |some d,_=>match d.kind with|.array n _=>some (.int .i64 n)|_=>none
 |_,_=>none
def sx(D:cV)(src dst:TypeId)(x:J):Option J :=
 match D src,D dst,x with
 |some _,some d,.int _ n=>match d.kind with|.int k=>some (.int k (k.wrap n))|.string=>some (.str (Utf8.encode n).data.toList)|_=>none
 |some _,some d,.str s=>match d.kind with|.string=>some (.str s)|_=>none
 |_,_,_=>none
abbrev cR:=FuncId->List J->T->Option (J×T)
abbrev vt:=List J->T->Option (J×T)
structure bi where
 D:cV
 eqs:List TypeId
 qH:FuncId->Option vt:=λ_=>none
 ext:FuncId->Option Nat:=λ_=>none
 cond:(Nat->Prop)->World->Prop:=λ_ _=>True
def bi.eS(E:bi)(t:TypeId):Bool:=E.eqs.contains t
def cA(s:List J):Operand->J
 |.tmp t=>s.getD t .undef
 |.const v=>nL v
 |.global _=> .undef
 |.func f=> .func (.func f) [] []
def gA:Operand->Bool
 |.const _=>true
 |_=>false
def kV(call:cR)(f:J)(args:List J)(h:T):Option (J×T) :=
 match f with
 |.func (.func g) first captured=>call g (first++args++captured) h
 |_=>none
def bytesOf:List J->Option (List UInt8)
 |[]=>some []
 |.int .u8 n::r=>(bytesOf r).map λl=>UInt8.ofNat n.toNat::l
 |_=>none
def ph:List J->Bool
 |[]=>true
 |.int .u8 n::r=>decide (0<=n)&&decide (n<256)&&ph r
 |_=>false
def yX(D:cV)(f:TypeId)(p:Option bB)(n:Int)(h:T):Option (J×T) :=
 if n=0 then some (.str [],h)else
 match D f,p with
 |some d,some a =>
  match d.kind,h.get a.id with
  |.ptr e,some b =>
   match D e with
   |some c =>
    if 0<n/\n<=1048576/\a.idx=0/\a.fld=0/\a.es=1/\b.ro=false/\b.ty=some (e,0)/\c.size=1/\n.toNat<=b.b6 a.ad/\n.toNat<=b.bg.length/\ph (b.bg.take n.toNat)=true then
     (bytesOf (b.bg.take n.toNat)).map λs=>(.str s,h.set a.id {b with ro:=true})
    else none
   |none=>none
  |_,_=>none
 |_,_=>none
def yY:J->Option J
 |.slice none _ _=>some (.ptr none)
 |.slice (some a) _ c=>if a.fld=0/\0<c then some (.ptr (some a))else none
 |_=>none
def yZ(D:cV)(t:TypeId)(s x:J)(h:T):Option (J×T) :=
 match D t,s,x with
 |some d, .slice (some a) len _,.slice (some c) n _ =>
  match d.kind with
  |.slice e =>
   match D e,h.get c.id,h.get a.id with
   |some cg,some f,some b =>
    if cg.size=1/\0<a.fld/\c.fld=0/\c.es=1/\0<n/\n<=len/\c.idx+n<=f.b6 c.ad/\c.idx+n<=f.bg.length/\b.ro=false/\a.ad=b.ad then
     match b.bg[a.idx]? with
     |some (.agg cs) =>
      if a.fld-1+n<=cs.length/\((f.bg.drop c.idx).take n).all (·.hV)=true then
       some (.int .i64 n,h.set a.id {b with bg:=b.bg.set a.idx (.agg (gW cs (a.fld-1) ((f.bg.drop c.idx).take n))),eH:=b.ad})
      else none
     |_=>none
    else none
   |_,_,_=>none
  |_=>none
 |_,_,_=>none
def eY(E:bi)(b:Builtin)(ts:Array TypeId)(args:List J)(nid:Nat)(h:T):Option (J×T) :=
 match b with
 |.len =>
  match args,ts[0]? with
  |[x],some t=>(yW E.D t x).map λv=>(v,h)
  |_,_=>none
 |.append =>
  match args,ts[0]?,ts[1]? with
  |[s,x],some t,some u=>match E.D u with|some a=>(match a.kind with|.slice _=>fA E.D t s x nid h|.string=>fA E.D t s x nid h|_=>none)|none=>none
  |_,_,_=>none
 |.max =>
  match args with
  |x::r=>(nP vq x r).map λv=>(v,h)
  |_=>none
 |.min =>
  match args with
  |x::r=>(nP vr x r).map λv=>(v,h)
  |_=>none
 |.copy =>
  match args,ts[0]?,ts[1]? with
  |[s,x],some t,some u=>yZ E.D t s x h
  |_,_,_=>none
 |.unsafeSliceData =>
  match args with
  |[x]=>(yY x).map λv=>(v,h)
  |_=>none
 |.unsafeString =>
  match args,ts[0]? with
  |[.ptr p,.int .i64 n],some t=>yX E.D t p n h
  |_,_=>none
 |_=>none
def bt(E:bi)(call:cR)(nid:Nat)(ρ:Operand->J)(h:T)(o:Op):Option (J×T) :=
 match o with
 |.move x|.assign x=>some (ρ x,h)
 |.pick c a b=>match ρ c with|.bool t=>some (if t then ρ a else ρ b,h)|_=>none
 |.alloc t =>
  match E.D t with
  |some d=>match d.zero with|some z=>if z.fits d.kind.isAgg d.size&&decide (0<d.size)then some (.ptr (some ⟨nid,0,0,0,d.size⟩),h.set nid (.an [z] d.size true (some (t,d.size))))else none|none=>none
  |none=>none
 |.box t x =>
  match E.D t with
  |some d=>if(ρ x).fits d.kind.isAgg d.size&&decide (0<d.size)then some (.ptr (some ⟨nid,0,0,0,d.size⟩),h.set nid (.an [ρ x] d.size true (some (t,d.size))))else none
  |none=>none
 |.build t parts=>(yT E.D t (parts.toList.map λp=>(p.1,ρ p.2))).map λv=>(v,h)
 |.buildSlice t n parts=>jE E.D t n (parts.toList.map λp=>(p.1,ρ p.2)) nid h
 |.load t a=>match ρ a with|.ptr (some a)=>(a6 E.D t a h).map λv=>(v,h)|_=>none
 |.store t a x=>match ρ a with|.ptr (some a)=>(gz E.D t a (ρ x) h).map λZ=>(eR,Z)|_=>none
 |.nilCheck x=>match ρ x with|.ptr (some a)=>some (.ptr (some a),h)|.func (.func g) fs cs=>some (.func (.func g) fs cs,h)|_=>none
 |.binOp op t x y _=>(hn E.D E.eS (gA x || gA y) op t (ρ x) (ρ y)).map λv=>(v,h)
 |.unOp op _ x=>(sv op (ρ x)).map λv=>(v,h)
 |.convert s d x=>(sx E.D s d (ρ x)).map λv=>(v,h)
 |.makeFunc (.func g) fs cs=>some (.func (.func g) (fs.toList.map ρ) (cs.toList.map ρ),h)
 |.makeInterface t x=>match E.D t with|some d=>(match d.kind with|.iface _=>none|_=>some (.iface t (ρ x),h))|none=>none
 |.makeSlice t l c=>sw E.D t (ρ l) (ρ c) nid h
 |.slice t x aD ah mx=>(dW E.D t (ρ x) (aD.map ρ) (ah.map ρ) (mx.map ρ)).map λv=>(v,h)
 |.fieldAddr t x f=>(yU E.D t (ρ x) f).map λv=>(v,h)
 |.field t x f=>(yV E.D t (ρ x) f).map λv=>(v,h)
 |.indexAddr t x i=>(iM E.D t (ρ x) (ρ i)).map λv=>(v,h)
 |.index t x i=>(c' E.D t (ρ x) (ρ i)).map λv=>(v,h)
 |.extract x i=>match ρ x with|.tuple vs=>(vs[i]?).map λv=>(v,h)|_=>none
 |.call c =>
  match c.callee with
  |.value f=>kV call (ρ f) (c.args.toList.map ρ) h
  |.builtin b=>eY E b c.argTypes (c.args.toList.map ρ) nid h
  |_=>none
 |_=>none
def mw(D:cV)(src dst:TypeId)(x:J)(nid:Nat)(h:T):Option (J×T) :=
 match D src,D dst,x with
 |some i,some g,.str s =>
  match i.kind,g.kind with
  |.string,.slice e =>
   match D e with
   |some d =>
    match d.kind with
    |.int .u8=>some (hF nid 1 s.length s.length,h.set nid (.an (s.map λb=> .int .u8 b.toNat) 1 false))
    |_=>none
   |none=>none
  |_,_=>none
 |some i,some g,.slice a n c =>
  match i.kind,g.kind with
  |.slice e,.slice _ =>
   match D e,a with
   |some d,some f =>
    match d.kind,h.get f.id with
    |.int .u8,some b=>if src=dst/\b.ro=false/\f.fld=0/\0<c then some (.slice (some f) n c,h)else none
    |_,_=>none
   |_,_=>none
  |.slice e,.string =>
   match D e with
   |some d =>
    match d.kind with
    |.int .u8 =>
     match ed 1 (.slice a n c) h with
     |some l=>(bytesOf l).map λs=>(.str s,h)
     |none=>none
    |_=>none
   |none=>none
  |_,_=>none
 |_,_,_=>none
def y0(k:Nat)(args:List J):Option J :=
 match args with
 |[.str s,.int .u8 c] =>
  match k with
  |0=>some (.int .i64 (Go.Lib.countByte s c.toNat.toUInt8))
  |1=>some (.int .i64 (Go.Lib.indexByte s c.toNat.toUInt8))
  |_=>none
 |[.str s,.str t]=>if k=2 then some (.int .i64 (Go.Lib.compareBytes s t))else none
 |_=>none
def du(E:bi)(nid:Nat)(ρ:Operand->J)(h:T)(o:Op):Option (J×T) :=
 match o with
 |.convert s d x=>mw E.D s d (ρ x) nid h
 |.call c =>
  match c.callee with
  |.value f =>
   match ρ f with
   |.func (.func g) [] [] =>
    match E.ext g with
    |some k=>(y0 k (c.args.toList.map ρ)).map λv=>(v,h)
    |none=>none
   |_=>none
  |_=>none
 |_=>none
def ho(E:bi)(call:cR)(nid:Nat)(ρ:Operand->J)(h:T)(o:Op):Option (J×T) :=
 match bt E call nid ρ h o with
 |some r=>some r
 |none=>du E nid ρ h o
structure dX where
 dH:List J
 heap:T
def fT(s:List J)(dst:Option Tmp)(v:J):List J :=
 match dst with
 |some d=>s.set d v
 |none=>s
def hp(ops:Array Oper)(s:List J)(o:Oper):Option Bool :=
 match o.guard with
 |none=>some true
 |some (j,want) =>
  match (ops[j]?).bind (·.dst)with
  |some d =>
   match s[d]? with
   |some (.bool b)=>some (b == want)
   |some (.tuple [])=>some false
   |_=>none
  |none=>none
def nQ(E:bi)(call:cR)(ops:Array Oper)(a i:Nat)(s:dX):Option dX :=
 match ops[i]? with
 |none=>some s
 |some o =>
  match hp ops s.dH o with
  |some true =>
   match ho E call (a+i) (cA s.dH) s.heap o.op with
   |some (v,h)=>some ⟨fT s.dH o.dst v,h⟩
   |none=>none
  |some false=>some ⟨fT s.dH o.dst eR,s.heap⟩
  |none=>none
def lE(E:bi)(call:cR)(ops:Array Oper)(a:Nat):List Nat->dX->Option dX
 |[],s=>some s
 |i::r,s =>
  match nQ E call ops a i s with
  |some b=>lE E call ops a r b
  |none=>none
inductive b8 where
 |normal|exit (id:Nat)|goto (l:Nat)|ret
 deriving DecidableEq
inductive sy where
 |pure|load|alloc|store|call|e9|other
 deriving DecidableEq
def cH:Op->sy
 |.move _|.assign _|.pick _ _ _|.build _ _|.nilCheck _|.binOp _ _ _ _ _|.unOp _ _ _|.convert _ _ _|.makeFunc _ _ _|.slice _ _ _ _ _
 |.fieldAddr _ _ _|.field _ _ _|.indexAddr _ _ _|.index _ _ _|.extract _ _|.makeInterface _ _=> .pure
 |.load _ _=> .load
 |.store _ _ _=> .store
 |.alloc _|.box _ _|.buildSlice _ _ _|.makeSlice _ _ _=> .alloc
 |.call c =>
  match c.callee with
  |.value _=> .call
  |.builtin .len|.builtin .max|.builtin .min|.builtin .unsafeSliceData=> .pure
  |.builtin .append=> .e9
  |_=> .other
 |_=> .other
def gM(e:Edge):Bool:=Region.binds .any e
def cW(ops:Array Oper):Array Nat :=
 ops.toList.foldl (λacc o=>acc.push (o.after.toList.foldl (λs e=>if gM e then s ||| 2^e.on ||| acc.getD e.on 0 else s) 0)) #[]
def ordered(a:Array Nat)(i j:Nat):Bool:=(a.getD j 0).testBit i
def tmpsOf(xs:List Operand):List Tmp:=xs.filterMap fun|.tmp t=>some t|_=>none
def pi(ops:Array Oper)(o:Oper):List Tmp :=
 tmpsOf o.op.operands.toList++(match o.guard with|some (g,_)=>((ops[g]?).bind (·.dst)).toList|none=> [])
def sA(ops:Array Oper)(x y:Oper):Bool :=
 (match x.dst with|some d=> !(pi ops y).contains d&&!(y.dst == some d)|none=>true) &&
 (match y.dst with|some d=> !(pi ops x).contains d|none=>true)
def y1:sy->sy->Bool
 |.pure,_|_,.pure=>true
 |.load,.load|.load,.alloc|.alloc,.load|.alloc,.alloc|.call,.load|.load,.call|.load,.store|.store,.load|.e9,.alloc|.alloc,.e9=>true
 |_,_=>false
def my(ops:Array Oper):Bool :=
 let a:=cW ops
 (List.range ops.size).all λj =>
  match ops[j]? with
  |none=>true
  |some y =>
   (y.after.toList.all λe=> !gM e || decide (e.on<j)) &&
   (List.range j).all λi =>
    ordered a i j ||
    match ops[i]? with
    |none=>true
    |some x=>y1 (cH x.op) (cH y.op)&&sA ops x y
mutual
def J.same:J->J->Bool
 |.undef,.undef=>true
 |.bool a,.bool b=>a == b
 |.int k a,.int l b=>decide (k=l)&&a == b
 |.str a,.str b=>a == b
 |.ptr a,.ptr b=>decide (a=b)
 |.slice a n c,.slice b m d=>decide (a=b)&&n == m&&c == d
 |.func f a b,.func g c d=>decide (f=g)&&J.jd a c&&J.jd b d
 |.nilFunc,.nilFunc=>true
 |.iface t a,.iface u b=>t == u&&J.same a b
 |.nilIface,.nilIface=>true
 |.agg a,.agg b=>J.jd a b
 |.tuple a,.tuple b=>J.jd a b
 |_,_=>false
def J.jd:List J->List J->Bool
 |[],[]=>true
 |a::x,b::y=>J.same a b&&J.jd x y
 |_,_=>false
end
def aa.same(a b:aa):Bool :=
 J.jd a.bg b.bg&&a.es == b.es&&a.exact == b.exact&&a.ro == b.ro&&a.ad == b.ad&&a.eH == b.eH&&a.fo == b.fo&&a.ty == b.ty
def hW(b6:Nat)(h Z:T):Bool:=aI.kT aa.same b6 Z.aF h.aF 0 1
def jF(ops:Array Oper)(a:Array Nat)(j:Nat):Bool :=
 (List.range ops.size).any λi =>
  match ops[i]? with
  |some x=>decide (cH x.op=.load)&&!ordered a i j&&!ordered a j i
  |none=>false
def mz(ops:Array Oper)(a:Array Nat)(j:Nat):Bool :=
 (List.range ops.size).any λi =>
  match ops[i]? with
  |some x=>decide (cH x.op=.store)&&!ordered a i j&&!ordered a j i
  |none=>false
def kW(ρ:Operand->J):Op->Option Nat
 |.store _ x _=>match ρ x with|.ptr (some a)=>some a.id|_=>none
 |_=>none
def ii(ρ:Operand->J):Op->Option Nat
 |.load _ x=>match ρ x with|.ptr (some a)=>some a.id|_=>none
 |_=>none
def fU:J->List Nat
 |.slice (some a) _ _=> [a.id]
 |_=> []
def gn(ρ:Operand->J):Op->List Nat
 |.call c=>(c.args.toList.map ρ).flatMap fU
 |_=> []
def fV:Op->Bool
 |.convert _ _ _=>true
 |_=>false
def je(ops:Array Oper)(j:Nat):Bool :=
 let a:=cW ops
 (List.range ops.size).all λi =>
  (i == j) || ordered a i j || ordered a j i ||
   match ops[i]? with
   |some x=>decide (cH x.op=.pure)&&!(fV x.op)
   |none=>true
def kX(ρ:Operand->J):Op->Option J
 |.convert _ _ x=>match ρ x with|.slice a n c=>some (.slice a n c)|_=>none
 |_=>none
def gB(ops:Array Oper)(a j:Nat)(ρ:Operand->J)(o:Op):Bool :=
 match kX ρ o with
 |some x =>
  ((fU x).all λb=>decide (b<a) || (decide (b<a+ops.size)&&ordered (cW ops) (b-a) j)) &&
  ((List.range ops.size).all λi=>(i == j) || ordered (cW ops) i j || ordered (cW ops) j i ||
    match ops[i]? with
    |some y=>decide (cH y.op=.pure) || decide (cH y.op=.load) || decide (cH y.op=.alloc)
    |none=>true)
 |none=>false
def mA(ops:Array Oper)(a j:Nat)(ids:List Nat):Bool :=
 ids.all λb=>decide (b<a) || (decide (b<a+ops.size)&&ordered (cW ops) (b-a) j) || decide (a+ops.size<=b)
def nR(ops:Array Oper)(j:Nat):Bool :=
 (List.range ops.size).all λi=>(i == j) || ordered (cW ops) i j || ordered (cW ops) j i ||
  match ops[i]? with
  |some y=>decide (cH y.op=.pure) || decide (cH y.op=.load)
  |none=>true
def ee(E:bi)(call:cR)(ops:Array Oper)(a j:Nat)(ρ:Operand->J)(h:T)(o:Op):Option (J×T) :=
 match cH o with
 |.load =>
  match ii ρ o with
  |some b=>if nR ops j=true\/b<a\/(b<a+ops.size/\ordered (cW ops) (b-a) j=true/\mz ops (cW ops) j=false)then bt E call (a+j) ρ h o else none
  |none=>none
 |.store =>
  match kW ρ o with
  |some b=>if jF ops (cW ops) j=true/\b<a then none else bt E call (a+j) ρ h o
  |none=>none
 |.call =>
  match bt E call (a+j) ρ h o with
  |some (v,Z)=>if jF ops (cW ops) j then(if hW (a+ops.size) h Z then some (v,Z)else none)else some (v,Z)
  |none=>none
 |.e9=>if mA ops a j (gn ρ o)=true then bt E call (a+j) ρ h o else none
 |.pure =>
  match bt E call (a+j) ρ h o with
  |some r=>some r
  |none=>if fV o=true/\(je ops j=true\/gB ops a j ρ o=true)then du E (a+j) ρ h o else none
 |_=>bt E call (a+j) ρ h o
def jG(E:bi)(call:cR)(ops:Array Oper)(a i:Nat)(s:dX):Option dX :=
 match ops[i]? with
 |none=>some s
 |some o =>
  match hp ops s.dH o with
  |some true =>
   match ee E call ops a i (cA s.dH) s.heap o.op with
   |some (v,h)=>some ⟨fT s.dH o.dst v,h⟩
   |none=>none
  |some false=>some ⟨fT s.dH o.dst eR,s.heap⟩
  |none=>none
def hG(E:bi)(call:cR)(ops:Array Oper)(a:Nat):List Nat->dX->Option dX
 |[],s=>some s
 |i::r,s =>
  match jG E call ops a i s with
  |some b=>hG E call ops a r b
  |none=>none
def pj(E:bi)(call:cR)(ops:Array Oper)(draw:Bool)(s:dX):Option dX :=
 if draw then
  (if my ops then hG E call ops s.heap.M (List.range ops.size) ⟨s.dH,{s.heap with M:=s.heap.M+ops.size}⟩else none)
 else lE E call ops s.heap.M (List.range ops.size) ⟨s.dH,{s.heap with M:=s.heap.M+ops.size}⟩
def dL(E:bi)(call:cR):Nat->Option Code->Code->dX->Option (b8×dX)
 |0,_,_,_=>none
 |n +1,some body,c,s =>
  match dL E call n none c s with
  |some (.goto l,d) =>
   match findLabel body l with
   |some rest=>dL E call n (some body) rest d
   |none=>some (.goto l,d)
  |r=>r
 |n +1,none,c,s =>
  match c with
  |.skip=>some (.normal,s)
  |.label _=>some (.normal,s)
  |.region _ ops draw=>(pj E call ops draw s).map λd=>(.normal,d)
  |.seq a b =>
   match dL E call n none a s with
   |some (.normal,d)=>dL E call n none b d
   |r=>r
  |.cond x a b =>
   match cA s.dH x with
   |.bool true=>dL E call n none a s
   |.bool false=>dL E call n none b s
   |_=>none
  |.block id c =>
   match dL E call n none c s with
   |some (.exit j,d)=>some (if j=id then .normal else .exit j,d)
   |r=>r
  |.loop c =>
   match dL E call n none c s with
   |some (.normal,d)=>dL E call n none (.loop c) d
   |r=>r
  |.scope c=>dL E call n (some c) c s
  |.goto l=>some (.goto l,s)
  |.exit id=>some (.exit id,s)
  |.ret=>some (.ret,s)
  |_=>none
def hq(D:cV)(c8:List ResultVar)(s:dX):Option (List J) :=
 match c8 with
 |[]=>some []
 |.tmp t::r=>(hq D r s).map λl=>s.dH.getD t .undef::l
 |.cell a t::r =>
  match s.dH.getD a .undef with
  |.ptr (some p) =>
   match a6 D t p s.heap,hq D r s with
   |some v,some l=>some (v::l)
   |_,_=>none
  |_=>none
def kk:List J->J
 |[v]=>v
 |l=> .tuple l
def jH(P:Program)(E:bi):Nat->cR
 |0,_,_,_=>none
 |n + 1,f,args,h =>
  match E.qH f with
  |some g=>g args h
  |none =>
  match P.funcs[f]? with
  |some fn =>
   match fn.body with
   |some c =>
    match dL E (jH P E n) n none c ⟨args++List.replicate (fn.ntmps-args.length) eR,h⟩with
    |some (.exit _,_)=>none
    |some (.goto _,_)=>none
    |some (_,s)=>(hq E.D fn.results.toList s).map λl=>(kk l,s.heap)
    |none=>none
   |none=>none
  |none=>none
end
noncomputable section
structure Place where
 bQ:Nat
 off:Nat
 aD:Nat
 es:Nat
 tot:Nat
 exact:Bool
 ro:Bool
abbrev Map:=Nat->Nat->Option Place
def Map.le(φ cn:Map):Prop:= ∀i v p,φ i v=some p->cn i v=some p
def Map.le_refl(φ:Map):φ.le φ:=λ_ _ _ h=>h
def Map.le_trans{φ cn a:Map}(h:φ.le cn)(k:cn.le a):φ.le a:=λi v p e=>k i v p (h i v p e)
def Place.at(p:Place)(idx fld:Nat):Addr:=⟨p.bQ,p.off+(idx-p.aD)*p.es+fld,none⟩
def qI(φ:Map)(a:bB)(x:Addr):Prop :=
 ∃p,φ a.id a.ad=some p/\a.es=p.es/\p.aD<=a.idx/\x=p.at a.idx a.fld
def sB(φ:Map)(a:bB)(x:Addr)(cap cap':Nat):Prop :=
 ∃p,φ a.id a.ad=some p/\a.es=p.es/\(cap'=0\/(p.aD<=a.idx/\x=p.at a.idx 0/\(a.idx-p.aD)+cap'<=p.tot))/\(p.exact=true->cap'=cap)
def qJ(φ:Map)(a:bB)(x:Addr)(cap cap':Nat):Prop :=
 (a.fld=0/\sB φ a x cap cap')\/(∃f,a.fld=f+1/\qI φ {a with fld:=f} x)
variable {cap j m n tot:Nat}
def qJ.plain{φ:Map}{a:bB}{x:Addr}{cap':Nat}(h:qJ φ a x cap cap')(b:a.fld=0):sB φ a x cap cap':=by
 rcases h with h|⟨f,h,_⟩
 .exact h.2
 .omega
mutual
def aA(φ:Map):J->Value->Prop
 |.undef,_=>True
 |.bool b,v=>v=.bool b
 |.int k n,v=>v=.int k n
 |.str s,v=> ∃t:ByteArray,v=.string t/\t.data.toList=s
 |.ptr none,v=>v=.pointer none
 |.ptr (some a),v=> ∃x,v=.pointer (some x)/\qI φ a x
 |.slice none len cap,v=>v=.slice none 0 0/\len=0/\cap=0
 |.slice (some a) len cap,v=> ∃x cap',v=.slice (some x) len cap'/\len<=cap/\cap<=cap'/\qJ φ a x cap cap'
 |.func fn f c,v=> ∃e d,v=.func fn e d/\bo φ f e.toList/\bo φ c d.toList
 |.nilFunc,v=>v=.nilFunc
 |.iface t a,v=> ∃x,v=.iface t x/\aA φ a x
 |.nilIface,v=>v=.nilIface
 |.agg cs,v=> ∃xs,v=.agg xs/\bo φ cs xs.toList
 |.tuple vs,v=> ∃xs,v=.tuple xs/\bo φ vs xs.toList
def bo(φ:Map):List J->List Value->Prop
 |[],l=>l=[]
 |a::r,l=> ∃v t,l=v::t/\aA φ a v/\bo φ r t
end
def qI.mono{φ cn:Map}(h:φ.le cn){a:bB}{x:Addr}(k:qI φ a x):qI cn a x :=
 let ⟨p,e,r⟩:=k;⟨p,h _ _ _ e,r⟩
def sB.mono{φ cn:Map}(h:φ.le cn){a:bB}{x:Addr}{c b:Nat}(k:sB φ a x c b):sB cn a x c b:=by obtain⟨p,e,r⟩:=k;exact⟨p,h _ _ _ e,r⟩
def qJ.mono{φ cn:Map}(h:φ.le cn){a:bB}{x:Addr}{c b:Nat}(k:qJ φ a x c b):qJ cn a x c b:=by
 rcases k with ⟨Y,ag⟩|⟨f,Y,ag⟩
 .exact .inl ⟨Y,ag.mono h⟩
 .exact .inr ⟨f,Y,ag.mono h⟩
mutual
def aA.mono{φ cn:Map}(h:φ.le cn):∀{a:J}{v:Value},aA φ a v->aA cn a v
 |.undef,_,_=>by simp [aA]
 |.bool b,v,k=>by simpa [aA]using k
 |.int _ n,v,k=>by simpa [aA]using k
 |.str s,v,k=>by simpa [aA]using k
 |.ptr none,v,k=>by simpa [aA]using k
 |.ptr (some a),v,k=>by simp only [aA]at k⊢;obtain⟨x,e,r⟩:=k;exact⟨x,e,r.mono h⟩
 |.slice none len cap,v,k=>by simpa [aA]using k
 |.slice (some a) len cap,v,k=>by simp only [aA]at k⊢;obtain⟨x,c,e,i,l2,r⟩:=k;exact⟨x,c,e,i,l2,r.mono h⟩
 |.func fn f c,v,k=>by simp only [aA]at k⊢;obtain⟨g,d,e,j,l⟩:=k;exact⟨g,d,e,bo.mono h j,bo.mono h l⟩
 |.nilFunc,v,k=>by simpa [aA]using k
 |.iface t a,v,k=>by simp only [aA]at k⊢;obtain⟨x,e,r⟩:=k;exact⟨x,e,aA.mono h r⟩
 |.nilIface,v,k=>by simpa [aA]using k
 |.agg cs,v,k=>by simp only [aA]at k⊢;obtain⟨x,e,r⟩:=k;exact⟨x,e,bo.mono h r⟩
 |.tuple cs,v,k=>by simp only [aA]at k⊢;obtain⟨x,e,r⟩:=k;exact⟨x,e,bo.mono h r⟩
def bo.mono{φ cn:Map}(h:φ.le cn):∀{l:List J}{t:List Value},bo φ l t->bo cn l t
 |[],t,k=>by simpa [bo]using k
 |a::r,t,k=>by simp only [bo]at k⊢;obtain⟨v,d,e,b,c⟩:=k;exact⟨v,d,e,aA.mono h b,bo.mono h c⟩
end
def bo.length{φ:Map} :∀{l:List J}{t:List Value},bo φ l t->t.length=l.length
 |[],t,k=>by simp only [bo]at k;simp [k]
 |a::r,t,k=>by simp only [bo]at k;obtain⟨v,d,e,c,b⟩:=k;simp [e,bo.length b]
def bo.get{φ:Map} :∀{l:List J}{t:List Value}{i:Nat}{a:J},bo φ l t->l[i]? =some a-> ∃v,t[i]? =some v/\aA φ a v
 |[],t,i,a,k,h=>by simp at h
 |b::r,t,i,a,k,h=>by
  simp only [bo]at k;obtain⟨v,g,e,c,d⟩:=k;subst e;cases i with
  |zero=>simp at h;subst h;exact⟨v,au,c⟩
  |succ i=>simp at h;obtain⟨u,hu,f⟩:=bo.get d h;exact⟨u,by simpa using hu,f⟩
def bo.dI{φ:Map} :∀{l:List J}{t:List Value},t.length=l.length->(∀(i:Nat)(a:J)(v:Value),l[i]? =some a->t[i]? =some v->aA φ a v)->bo φ l t
 |[],t,b,h=>by simp at b;simp [bo,b]
 |a::r,[],b,h=>by simp at b
 |a::r,v::t,b,h=>by simp only [bo];refine⟨v,t,rfl,h 0 a v au au,bo.dI (by simpa using b) λi c f d e=>h (i+1) c f (by simpa using d) (by simpa using e)⟩
def bo.append{φ:Map}{l m:List J}{t u:List Value}(h:bo φ l t)(k:bo φ m u):bo φ (l++m) (t++u):=by
 induction l generalizing t with
 |nil=>simp only [bo]at h;simpa [h]using k
 |cons a r ih =>
  simp only [bo]at h;obtain⟨v,d,e,b,c⟩:=h;simp only [hB,bo];exact⟨v,d++u,by simp [e],b,ih c⟩
def bo.set{φ:Map}{l:List J}{t:List Value}(h:bo φ l t)(i:Nat){a:J}{v:Value}(k:aA φ a v):bo φ (l.set i a) (t.set i v):=by
 refine bo.dI (by simp [h.length]) λj b u c hu=> ?_
 by_cases e:i=j
 .subst e
  have ah:i<l.length:=by have:=(e4.1 c).1;simpa using this
  rw [sh (by simpa using ah)]at c;rw [sh (by rw [h.length];exact ah)]at hu;simp at c hu;subst c hu;exact k
 .rw [qo e]at c hu;obtain⟨x,d,rx⟩:=h.get c;rw [hu]at d;simp at d;subst d;exact rx
def bo.drop{φ:Map}{l:List J}{t:List Value}(h:bo φ l t)(n:Nat):bo φ (l.drop n) (t.drop n):=by
 refine bo.dI (by simp [h.length]) λj b u c hu=> ?_
 rw [lx]at c hu;obtain⟨x,a,rx⟩:=h.get c;rw [hu]at a;simp at a;subst a;exact rx
def bo.take{φ:Map}{l:List J}{t:List Value}(h:bo φ l t)(n:Nat):bo φ (l.take n) (t.take n):=by
 refine bo.dI (by simp [h.length]) λj b u a hu=> ?_
 rw [ke]at a hu;split at a
 .rename_i d;rw [az d]at hu;obtain⟨x,c,rx⟩:=h.get a;rw [hu]at c;simp at c;subst c;exact rx
 .simp at a
def bo.map{φ:Map}{α:Type}(l:List α)(f:α->J)(g:α->Value)(h:∀x∈l,aA φ (f x) (g x)):bo φ (l.map f) (l.map g):=by
 induction l with
 |nil=>simp [bo]
 |cons x r ih =>
  simp only [ei,bo];exact⟨_,_,rfl,h x au,ih λy a=>h y (by simp [a])⟩
def bo.getD{φ:Map}{l:List J}{t:List Value}(h:bo φ l t)(i:Nat):aA φ (l.getD i .undef) (t.getD i undef):=by
 by_cases ah:i<l.length
 .obtain⟨v,b,c⟩:=h.get (i:=i) (a:=l[i]) (ds ah);rw [hC,hC,ds ah,b];simpa using c
 .rw [hC,ib A];simp [aA]
def aA.eR(φ:Map):aA φ eR undef:=by simp only [aA];exact⟨#[],rfl,by simp [bo]⟩
def bo.replicate{φ:Map}{a:J}{v:Value}(h:aA φ a v)(n:Nat):bo φ (List.replicate n a) (List.replicate n v):=by
 induction n with
 |zero=>simp [bo]
 |succ n ih=>simp only [List.replicate_succ,bo];exact⟨_,_,rfl,h,ih⟩
def vu(φ:Map)(v:Value):aA φ (fK v) v:=by unfold fK;split<;>simp [aA]
def DY(φ:Map)(v:Value):aA φ (nL v) v:=by
 unfold nL;split
 .rename_i cs;simp only [aA];refine⟨cs,rfl,?_⟩;have:=bo.map (φ:=φ) cs.toList fK id (λx _=>vu φ x);simpa using this
 .simp only [aA];exact⟨_,rfl,vu φ _⟩
 .exact vu φ v
def aA.cells{φ:Map}{a:J}{v:Value}(h:aA φ a v)(hu:a≠ .undef):bo φ a.cells v.cells.toList:=by
 cases a with
 |undef=>exact absurd rfl hu
 |agg cs=>simp only [aA]at h;obtain⟨xs,rfl,r⟩:=h;simpa [J.cells,Value.cells]using r
 |bool b=>have Z:=h;simp only [aA]at h;subst h;simp only [J.cells,Value.cells,bo];exact⟨_,_,rfl,Z,rfl⟩
 |int k n=>have Z:=h;simp only [aA]at h;subst h;simp only [J.cells,Value.cells,bo];exact⟨_,_,rfl,Z,rfl⟩
 |str s=>have Z:=h;simp only [aA]at h;obtain⟨t,rfl,e⟩:=h;simp only [J.cells,Value.cells,bo];exact⟨_,_,rfl,Z,rfl⟩
 |ptr o =>
  have Z:=h;cases o with
  |none=>simp only [aA]at h;subst h;simp only [J.cells,Value.cells,bo];exact⟨_,_,rfl,Z,rfl⟩
  |some x=>simp only [aA]at h;obtain⟨t,rfl,e⟩:=h;simp only [J.cells,Value.cells,bo];exact⟨_,_,rfl,Z,rfl⟩
 |slice o l c =>
  have Z:=h;cases o with
  |none=>simp only [aA]at h;obtain⟨rfl,_⟩:=h;simp only [J.cells,Value.cells,bo];exact⟨_,_,rfl,Z,rfl⟩
  |some x=>simp only [aA]at h;obtain⟨t,d,rfl,e⟩:=h;simp only [J.cells,Value.cells,bo];exact⟨_,_,rfl,Z,rfl⟩
 |func fn f c=>have Z:=h;simp only [aA]at h;obtain⟨t,d,rfl,e⟩:=h;simp only [J.cells,Value.cells,bo];exact⟨_,_,rfl,Z,rfl⟩
 |nilFunc=>have Z:=h;simp only [aA]at h;subst h;simp only [J.cells,Value.cells,bo];exact⟨_,_,rfl,Z,rfl⟩
 |iface t x=>have Z:=h;simp only [aA]at h;obtain⟨t,rfl,e⟩:=h;simp only [J.cells,Value.cells,bo];exact⟨_,_,rfl,Z,rfl⟩
 |nilIface=>have Z:=h;simp only [aA]at h;subst h;simp only [J.cells,Value.cells,bo];exact⟨_,_,rfl,Z,rfl⟩
 |tuple vs=>have Z:=h;simp only [aA]at h;obtain⟨t,rfl,e⟩:=h;simp only [J.cells,Value.cells,bo];exact⟨_,_,rfl,Z,rfl⟩
structure Safe(S:Nat->Prop)(w a7:World):Prop where
 os:a7.os=w.os
 tape:a7.tape=w.tape
 output:a7.output=w.output
 size:w.heap.size<=a7.heap.size
 block:∀k,S k->a7.heap[k]? =w.heap[k]?
def dS(S:Nat->Prop)(n:Nat):Prop:= ∀k,S k->k<n
def dS.le{S:Nat->Prop}(h:dS S n)(k:n<=m):dS S m:=λi ah=>kf (h i ah) k
def dS.no{S:Nat->Prop}(h:dS S n):¬S n:=λk=>Nat.lt_irrefl _ (h n k)
def Safe.refl(S:Nat->Prop)(w:World):Safe S w w:=⟨rfl,rfl,rfl,Nat.le_refl _,λ_ _=>rfl⟩
def Safe.trans{S:Nat->Prop}{a b c:World}(h:Safe S a b)(k:Safe S b c):Safe S a c :=
 ⟨k.os.trans h.os,k.tape.trans h.tape,k.output.trans h.output,Nat.le_trans h.size k.size,λi ah=>(k.block i ah).trans (h.block i ah)⟩
def Safe.less{S a:Nat->Prop}{w a7:World}(h:Safe S w a7)(k:∀i,a i->S i):Safe a w a7:=⟨h.os,h.tape,h.output,h.size,λi ah=>h.block i (k i ah)⟩
def Safe.drew{S:Nat->Prop}{a w:World}(h:Safe S a w):Safe S a w.drew:=⟨h.os,h.tape,h.output,h.size,h.block⟩
def Safe.alloc{S:Nat->Prop}{a w:World}(h:Safe S a w)(b:dS S w.heap.size)(o:Obj):Safe S a (w.alloc o) :=
 h.trans ⟨rfl,rfl,rfl,au,λk c=>Go.RowKit.Below.heap_alloc _ _ _ (b k c)⟩
def Safe.setCell{S:Nat->Prop}{a w:World}(h:Safe S a w){p:Addr}(ae:¬S p.block)(u:Value):Safe S a (w.setCell p u) :=
 h.trans ⟨rfl,rfl,rfl,by simp [World.setCell],λk b=>Go.RowKit.Below.heap_setCell _ _ _ _ (λe=>ae (e▸b))⟩
def Safe.below{w a7:World}(h:Safe (λk=>k<n) w a7):Go.RowKit.Below n w a7:=⟨h.os,h.tape,h.output,h.size,h.block⟩
def ej(w:World)(b:Nat):Option (TypeId×Nat×Nat×Nat) :=
 match w.heap[b]? with
 |some (.cells c t (aD,ah))=>some (t,c.size,aD,ah)
 |_=>none
def iN(w:World)(b:Nat):Prop:= ∃t n aD ah,ej w b=some (t,n,aD,ah)/\(aD=ah\/n<=aD)
def iN.of_eq{w a7:World}{b:Nat}(h:iN w b)(e:ej a7 b=ej w b):iN a7 b:=by unfold iN;rw [e];exact h
def pk{w a7:World}{b:Nat}(e:a7.heap[b]? =w.heap[b]?):ej a7 b=ej w b:=by unfold ej;rw [e]
structure Row(φ:Map)(aR:Nat->Prop)(b:aa)(v:Nat)(p:Place)(w:World):Prop where
 bQ:p.bQ<w.heap.size
 base:p.ro=false-> ¬aR p.bQ
 cells:∀o,o<p.tot*p.es->(w.cell? ⟨p.bQ,p.off+o,none⟩).isSome=true
 free:b.ro=false-> ∀o,o<p.tot*p.es->w.frozen? ⟨p.bQ,p.off+o,none⟩=false
 mark:b.ro=false->iN w p.bQ
 hr:∀q,b.ty=some q-> ∃n aD ah,ej w p.bQ=some (q.1,n,aD,ah)/\(q.2≠0->n=q.2)/\p.off=0
 cont:∀i e,p.aD<=i->i<b.b6 v->b.bg[i]? =some e ->
  e.cells.length=p.es/\i-p.aD<p.tot/\∀j bD,e.cells[j]? =some bD-> ∃x,w.cell? (p.at i j)=some x/\aA φ bD x/\x.oneCell'=true
structure cv(φ:Map)(aR:Nat->Prop)(h:T)(w:World):Prop where
 cN:∀i v p,φ i v=some p->i<h.M/\∃b,h.get i=some b/\v<=b.ad/\p.es=b.es/\p.exact=b.exact/\(b.ro=false->p.ro=false)/\0<p.es/\Row φ aR b v p w
 apart:∀i v p j u q,φ i v=some p->φ j u=some q->p.bQ=q.bQ->i≠j->p.ro=true/\q.ro=true
 same:∀i v p u q,φ i v=some p->φ i u=some q->p.bQ=q.bQ->p.off=q.off/\p.aD=q.aD
structure fB(φ cn:Map)(n nid:Nat):Prop where
 le:φ.le cn
 new:∀i,i<n->i≠nid->(∀v,φ i v=none)-> ∀v,cn i v=none
 ro:∀i v p,cn i v=some p->p.ro=true->φ i v=some p
def fB.refl(φ:Map)(n nid:Nat):fB φ φ n nid:=⟨φ.le_refl,λ_ _ _ h=>h,λ_ _ _ h _=>h⟩
structure dM(φ cn:Map)(n:Nat):Prop where
 le:φ.le cn
 new:∀i,i<n->(∀u,φ i u=none)-> ∀u,cn i u=none
 ro:∀i v p,cn i v=some p->p.ro=true->φ i v=some p
def dM.refl(φ:Map)(n:Nat):dM φ φ n:=⟨φ.le_refl,λ_ _ h=>h,λ_ _ _ h _=>h⟩
def dM.trans{φ cn b:Map}(h:dM φ cn n)(k:dM cn b n):dM φ b n:=⟨Map.le_trans h.le k.le,λi ah aw=>k.new i ah (h.new i ah aw),λi v p ae a=>h.ro i v p (k.ro i v p ae a) a⟩
def dM.mono{φ cn:Map}(h:dM φ cn n)(hm:m<=n):dM φ cn m:=⟨h.le,λi ah aw=>h.new i A aw,h.ro⟩
def T.iK(h:T)(id:Nat)(b:aa)(j:Nat):(h.set id b).get j=if id=j then some b else h.get j:=aI.iK b h.aF id j
@[simp] theorem T.Mg(h:T)(id:Nat)(b:aa) : (h.set id b).M = h.M := rfl
def T.eD(h:T)(id:Nat)(b:aa):(h.set id b).get id=some b:=by simp [T.iK]
def T.dN(h:T){id:Nat}(b:aa)(e:id≠j):(h.set id b).get j=h.get j:=by simp [T.iK,e]
@[simp] theorem T.ZB(h:T)(n j:Nat) : ({ h with M := n } : T).get j = h.get j := rfl
def aa.DZ(l:List J)(es:Nat)(e:Bool)(ty:Option (TypeId×Nat))(v:Nat):(aa.an l es e ty).b6 v=if v=0 then l.length else 0:=by
 by_cases a:v=0
 .subst a;simp [aa.b6,aa.an]
 .simp [aa.b6,aa.an,a]
structure Alike(w a7:World):Prop where
 size:w.heap.size<=a7.heap.size
 cell:∀a,a.block<w.heap.size->a7.cell? a=w.cell? a
 frozen:∀a,a.block<w.heap.size->a7.frozen? a=w.frozen? a
 mark:∀b,b<w.heap.size->ej a7 b=ej w b
def Row.alike{φ:Map}{aR:Nat->Prop}{b:aa}{v:Nat}{p:Place}{w a7:World}(r:Row φ aR b v p w)(k:Alike w a7):Row φ aR b v p a7 where
 bQ:=kf r.bQ k.size
 base:=r.base
 cells o a:=by rw [k.cell _ r.bQ];exact r.cells o a
 free c o a:=by rw [k.frozen _ r.bQ];exact r.free c o a
 mark c:=(r.mark c).of_eq (k.mark _ r.bQ)
 hr t l:=by rw [k.mark _ r.bQ];exact r.hr t l
 cont i e Y ag d:=by obtain⟨f,g,h⟩:=r.cont i e Y ag d;refine⟨f,g,λj bD m=> ?_⟩;obtain⟨x,n,q⟩:=h j bD m;exact⟨x,by rw [k.cell _ (by exact r.bQ)];exact n,q⟩
def Row.mono{φ cn:Map}(h:φ.le cn){aR:Nat->Prop}{b:aa}{v:Nat}{p:Place}{w:World}(r:Row φ aR b v p w):Row cn aR b v p w :=
 ⟨r.bQ,r.base,r.cells,r.free,r.mark,r.hr,λi e Y ag c=>by
  obtain⟨d,f,g⟩:=r.cont i e Y ag c;refine⟨d,f,λj bD k=> ?_⟩;obtain⟨x,l,a⟩:=g j bD k
  exact⟨x,l,a.1.mono h,a.2⟩⟩
def cv.alike{φ:Map}{aR:Nat->Prop}{h:T}{w a7:World}(r:cv φ aR h w)(k:Alike w a7):cv φ aR h a7 where
 cN i v p ae:=by obtain⟨Y,b,ag,a,c,d,e,f,g⟩:=r.cN i v p ae;exact⟨Y,b,ag,a,c,d,e,f,g.alike k⟩
 apart:=r.apart
 same:=r.same
def cv.M{φ:Map}{aR:Nat->Prop}{h:T}{w:World}(r:cv φ aR h w)(aw:h.M<=n):cv φ aR {h with M:=n} w where
 cN i v p ae:=by obtain⟨Y,b,ag,a,c,d,e,f,g⟩:=r.cN i v p ae;exact⟨kf Y aw,b,ag,a,c,d,e,f,g⟩
 apart:=r.apart
 same:=r.same
def Alike.drew(w:World)(n:Nat):Alike w {w with drawn:=n} :=⟨Nat.le_refl _,λ_ _=>rfl,λ_ _=>rfl,λ_ _=>rfl⟩
def heap_alloc(w:World)(o:Obj):(w.alloc o).heap=w.heap.push o:=rfl
def size_alloc(w:World)(o:Obj):(w.alloc o).heap.size=w.heap.size+1:=by rw [heap_alloc];simp
def Alike.alloc(w:World)(o:Obj):Alike w (w.alloc o) where
 size:=by rw [size_alloc];omega
 cell a c:=by
  have:(w.heap.push o)[a.block]? =w.heap[a.block]? :=by rw [si];simp;omega
  simp only [World.cell?,heap_alloc,this]
 frozen a c:=by
  have:(w.heap.push o)[a.block]? =w.heap[a.block]? :=by rw [si];simp;omega
  simp only [World.frozen?,heap_alloc,this]
 mark b d:=pk (by rw [heap_alloc,si];simp;omega)
def Map.add(φ:Map)(id v:Nat)(p:Place):Map:=λi u=>if i=id/\u=v then some p else φ i u
def Map.vv(φ:Map)(id v:Nat)(p:Place):φ.add id v p id v=some p:=by simp [Map.add]
def Map.nS(φ:Map){id v:Nat}(p:Place)(h:φ id v=none):φ.le (φ.add id v p):=by
 intro i u q a;simp only [Map.add];split
 .rename_i e;obtain⟨rfl,rfl⟩:=e;rw [h]at a;cases a
 .exact a
def Map.y2(φ:Map){id v:Nat}(p:Place)(c:p.ro=false):∀i u q,(φ.add id v p) i u=some q->q.ro=true->φ i u=some q:=by
 intro i u q a b;unfold Map.add at a;split at a
 .simp only [a8]at a;subst a;rw [c]at b;cases b
 .exact a
def fB.add(φ:Map){id v:Nat}(p:Place)(h:φ id v=none)(n:Nat)(b:p.ro=false:=by rfl):fB φ (φ.add id v p) n id where
 le:=φ.nS p h
 new i ah a aw u:=by simp [Map.add,a,aw u]
 ro:=φ.y2 p b
def flat(l:List J):List J:=l.flatMap J.cells
def lF{es:Nat} :∀{l:List J}(b:∀e∈l,e.cells.length=es){i j:Nat}{e x:J},l[i]? =some e->e.cells[j]? =some x->(flat l)[i*es+j]? =some x
 |[],b,i,j,e,x,h,k=>by simp at h
 |a ::r,b,i,j,e,x,h,k=>by
  have c:a.cells.length=es:=b a au;cases i with
  |zero =>
   simp at h;subst h;simp only [flat,kP,Nat.zero_mul,gw];rw [mq (e4.1 k).1];exact k
  |succ i =>
   simp at h;have ih:=lF (l:=r) (λe he=>b e (by simp [he])) h k;simp only [flat,kP]at ih⊢;rw [o5 (by rw [c,qp];omega),c,show(i+1)*es+j-es=i*es+j by rw [qp];omega];exact ih
def jf{es:Nat} :∀{l:List J}(b:∀e∈l,e.cells.length=es),(flat l).length=l.length*es
 |[],_=>by simp [flat]
 |a::r,b=>by have c:a.cells.length=es:=b a au;have ih:=jf (l:=r) (λe he=>b e (by simp [he]));simp only [flat,kP,dt,bK]at ih⊢;rw [ih,c,qp];omega
def qK(w:World)(c:Array Value)(t:TypeId)(f:Nat×Nat)(o:Nat):(w.alloc (.cells c t f)).cell? ⟨w.heap.size,o,none⟩=c[o]? :=by simp [World.cell?,heap_alloc]
def D0(w:World)(c:Array Value)(t:TypeId)(o:Nat):(w.alloc (.cells c t)).frozen? ⟨w.heap.size,o,none⟩=false:=by simp [World.frozen?,heap_alloc]
def cv.an{φ:Map}{aR:Nat->Prop}{h:T}{w:World}(r:cv φ aR h w){nid:Nat}(hid:∀v,φ nid v=none)(aw:nid<h.M)(H:dS aR w.heap.size)
 {l:List J} {es:Nat} (I:0<es) (n:∀e∈l,e.cells.length=es) {c:Array Value} {t:TypeId}  {ex:Bool}
 (aj:bo φ (flat l) (c.toList.take (l.length*es))) (Q:tot*es<=c.size) (R:l.length<=tot) (N:∀x∈c.toList.take (l.length*es),x.oneCell'=true) {ty:Option (TypeId×Nat)} (z:∀q,ty=some q->q.1=t/\(q.2≠0->c.size=q.2)) :
 cv (φ.add nid 0 ⟨w.heap.size,0,0,es,tot,ex,false⟩) aR (h.set nid (.an l es ex ty)) (w.alloc (.cells c t)):=by
 have hle:=φ.nS (id:=nid) (v:=0) ⟨w.heap.size,0,0,es,tot,ex,false⟩ (hid 0);constructor
 .intro i v p ae;simp only [Map.add]at ae;split at ae
  .rename_i e;obtain⟨rfl,rfl⟩:=e;simp at ae;subst ae;refine⟨aw,.an l es ex ty,T.eD _ _ _,Nat.le_refl _,rfl,rfl,λ_=>rfl,I,?_⟩;constructor
   .rw [size_alloc];simp
   .intro _;exact H.no
   .intro o s;simp only at s⊢;rw [qK,gw,kg A];rfl
   .intro _ o s;exact D0 _ _ _ _
   .intro _;exact⟨t,c.size,0,0,by simp [ej,heap_alloc],.inl rfl⟩
   .intro B y;exact⟨c.size,0,0,by rw [(z B y).1];simp [ej,heap_alloc],(z B y).2,rfl⟩
   .intro i e _ ah he;rw [aa.DZ]at ah;simp at ah;have k:l[i]? =some e:=he;have hm:e∈l:=gx k;refine⟨n e hm,by simp only;omega,λj bD O=> ?_⟩;have K:=lF n k O;obtain⟨x,g,P⟩:=aj.get K;refine⟨x,?_,P.mono hle,N x (gx g)⟩;simp only [Place.at,o6,gw];rw [qK];rw [ke]at g;split at g
    .simpa using g
    .simp at g
  .obtain⟨Y,b,ag,C,D,E,F,G,d⟩:=r.cN i v p ae;have L:nid≠i:=by intro e;subst e;rw [hid v]at ae;cases ae
   exact⟨Y,b,by rw [T.dN _ _ L];exact ag,C,D,E,F,G,(d.alike (Alike.alloc _ _)).mono hle⟩
 .intro i v p j u q ae a f m;simp only [Map.add]at ae a;split at ae<;>split at a
  .rename_i aQ aZ;exact absurd (aQ.1.trans aZ.1.symm) m
  .simp at ae;subst ae;obtain⟨_,b,_,_,_,_,_,_,d⟩:=r.cN j u q a;have:=d.bQ;simp only at f;omega
  .simp at a;subst a;obtain⟨_,b,_,_,_,_,_,_,d⟩:=r.cN i v p ae;have:=d.bQ;simp only at f;omega
  .exact r.apart i v p j u q ae a f m
 .intro i v p u q ae a f;simp only [Map.add]at ae a;split at ae<;>split at a
  .simp at ae a;subst ae a;exact⟨rfl,rfl⟩
  .simp at ae;subst ae;obtain⟨_,b,_,_,_,_,_,_,d⟩:=r.cN i u q a;have:=d.bQ;simp only at f;omega
  .simp at a;subst a;obtain⟨_,b,_,_,_,_,_,_,d⟩:=r.cN i v p ae;have:=d.bQ;simp only at f;omega
  .exact r.same i v p u q ae a f
def cv.Mh{φ:Map}{aR:Nat->Prop}{h:T}{w:World}(r:cv φ aR h w){nid:Nat}(hid:∀v,φ nid v=none)(aw:nid<h.M)(I:dS aR w.heap.size)
 {l:List J} {es:Nat} (K:0<es) (s:∀e∈l,e.cells.length=es) {c:Array Value} {t:TypeId} {cd:Nat×Nat}  {ex:Bool}
 (aj:bo φ (flat l) (c.toList.take (l.length*es))) (R:tot*es<=c.size) (S:l.length<=tot) (O:∀x∈c.toList.take (l.length*es),x.oneCell'=true) (y:cd.1=cd.2\/c.size<=cd.1) {ty:Option (TypeId×Nat)} (B:∀q,ty=some q->q.1=t/\(q.2≠0->c.size=q.2)) :
 cv (φ.add nid 0 ⟨w.heap.size,0,0,es,tot,ex,false⟩) aR (h.set nid (.an l es ex ty)) (w.alloc (.cells c t cd)):=by
 have hle:=φ.nS (id:=nid) (v:=0) ⟨w.heap.size,0,0,es,tot,ex,false⟩ (hid 0);constructor
 .intro i v p ae;simp only [Map.add]at ae;split at ae
  .rename_i e;obtain⟨rfl,rfl⟩:=e;simp at ae;subst ae;refine⟨aw,.an l es ex ty,T.eD _ _ _,Nat.le_refl _,rfl,rfl,λ_=>rfl,K,?_⟩;constructor
   .rw [size_alloc];simp
   .intro _;exact I.no
   .intro o k;simp only at k⊢;rw [qK,gw,kg A];rfl
   .intro _ o k;simp only at k⊢;rw [gw];simp only [World.frozen?,heap_alloc,Array.getElem?_push_size];obtain⟨f1,f2⟩:=cd;simp only at y⊢;simp;omega
   .intro _;exact⟨t,c.size,cd.1,cd.2,by simp [ej,heap_alloc],y⟩
   .intro C z;exact⟨c.size,cd.1,cd.2,by rw [(B C z).1];simp [ej,heap_alloc],(B C z).2,rfl⟩
   .intro i e _ ah he;rw [aa.DZ]at ah;simp at ah;have m:l[i]? =some e:=he;have hm:e∈l:=gx m;refine⟨s e hm,by simp only;omega,λj bD P=> ?_⟩;have L:=lF s m P;obtain⟨x,g,Q⟩:=aj.get L;refine⟨x,?_,Q.mono hle,O x (gx g)⟩;simp only [Place.at,o6,gw];rw [qK];rw [ke]at g;split at g
    .simpa using g
    .simp at g
  .obtain⟨Y,b,ag,D,E,F,G,H,d⟩:=r.cN i v p ae;have N:nid≠i:=by intro e;subst e;rw [hid v]at ae;cases ae
   exact⟨Y,b,by rw [T.dN _ _ N];exact ag,D,E,F,G,H,(d.alike (Alike.alloc _ _)).mono hle⟩
 .intro i v p j u q ae a f n;simp only [Map.add]at ae a;split at ae<;>split at a
  .rename_i aQ aZ;exact absurd (aQ.1.trans aZ.1.symm) n
  .simp at ae;subst ae;obtain⟨_,b,_,_,_,_,_,_,d⟩:=r.cN j u q a;have:=d.bQ;simp only at f;omega
  .simp at a;subst a;obtain⟨_,b,_,_,_,_,_,_,d⟩:=r.cN i v p ae;have:=d.bQ;simp only at f;omega
  .exact r.apart i v p j u q ae a f n
 .intro i v p u q ae a f;simp only [Map.add]at ae a;split at ae<;>split at a
  .simp at ae a;subst ae a;exact⟨rfl,rfl⟩
  .simp at ae;subst ae;obtain⟨_,b,_,_,_,_,_,_,d⟩:=r.cN i u q a;have:=d.bQ;simp only at f;omega
  .simp at a;subst a;obtain⟨_,b,_,_,_,_,_,_,d⟩:=r.cN i v p ae;have:=d.bQ;simp only at f;omega
  .exact r.same i v p u q ae a f
end
noncomputable section
def y3:∀(vs l:List J)(i:Nat),(gW l i vs).length=l.length
 |[],l,i=>rfl
 |v::vs,l,i=>by simp [gW,y3 vs]
def vw:∀(vs l:List J)(i k:Nat),(gW l i vs)[k]? =if i<=k/\k<i+vs.length/\k<l.length then vs[k-i]? else l[k]?
 |[],l,i,k=>by simp only [gW,cq,qq];rw [ai A]
 |v ::vs,l,i,k=>by
  simp only [gW,bK];rw [vw vs (l.set i v) (i+1) k,List.length_set];by_cases a:i=k
  .subst a;rw [ai A];by_cases b:i<l.length
   .rw [az A,sh b];simp
   .rw [ai A,ib (by simpa using b),ib A]
  .rw [qo a];by_cases h:i+1<=k/\k<i+1+vs.length/\k<l.length
   .rw [az h,az A,show k-i=k- (i+1)+1 by omega];simp
   .rw [ai h,ai A]
def World.y4(b:Nat):∀(vs:List Value)(o:Nat)(w:World),(w.setCells b o vs).heap.size=w.heap.size
 |[],_,_=>rfl
 |v::r,o,w=>by rw [World.setCells,World.y4 b r];exact World.size_setCell _ _ _
def D1(w:World)(a:Addr)(v:Value)(k:Nat):ej (w.setCell a v) k=ej w k:=by
 unfold ej World.setCell;simp only [Array.getElem?_modify];by_cases h:a.block=k
 .subst h;simp only [dG];cases b:w.heap[a.block]? with
  |none=>rfl
  |some o =>
   cases o
   case cells c t f =>
    obtain⟨aD,ah⟩:=f;simp only [eE];split<;>simp
   all_goals rfl
 .rw [ai h]
variable {i j k tot:Nat}
def iN.setCells{w:World}(h:iN w k)(b o:Nat):∀(vs:List Value),iN (w.setCells b o vs) k:=by
 intro vs;induction vs generalizing w o with
 |nil=>exact h
 |cons v r ih=>exact ih (h.of_eq (D1 _ _ _ _)) _
def sC{w:World}(k b o:Nat):∀(vs:List Value),ej (w.setCells b o vs) k=ej w k:=by
 intro vs;induction vs generalizing w o with
 |nil=>rfl
 |cons v r ih=>exact(ih _).trans (D1 _ _ _ _)
def qL{es:Nat}(ah:i<tot)(a:j<es):i*es+j<tot*es:=by have h:(i+1)*es<=tot*es:=o7 es ah;rw [qp]at h;omega
def qM{es:Nat}(ah:i<k)(a:j<es):i*es+j<k*es:=qL ah a
variable {vs:List Value}{b:aa}
def cv.wrote{φ:Map}{aR:Nat->Prop}{h:T}{w:World}(r:cv φ aR h w){id:Nat}{p:Place}(ae:φ id b.ad=some p)(F:h.get id=some b)
 (W:b.ro=false) {l:List J} (H:l.length=b.bg.length) {o:Nat} 
 (aj:∀i e,p.aD<=i->l[i]? =some e->e.cells.length=p.es/\∀j bD,e.cells[j]? =some bD-> ∃x,(w.setCells p.bQ o vs).cell? (p.at i j)=some x/\aA φ bD x/\x.oneCell'=true) :
 cv φ aR (h.set id {b with bg:=l,eH:=b.ad}) (w.setCells p.bQ o vs):=by
 constructor
 .intro i v q t;obtain⟨Y,c,ag,z,B,C,D,E,d⟩:=r.cN i v q t;have I:=World.y4 p.bQ vs o w;by_cases ah:i=id
  .subst ah;rw [F]at ag;simp at ag;subst ag;refine⟨Y,_,T.eD _ _ _,z,B,C,D,E,⟨by rw [I];exact d.bQ,d.base,λn m=>World.isSome_setCells _ _ _ _ _ (d.cells n m),λf n m=>by rw [World.frozen?_setCells];exact d.free f n m,λf=>(d.mark f).setCells _ _ _,λt9 f=>by rw [sC];exact d.hr t9 f,?_⟩⟩;intro k e s g u;simp only [aa.b6]at g;by_cases K:v=b.ad
   .subst K;rw [ae]at t;simp at t;subst t;rw [az rfl]at g;obtain⟨e',R⟩:∃e',b.bg[k]? =some e':=⟨_,ds (by simpa [H]using g)⟩
    have:=d.cont k e' s (by simpa [aa.b6,H]using g) R;exact⟨(aj k e s u).1,this.2.1,(aj k e s u).2⟩
   .exfalso;rw [ai K]at g;rw [ai A]at g;omega
  .have U:p.bQ≠q.bQ:=by intro e;have:=r.apart id b.ad p i v q ae t e (λe=>ah e.symm);obtain⟨_,a2,y,_,_,_,P,_,_⟩:=r.cN id b.ad p ae;rw [F]at y;simp at y;subst y;rw [P W]at this;simp at this
   refine⟨Y,c,by rw [T.dN _ _ (λe=>ah e.symm)];exact ag,z,B,C,D,E,?_⟩;have G:∀a:Addr,a.block=q.bQ->(w.setCells p.bQ o vs).cell? a=w.cell? a:=λa Q=>World.cell?_setCells_out _ _ _ _ _ (λS _=>absurd (S.symm.trans Q) U)
   refine⟨by rw [I];exact d.bQ,d.base,λn m=>by rw [G _ rfl];exact d.cells n m,λf n m=>by rw [World.frozen?_setCells];exact d.free f n m,λf=>(d.mark f).setCells _ _ _,λt9 f=>by rw [sC];exact d.hr t9 f,?_⟩;intro k e s g u;obtain⟨L,N,O⟩:=d.cont k e s g u;refine⟨L,N,λj bD X=> ?_⟩;obtain⟨x,am,a0⟩:=O j bD X;exact⟨x,by rw [G _ rfl];exact am,a0⟩
 .exact r.apart
 .exact r.same
def cv.store{φ:Map}{aR:Nat->Prop}{h:T}{w:World}(r:cv φ aR h w){id:Nat}{p:Place}(ae:φ id b.ad=some p)(l:h.get id=some b)
 (y:b.ro=false) {idx fld:Nat} {e e':J} {cs:List J}  (D:p.aD<=idx) (he:b.bg[idx]? =some e)
 (o:bo φ cs vs) (E:∀x∈vs,x.oneCell'=true) (O:fld+cs.length<=p.es) (hlen:e'.cells=gW e.cells fld cs) :
 cv φ aR (h.set id {b with bg:=b.bg.set idx e',eH:=b.ad}) (w.setCells p.bQ (p.off+(idx-p.aD)*p.es+fld) vs)
 /\w.there p.bQ (p.off+(idx-p.aD)*p.es+fld) vs.length:=by
 obtain⟨Y,c,ag,H,I,K,L,N,n⟩:=r.cN id b.ad p ae;rw [l]at ag;simp at ag;subst ag;have q:idx<b.bg.length:=(e4.1 he).1;have v:b.b6 b.ad=b.bg.length:=by simp [aa.b6]
 obtain⟨cL,c2,c3⟩:=n.cont idx e D (by rw [v];exact q) he;have R:vs.length=cs.length:=o.length
 have z:w.there p.bQ (p.off+(idx-p.aD)*p.es+fld) vs.length:=by intro j t;have l:(idx-p.aD)*p.es+(fld+j)<p.tot*p.es:=qL c2 A;have F:=n.cells _ l;have G:=n.free y _ l;have aQ:p.off+(idx-p.aD)*p.es+fld+j=p.off+((idx-p.aD)*p.es+(fld+j)):= A;rw [aQ];exact⟨F,G⟩
 refine⟨?_,z⟩;refine r.wrote ae l y au λi f ah g=> ?_
 by_cases s:idx=i
 .subst s;rw [sh q]at g;simp at g;subst g;refine⟨by rw [hlen,y3];exact cL,λj bD a=> ?_⟩;rw [hlen,vw]at a;split at a
  .rename_i aj;obtain⟨x,d,m⟩:=o.get a;have u:j-fld<vs.length:= A;have:=World.cell?_setCells_in p.bQ vs (p.off+(idx-p.aD)*p.es+fld) w (λk C=>(z k C).1) (j-fld) u;refine⟨x,?_,m,E x (gx d)⟩;rw [ds u]at d;simp at d;rw [Place.at,show p.off+(idx-p.aD)*p.es+j=p.off+(idx-p.aD)*p.es+fld+(j-fld)by omega,this,d]
  .rename_i aj;obtain⟨x,d,m⟩:=c3 j bD a;refine⟨x,?_,m⟩;have t:j<e.cells.length:=(e4.1 a).1;rw [World.cell?_setCells_out _ _ _ _ _ (λ_ _=> ?_)]
   .exact d
   .simp only [Place.at];omega
 .rw [qo s]at g;have B:i<b.bg.length:=(e4.1 g).1;obtain⟨d1,d2,d3⟩:=n.cont i f ah (by rw [v];exact B) g;refine⟨d1,λj bD a=> ?_⟩;obtain⟨x,d,m⟩:=d3 j bD a;refine⟨x,?_,m⟩;have t:j<f.cells.length:=(e4.1 a).1;rw [World.cell?_setCells_out _ _ _ _ _ (λ_ _=> ?_)]
  .exact d
  .simp only [Place.at];rcases gK i idx with Q|P
   .left;have:=qM (i:=i-p.aD) (k:=idx-p.aD) (j:=j) (es:=p.es) A A;omega
   .right;have:=qM (i:=idx-p.aD) (k:=i-p.aD) (j:=fld+vs.length-1) (es:=p.es) A A;omega
def vx{es:Nat} :∀{l:List J}(b:∀e∈l,e.cells.length=es)(k:Nat),k<(flat l).length-> ∃i j e,k=i*es+j/\l[i]? =some e/\j<es
 |[],b,k,h=>by simp [flat]at h
 |a ::r,b,k,h=>by
  have f:a.cells.length=es:=b a au;by_cases d:k<es
  .exact⟨0,k,a,au,au,d⟩
  .obtain⟨i,j,e,Y,ag,c⟩:=vx (l:=r) (λe he=>b e (by simp [he])) (k-es) (by simp only [flat,kP,dt]at h⊢; omega);exact⟨i+1,j,e,by rw [qp];omega,by simpa using ag,c⟩
def cv.Mi{φ:Map}{aR:Nat->Prop}{h:T}{w:World}(r:cv φ aR h w){id:Nat}{p:Place}(ae:φ id b.ad=some p)(g:h.get id=some b)
 (y:b.ro=false) {idx:Nat} {l:List J}  (S:p.aD<=idx) (E:idx+l.length<=b.bg.length) (F:l≠[])
 (o:∀e∈l,e.cells.length=p.es) (B:bo φ (flat l) vs) (G:∀x∈vs,x.oneCell'=true) :
 cv φ aR (h.set id (b.put idx l)) (w.setCells p.bQ (p.off+(idx-p.aD)*p.es) vs)
 /\w.there p.bQ (p.off+(idx-p.aD)*p.es) vs.length:=by
 obtain⟨Y,c,ag,I,K,L,N,O,n⟩:=r.cN id b.ad p ae;rw [g]at ag;simp at ag;subst ag;have u:b.b6 b.ad=b.bg.length:=by simp [aa.b6]
 have H:vs.length=l.length*p.es:=by rw [B.length,jf o]
 have Q:0<l.length:=gk.2 F
 have R:idx+l.length-1-p.aD<p.tot:=by have v:idx+l.length-1<b.bg.length:= A;exact(n.cont (idx+l.length-1) _ A (by rw [u];exact v) (ds v)).2.1
 have hmul:(idx-p.aD+l.length)*p.es<=p.tot*p.es:=o7 _ A;rw [jy]at hmul
 have z:w.there p.bQ (p.off+(idx-p.aD)*p.es) vs.length:=by intro j q;have g:(idx-p.aD)*p.es+j<p.tot*p.es:= A;have aQ:p.off+(idx-p.aD)*p.es+j=p.off+((idx-p.aD)*p.es+j):= A;rw [aQ];exact⟨n.cells _ g,n.free y _ g⟩
 refine⟨?_,z⟩;refine r.wrote ae g y (by simp [y3]) λi f ah a=> ?_
 rw [vw]at a;split at a
 .rename_i aj;have hm:f∈l:=gx a;refine⟨o f hm,λj bD m=> ?_⟩;have q:j<p.es:=by rw [<-o f hm];exact(e4.1 m).1
  have ab:=lF o a m;obtain⟨x,d,s⟩:=B.get ab;refine⟨x,?_,s,G x (gx d)⟩;have t:(i-idx)*p.es+j<vs.length:=by rw [H];exact qL A q
  have:=World.cell?_setCells_in p.bQ vs (p.off+(idx-p.aD)*p.es) w (λk D=>(z k D).1) _ t;rw [ds t]at d;simp at d;have aZ:(i-p.aD)*p.es=(idx-p.aD)*p.es+(i-idx)*p.es:=by rw [<-jy];congr 1;omega
  rw [Place.at,show p.off+(i-p.aD)*p.es+j=p.off+(idx-p.aD)*p.es+((i-idx)*p.es+j)by omega,this,d]
 .rename_i aj;have C:i<b.bg.length:=(e4.1 a).1;obtain⟨d1,d2,d3⟩:=n.cont i f ah (by rw [u];exact C) a;refine⟨d1,λj bD m=> ?_⟩;obtain⟨x,d,s⟩:=d3 j bD m;refine⟨x,?_,s⟩;have q:j<f.cells.length:=(e4.1 m).1;rw [World.cell?_setCells_out _ _ _ _ _ (λ_ _=> ?_)]
  .exact d
  .simp only [Place.at];rcases gK i idx with E|P
   .left;have:=qM (i:=i-p.aD) (k:=idx-p.aD) (j:=j) (es:=p.es) A A;omega
   .right;have:=o7 p.es (show idx-p.aD+l.length<=i-p.aD by omega);rw [jy]at this;omega
def aa.D2(b:aa)(new:List J)(v:Nat):(b.grow new).b6 v =
 if v=b.ad+1 then b.bg.length+new.length else if b.eH<=v/\v<b.ad+1 then(if b.eH=b.ad then b.bg.length else min b.fo b.bg.length)else 0:=by
 rw [<-dt];rfl
def aa.D3(b:aa)(new:List J)(v:Nat)(h:v<=b.ad):(b.grow new).b6 v<=b.b6 v/\(b.grow new).b6 v<=b.bg.length:=by rw [aa.D2];unfold aa.b6;rw [ai A];constructor<;>(repeat' split)<;>omega
def aa.D4(b:aa)(new:List J):(b.grow new).b6 (b.ad+1)=b.bg.length+new.length:=by rw [aa.D2,az rfl]
def cv.Mj{φ:Map}{aR:Nat->Prop}{h:T}{w:World}(r:cv φ aR h w){id:Nat}{p:Place}(ae:φ id b.ad=some p)(B:h.get id=some b)
 (bn:b.ro=false) (hex:b.exact=false) (U:dS aR w.heap.size) {idx:Nat} {new:List J} (a5:idx<=b.bg.length)
 (ay:∀e∈b.bg.drop idx,e.cells.length=b.es) (am:∀e∈new,e.cells.length=b.es)
 {c:Array Value} {t:TypeId}  (aj:bo φ (flat (b.bg.drop idx++new)) (c.toList.take ((b.bg.drop idx++new).length*b.es)))
 (bs:tot*b.es<=c.size) (bv:(b.bg.drop idx++new).length<=tot)
 (a2:∀x∈c.toList.take ((b.bg.drop idx++new).length*b.es),x.oneCell'=true) (P:∀q,b.ty=some q->q.1=t/\(q.2≠0->c.size=q.2)) :
 cv (φ.add id (b.ad+1) ⟨w.heap.size,0,idx,b.es,tot,false,false⟩) aR (h.set id (b.grow new)) (w.alloc (.cells c t)):=by
 have a0:φ id (b.ad+1)=none:=by
  cases a:φ id (b.ad+1)with
  |none=>rfl
  |some q=>obtain⟨_,R,ag,z,_⟩:=r.cN _ _ _ a;rw [B]at ag;simp at ag;subst ag;omega
 have hle:=φ.nS (id:=id) (v:=b.ad+1) ⟨w.heap.size,0,idx,b.es,tot,false,false⟩ a0;obtain⟨g1,R,g2,g3,g4,g5,g6,g7,g8⟩:=r.cN id b.ad p ae;rw [B]at g2;simp at g2;subst g2;constructor
 .intro i v q a;simp only [Map.add]at a;split at a
  .rename_i e;obtain⟨rfl,rfl⟩:=e;simp at a;subst a;refine⟨g1,b.grow new,T.eD _ _ _,Nat.le_refl _,rfl,hex.symm,λ_=>rfl,by rw [<-g4];exact g7,?_⟩;constructor
   .rw [size_alloc];simp
   .intro _;exact U.no
   .intro o N;simp only at N⊢;rw [qK,gw,kg A];rfl
   .intro _ o N;exact D0 _ _ _ _
   .intro _;exact⟨t,c.size,0,0,by simp [ej,heap_alloc],.inl rfl⟩
   .intro Q O;exact⟨c.size,0,0,by rw [(P Q O).1];simp [ej,heap_alloc],(P Q O).2,rfl⟩
   .intro k e y K C;rw [aa.D4]at K;have hlen:(b.bg.drop idx++new).length=b.bg.length-idx+new.length:= au
    have H:∀e∈b.bg.drop idx++new,e.cells.length=b.es:=λe he=>by
     rcases hi.1 he with he|he
     .exact ay e he
     .exact am e he
    have m:(b.bg++new)[k]? =some e:=C
    have L:(b.bg.drop idx++new)[k-idx]? =some e:=by
     simp only at y;by_cases X:k<b.bg.length
     .rw [mq X]at m;rw [mq (by simp;omega),lx,show idx+(k-idx)=k by omega];exact m
     .rw [o5 A]at m;rw [o5 (by simp;omega),eF,show k-idx- (b.bg.length-idx)=k-b.bg.length by omega];exact m
    have hm:=gx L;refine⟨H e hm,by simp only at y⊢; omega,λj bD a3=> ?_⟩;have W:=lF H L a3;obtain⟨x,n,a4⟩:=aj.get W;refine⟨x,?_,a4.mono hle,a2 x (gx n)⟩;simp only [Place.at,gw];rw [qK];rw [ke]at n;split at n
    .simpa using n
    .simp at n
  .obtain⟨Y,S,ag,z,D,E,F,G,f⟩:=r.cN i v q a;by_cases ah:i=id
   .subst ah;rw [B]at ag;simp at ag;subst ag;have g:=(f.alike (Alike.alloc w (.cells c t))).mono hle;have a9:=aa.D3 b new v z;refine⟨Y,b.grow new,T.eD _ _ _,by simp only [aa.grow];omega,D,E,F,G,⟨g.bQ,g.base,g.cells,g.free,g.mark,g.hr,λk e y K C=>g.cont k e y A ?_⟩⟩;have m:(b.bg++new)[k]? =some e:=C
    rwa [mq A]at m
   .exact⟨Y,S,by rw [T.dN _ _ (λe=>ah e.symm)];exact ag,z,D,E,F,G,(f.alike (Alike.alloc _ _)).mono hle⟩
 .intro i v q j u s a d l I;simp only [Map.add]at a d;split at a<;>split at d
  .rename_i aQ aZ;exact absurd (aQ.1.trans aZ.1.symm) I
  .simp at a;subst a;obtain⟨_,_,_,_,_,_,_,_,f⟩:=r.cN j u s d;have:=f.bQ;simp only at l;omega
  .simp at d;subst d;obtain⟨_,_,_,_,_,_,_,_,f⟩:=r.cN i v q a;have:=f.bQ;simp only at l;omega
  .exact r.apart i v q j u s a d l I
 .intro i v q u s a d l;simp only [Map.add]at a d;split at a<;>split at d
  .simp at a d;subst a d;exact⟨rfl,rfl⟩
  .simp at a;subst a;obtain⟨_,_,_,_,_,_,_,_,f⟩:=r.cN i u s d;have:=f.bQ;simp only at l;omega
  .simp at d;subst d;obtain⟨_,_,_,_,_,_,_,_,f⟩:=r.cN i v q a;have:=f.bQ;simp only at l;omega
  .exact r.same i v q u s a d l
def cv.Mk{φ:Map}{aR:Nat->Prop}{h:T}{w:World}(r:cv φ aR h w){id:Nat}{p:Place}(ae:φ id b.ad=some p)(B:h.get id=some b)
 (am:b.ro=false) {new:List J}  (dg:p.aD<=b.bg.length) (c4:b.bg.length-p.aD+new.length<=p.tot)
 (H:∀e∈new,e.cells.length=p.es) (a2:bo φ (flat new) vs) (ct:∀x∈vs,x.oneCell'=true) :
 cv (φ.add id (b.ad+1) p) aR (h.set id (b.grow new)) (w.setCells p.bQ (p.off+(b.bg.length-p.aD)*p.es) vs)
 /\w.there p.bQ (p.off+(b.bg.length-p.aD)*p.es) vs.length:=by
 have cs:φ id (b.ad+1)=none:=by
  cases c:φ id (b.ad+1)with
  |none=>rfl
  |some q=>obtain⟨_,a3,ag,I,_⟩:=r.cN _ _ _ c;rw [B]at ag;simp at ag;subst ag;omega
 have hle:=φ.nS (id:=id) (v:=b.ad+1) p cs;obtain⟨g1,a3,g2,g3,g4,g5,g6,g7,g8⟩:=r.cN id b.ad p ae;rw [B]at g2;simp at g2;subst g2;have c5:vs.length=new.length*p.es:=by rw [a2.length,jf H]
 have hmul:(b.bg.length-p.aD+new.length)*p.es<=p.tot*p.es:=o7 _ c4;rw [jy]at hmul
 have a0:w.there p.bQ (p.off+(b.bg.length-p.aD)*p.es) vs.length:=by intro j C;have B:(b.bg.length-p.aD)*p.es+j<p.tot*p.es:= A;have aQ:p.off+(b.bg.length-p.aD)*p.es+j=p.off+((b.bg.length-p.aD)*p.es+j):= A;rw [aQ];exact⟨g8.cells _ B,g8.free am _ B⟩
 refine⟨?_,a0⟩;have P:=World.y4 p.bQ vs (p.off+(b.bg.length-p.aD)*p.es) w
 have X:∀(q:Place)(k j:Nat),q.bQ=p.bQ->q.off=p.off->q.aD=p.aD->q.es=p.es->k<b.bg.length->q.aD<=k->j<q.es ->
  (w.setCells p.bQ (p.off+(b.bg.length-p.aD)*p.es) vs).cell? (q.at k j)=w.cell? (q.at k j):=by
  intro q k j d0 c0 c2 c3 y D C;refine World.cell?_setCells_out _ _ _ _ _ (λ_ _=> .inl ?_);simp only [Place.at,c0,c2,c3];have:=qM (i:=k-p.aD) (k:=b.bg.length-p.aD) (j:=j) (es:=p.es) A A;omega
 have ce:b.b6 b.ad=b.bg.length:=by simp [aa.b6]
 constructor
 .intro i v q c;simp only [Map.add]at c;split at c
  .rename_i e;obtain⟨rfl,rfl⟩:=e;simp at c;subst c;refine⟨g1,b.grow new,T.eD _ _ _,Nat.le_refl _,g4,g5,g6,g7,⟨by rw [P];exact g8.bQ,g8.base,λn l=>World.isSome_setCells _ _ _ _ _ (g8.cells n l),λd n l=>by rw [World.frozen?_setCells];exact g8.free d n l,λd=>(g8.mark d).setCells _ _ _,λt9 d=>by rw [sC];exact g8.hr t9 d,?_⟩⟩;intro k e y D E;rw [aa.D4]at D;have t:(b.bg++new)[k]? =some e:=E;by_cases O:k<b.bg.length
   .rw [mq O]at t;obtain⟨d1,d2,d3⟩:=g8.cont k e y (by rw [ce];exact O) t;refine⟨d1,d2,λj bD o=> ?_⟩;obtain⟨x,m,s⟩:=d3 j bD o;have C:j<e.cells.length:=(e4.1 o).1;exact⟨x,by rw [X p k j rfl rfl rfl rfl O y A];exact m,s.1.mono hle,s.2⟩
   .rw [o5 A]at t;have hm:=gx t;refine⟨H e hm,A,λj bD o=> ?_⟩;have C:j<p.es:=by rw [<-H e hm];exact(e4.1 o).1
    have ab:=lF H t o;obtain⟨x,m,s⟩:=a2.get ab;refine⟨x,?_,s.mono hle,ct x (gx m)⟩;have W:(k-b.bg.length)*p.es+j<vs.length:=by rw [c5];exact qL (by have:=(e4.1 t).1;omega) C
    have:=World.cell?_setCells_in p.bQ vs (p.off+(b.bg.length-p.aD)*p.es) w (λk bv=>(a0 k bv).1) _ W;rw [ds W]at m;simp at m;have aZ:(k-p.aD)*p.es=(b.bg.length-p.aD)*p.es+(k-b.bg.length)*p.es:=by rw [<-jy];congr 1;omega
    rw [Place.at,show p.off+(k-p.aD)*p.es+j=p.off+(b.bg.length-p.aD)*p.es+((k-b.bg.length)*p.es+j)by omega,this,m]
  .obtain⟨Y,a4,ag,I,K,Q,R,S,g⟩:=r.cN i v q c;by_cases ah:i=id
   .subst ah;rw [B]at ag;simp at ag;subst ag;have c9:=aa.D3 b new v I;refine⟨Y,b.grow new,T.eD _ _ _,by simp only [aa.grow];omega,K,Q,R,S,⟨by rw [P];exact g.bQ,g.base,λn l=>World.isSome_setCells _ _ _ _ _ (g.cells n l),λd n l=>by rw [World.frozen?_setCells];exact g.free d n l,λd=>(g.mark d).setCells _ _ _,λt9 d=>by rw [sC];exact g.hr t9 d,λk e y D E=> ?_⟩⟩;have t:(b.bg++new)[k]? =some e:=E;rw [mq A]at t;obtain⟨d1,d2,d3⟩:=g.cont k e y A t;refine⟨d1,d2,λj bD o=> ?_⟩;obtain⟨x,m,s⟩:=d3 j bD o;have C:j<e.cells.length:=(e4.1 o).1;refine⟨x,?_,s.1.mono hle,s.2⟩;by_cases L:q.bQ=p.bQ
    .obtain⟨s1,s2⟩:=r.same i v q b.ad p c ae L;rw [X q k j L s1 s2 (by rw [K,g4]) A y A];exact m
    .rw [World.cell?_setCells_out _ _ _ _ _ (λN _=>absurd N (by simp only [Place.at];exact L))];exact m
   .have co:p.bQ≠q.bQ:=by intro e;have:=r.apart id b.ad p i v q ae c e (λe=>ah e.symm);rw [g6 am]at this;simp at this
    have U:∀a:Addr,a.block=q.bQ->(w.setCells p.bQ (p.off+(b.bg.length-p.aD)*p.es) vs).cell? a=w.cell? a:=λa bs=>World.cell?_setCells_out _ _ _ _ _ (λN _=>absurd (N.symm.trans bs) co)
    refine⟨Y,a4,by rw [T.dN _ _ (λe=>ah e.symm)];exact ag,I,K,Q,R,S,?_⟩;refine⟨by rw [P];exact g.bQ,g.base,λn l=>by rw [U _ rfl];exact g.cells n l,λd n l=>by rw [World.frozen?_setCells];exact g.free d n l,λd=>(g.mark d).setCells _ _ _,λt9 d=>by rw [sC];exact g.hr t9 d,?_⟩;intro k e y D E;obtain⟨a5,a9,bn⟩:=g.cont k e y D E;refine⟨a5,a9,λj bD o=> ?_⟩;obtain⟨x,m,s⟩:=bn j bD o;exact⟨x,by rw [U _ rfl];exact m,s.1.mono hle,s.2⟩
 .intro i v q j u F c f z G;simp only [Map.add]at c f;split at c<;>split at f
  .rename_i aQ aZ;exact absurd (aQ.1.trans aZ.1.symm) G
  .rename_i aQ aZ;simp at c;subst c;exact r.apart id b.ad p j u F ae f z (by rw [<-aQ.1];exact G)
  .rename_i aQ aZ;simp at f;subst f;exact r.apart i v q id b.ad p c ae z (by rw [<-aZ.1];exact G)
  .exact r.apart i v q j u F c f z G
 .intro i v q u F c f z;simp only [Map.add]at c f;split at c<;>split at f
  .simp at c f;subst c f;exact⟨rfl,rfl⟩
  .rename_i aQ aZ;simp at c;subst c;exact r.same id b.ad p u F ae (by rw [<-aQ.1];exact f) z
  .rename_i aQ aZ;simp at f;subst f;exact r.same id v q b.ad p (by rw [<-aZ.1];exact c) ae z
  .exact r.same i v q u F c f z
open Go.RowKit in
def sD{B:Nat->Prop}{a:World}(b:Nat)(c:¬B b):∀(vs:List Value)(o:Nat){w:World},Safe B a w->Safe B a (w.setCells b o vs)
 |[],_,_,h=>h
 |v::r,o,w,h=>sD b c r (o+1) (h.setCell (p:=⟨b,o,none⟩) c v)
end
noncomputable section
open Go.RowKit
def cV.cG.get{D:cV}{P:Program}(h:D.cG P){t:TypeId}{d:nM}(a:D t=some d) :
 ∃i u,P.info? t=some i/\P.underlying t=some u/\d.kind=fm u/\d.size=i.size/\d.bytes=i.bytes/\d.zero=i.zero.map nL:=by
 have:=h t d a;unfold vo at this;split at this
 .rename_i i u ah hu;simp at this;subst this;exact⟨i,u,ah,hu,rfl,rfl,rfl,rfl⟩
 .cases this
def jg{u:TypeDesc}{e:TypeId}(h:fm u=.slice e):u=.slice e:=by cases u<;>simp [fm]at h⊢; exact h
def qN{u:TypeDesc}{n:Nat}{e:TypeId}(h:fm u=.array n e):u=.array n e:=by cases u<;>simp [fm]at h⊢; exact h
def nT{u:TypeDesc}(h:fm u=.string):u=.string:=by cases u<;>simp [fm]at h⊢
def D5{u:TypeDesc}(h:fm u=.bool):u=.bool:=by cases u<;>simp [fm]at h⊢
def sE{u:TypeDesc}{k:IntKind}(h:fm u=.int k):u=.int k:=by cases u<;>simp [fm]at h⊢; exact h
def vy{u:TypeDesc}{e:TypeId}(h:fm u=.ptr e):u=.pointer e:=by cases u<;>simp [fm]at h⊢; exact h
def y5{u:TypeDesc}(h:fm u=.func):∃a b c,u=.func a b c:=by cases u<;>simp [fm]at h⊢
def y6{u:TypeDesc}{o:Bool}(h:fm u=.iface o):∃a,u=.interface a/\o= !a.isEmpty:=by cases u<;>simp [fm]at h⊢; rw [h];simp
def vz{u:TypeDesc}{l:List (Nat×TypeId)}(h:fm u=.struct l):∃fs,u=.struct fs/\l=fs.toList.map λf=>(f.offset,f.type):=by cases u<;>simp [fm]at h⊢; exact h.symm
def pn{P:Program}{t:TypeId}{u:TypeDesc}(h:P.underlying t=some u)(w:World):(isAgg t).run P w=.ok (fm u).isAgg w:=by unfold isAgg;rw [Sem.run_bind,run_underlying h];cases u<;>rfl
def jh{P:Program}{t:TypeId}{i:TypeInfo}(h:P.info? t=some i)(w:World):(sizeOf t).run P w=.ok i.size w:=by simp [sizeOf,typeInfo,h]
def Ml{P:Program}{t:TypeId}{i:TypeInfo}(h:P.info? t=some i)(w:World):(typeInfo t).run P w=.ok i w:=by simp [typeInfo,h]
def sF{P:Program}{t:TypeId}{i:TypeInfo}{z:Value}(h:P.info? t=some i)(a:i.zero=some z)(w:World):(zeroValue t).run P w=.ok z w:=by simp [zeroValue,typeInfo,h,a]
section
variable {P:Program}{φ:Map}
variable {op:BinOp}
def Mm{k:IntKind}{x y:Int}{v:J}(t:TypeId)(h:ig op k x y=some v)(w:World) :
 ∃a,(binOp op t (.int k x) (.int k y)).run P w=.ok a w/\aA φ v a:=by
 cases op<;>simp only [ig]at h <;>
  first
   |(cases h;done)
   |(split at h<;>first|(cases h;done)|(rename_i b;simp at h;subst h;exact⟨_,by simp [binOp,Op.intDiv,b];rfl,by simp only [aA]⟩))
   |(simp at h;subst h;exact⟨_,by simp [binOp,Op.intArith,Op.intBits,Op.intCmp];rfl,by simp only [aA]⟩)
def D6{k k':IntKind}{x y:Int}{v:J}(t:TypeId)(c:op=.shl\/op=.shr)(h:st op k x y=some v)(w:World) :
 ∃b,(binOp op t (.int k x) (.int k' y)).run P w=.ok b w/\aA φ v b:=by
 unfold st at h;split at h
 .cases h
 .rename_i a;rcases c with rfl|rfl
  .simp at h;subst h;exact⟨_,by simp [binOp,Op.shift,a];rfl,by simp only [aA]⟩
  .simp at h;subst h;exact⟨_,by simp [binOp,Op.shift,a];rfl,by simp only [aA]⟩
def Mn:IntKind.i64.max=9223372036854775807:=rfl
def Mo{a b:ByteArray}{v:J}(t:TypeId)(h:su op a.data.toList b.data.toList=some v)(w:World) :
 ∃c,(binOp op t (.string a) (.string b)).run P w=.ok c w/\aA φ v c:=by
 cases op <;> simp only [su]at h <;>
  first
   |(cases h;done)
   |(split at h<;>first
    |(cases h;done)
    |(rename_i d
      simp at h;subst h;refine⟨.string (a++b),?_,?_⟩
      .simp only [binOp,Op.stringOp];rw [ai]
       .rfl
       .simp only [fy]at d;rw [Mn];simp only [ByteArray.size];omega
      .simp [aA]))
   |(simp at h;subst h;exact⟨_,by simp [binOp,Op.stringOp,ByteArray.toList_eq];rfl,by simp only [aA]⟩)
def y7(P:Program)(t:TypeId):Bool :=
 !P.eqGuardType P.depth t&&!P.stoodInHeld t &&
 (match P.underlying t with
 |some (.struct fs)=>fs.toList.zipIdx.all fun(f,i)=>f.name != "_" && f.offset == i
 |some (.array _ _)=>true
 |_=>false)
def nU(P:Program)(t:TypeId):Prop:=y7 P t=true
def nU.spec{t:TypeId}(h:nU P t):P.eqGuardType P.depth t=false/\P.stoodInHeld t=false/\∀fs,P.underlying t=some (.struct fs)-> ∀(i:Nat)(f:Field),fs.toList[i]? =some f->f.name≠ "_" /\f.offset=i:=by unfold nU y7 at h;simp only [cC,gV]at h;obtain⟨⟨Y,ag⟩,a⟩:=h;refine⟨Y,ag,λfs c i f b=> ?_⟩;rw [c]at a;simp only [ea]at a;have:=a (f,i) (by rw [List.mem_zipIdx_iff_getElem?];exact b);simpa using this
def D7{k:iL}{a b:J}{x y:Value}(c:aA φ a x)(f:aA φ b y){r:Bool}(h:vp k a b=some r){t:TypeId}{u:TypeDesc}(hu:P.underlying t=some u)(g:k=fm u)(d:Nat)(w:World) :
 (Op.equalIn (d+1) t x y).run P w=.ok r w/\(fm u).isAgg=false:=by
 unfold vp at h;split at h
 .rename_i j l a m b;have:=sE g.symm;subst this;split at h
  .rename_i e;subst e;simp at h;subst h;simp only [aA]at c f;subst c f;refine⟨?_,rfl⟩;simp only [Op.equalIn,Sem.run_bind,run_underlying hu,Result.andThen_ok,dG,Sem.run_pure]
  .cases h
 .have:=D5 g.symm;subst this;simp at h;subst h;simp only [aA]at c f;subst c f;refine⟨?_,rfl⟩;simp only [Op.equalIn,Sem.run_bind,run_underlying hu,Result.andThen_ok,Sem.run_pure]
 .have:=nT g.symm;subst this;simp at h;subst h;simp only [aA]at c f;obtain⟨s,rfl,rfl⟩:=c;obtain⟨i,rfl,rfl⟩:=f;refine⟨?_,rfl⟩;rw [run_equalIn_string w d t s i hu,ByteArray.toList_eq,ByteArray.toList_eq]
 .cases h
variable {D:cV}
def D8(n:D.cG P){xs ys:Array Value}(d:Nat)(w:World):∀{fs:List Field}{i:Nat}{x y:List J}{b:Bool},(∀(j:Nat)(f:Field),fs[j]? =some f->f.name≠ "_" /\f.offset=i+j) ->
 bo φ x (xs.toList.drop i)->bo φ y (ys.toList.drop i)->pf D (fs.map λf=>(f.offset,f.type)) x y=some b->(Op.eqFields (d+1) xs ys fs).run P w=.ok b w
 |[],i,x,y,b,_,_,_,h=>by simp only [hS]at h;cases x<;>cases y<;>simp [pf]at h;subst h;rfl
 |f ::fs,i,x,y,b,o,e,k,h=>by
  simp only [ei]at h;cases x with
  |nil=>cases y<;>simp [pf]at h
  |cons a x =>
   cases y with
   |nil=>simp [pf]at h
   |cons c y =>
    simp only [pf]at h;split at h
    .rename_i O G;obtain⟨Q,u,N,hu,E, -⟩:=n.get G;split at h
     .rename_i p q ae F;simp at h;subst h;obtain⟨aw,r⟩:=o 0 f au;simp only [bo]at e k;obtain⟨s,tx,ex,H,e⟩:=e;obtain⟨t,ty,m,I,k⟩:=k;obtain⟨g1,g2⟩:=D7 (P:=P) H I ae hu E d w
      have B:xs[f.offset]? =some s:=by have:=dm (λl=>l[0]?) ex;simpa [r]using this
      have C:ys[f.offset]? =some t:=by have:=dm (λl=>l[0]?) m;simpa [r]using this
      have v:xs.toList.drop (i+1)=tx:=by rw [<-qs,ex];rfl
      have z:ys.toList.drop (i+1)=ty:=by rw [<-qs,m];rfl
      have K:(part f.type xs f.offset).run P w=.ok s w:=by simp only [part,Sem.run_bind,pn hu,Result.andThen_ok,g2];simp [B]
      have L:(part f.type ys f.offset).run P w=.ok t w:=by simp only [part,Sem.run_bind,pn hu,Result.andThen_ok,g2];simp [C]
      have ih:=D8 n (xs:=xs) (ys:=ys) d w (fs:=fs) (i:=i+1) (λj g ab=>by
       have:=o (j+1) g (by simpa using ab)
       exact⟨this.1,A⟩) (by rw [v];exact e) (by rw [z];exact k) F
      simp only [Op.eqFields];rw [az aw];simp only [Sem.run_bind,K,L,Result.andThen_ok,g1];cases p
      .rfl
      .simp only [Bool.not_true,ey,ez,Bool.true_and];exact ih
     .cases h
    .cases h
def D9{D:cV}{e:TypeId}{u:TypeDesc}(hu:P.underlying e=some u){xs ys:Array Value}(d:Nat)(w:World):∀{n i:Nat}{x y:List J}{b:Bool},x.length=n ->
 bo φ x (xs.toList.drop i)->bo φ y (ys.toList.drop i)->qF (fm u) x y=some b->(Op.eqItems (d+1) e 1 xs ys (List.range' i n)).run P w=.ok b w
 |n,i,[],y,b,aw,_,_,h=>by simp at aw;subst aw;cases y<;>simp [qF]at h;subst h;rfl
 |n,i,a::x,[],b,aw,_,_,h=>by simp [qF]at h
 |n,i,a::x,c::y,b,aw,f,g,h=>by
  obtain⟨m,rfl⟩:∃m,n=m+1:=⟨x.length,by simpa using aw.symm⟩
  simp only [qF]at h;split at h
  .rename_i p q ae z;simp at h;subst h;simp only [bo]at f g;obtain⟨k,tx,ex,B,f⟩:=f;obtain⟨o,ty,j,C,g⟩:=g;obtain⟨g1,g2⟩:=D7 (P:=P) B C ae hu rfl d w
   have t:xs[i]? =some k:=by have:=dm (λl=>l[0]?) ex;simpa using this
   have v:ys[i]? =some o:=by have:=dm (λl=>l[0]?) j;simpa using this
   have r:xs.toList.drop (i+1)=tx:=by rw [<-qs,ex];rfl
   have s:ys.toList.drop (i+1)=ty:=by rw [<-qs,j];rfl
   have E:(part e xs (i*1)).run P w=.ok k w:=by simp only [part,Sem.run_bind,pn hu,Result.andThen_ok,g2];simp [t]
   have F:(part e ys (i*1)).run P w=.ok o w:=by simp only [part,Sem.run_bind,pn hu,Result.andThen_ok,g2];simp [v]
   have ih:=D9 (D:=D) hu (xs:=xs) (ys:=ys) d w (n:=m) (i:=i+1) (by simpa using aw) (by rw [r];exact f) (by rw [s];exact g) z;rw [sj];simp only [Op.eqItems];simp only [Sem.run_bind,E,F,Result.andThen_ok,g1];cases p
   .rfl
   .simp only [Bool.not_true,ey,ez,Bool.true_and];exact ih
  .cases h
def md:Op.maxDepth=9999+1:=rfl
def D'(l:D.cG P){eS:TypeId->Bool}(B:∀t,eS t=true->nU P t){lit:Bool}{t:TypeId}{x y:J}{bD r:Value}{b:Bool}
 (a:aA φ x bD) (g:aA φ y r) (h:nO D eS lit t x y=some b) (w:World):(Op.equalIn Op.maxDepth t bD r).run P w=.ok b w:=by
 unfold nO at h;split at h
 .cases h
 .rename_i d E;obtain⟨i,u,ah,hu,L, -⟩:=l.get E;rw [L]at h;split at h
  .rename_i e;have:=D5 e;subst this;simp only [aA]at a g;subst a g;simp at h;subst h;rw [md];generalize 9999=k;simp only [Op.equalIn,Sem.run_bind,run_underlying hu,Result.andThen_ok,Sem.run_pure,jz,jA]
  .rename_i e;have:=vy e;subst this;simp only [aA]at a g;subst a g;simp at h;subst h;rw [md];generalize 9999=k;simp only [Op.equalIn,Sem.run_bind,run_underlying hu,Result.andThen_ok,Sem.run_pure,jz,jA]
  .rename_i e;have:=vy e;subst this;simp only [aA]at a g;obtain⟨z,rfl,_⟩:=g;subst a;simp at h;subst h;rw [md];generalize 9999=k;simp only [Op.equalIn,Sem.run_bind,run_underlying hu,Result.andThen_ok,Sem.run_pure,jz,jA]
  .rename_i e;have:=vy e;subst this;simp only [aA]at a g;obtain⟨z,rfl,_⟩:=a;subst g;simp at h;subst h;rw [md];generalize 9999=k;simp only [Op.equalIn,Sem.run_bind,run_underlying hu,Result.andThen_ok,Sem.run_pure,jz,jA]
  .rename_i e;have:=jg e;subst this;simp only [aA]at a g;obtain⟨rfl,_⟩:=a;obtain⟨rfl,_⟩:=g;simp at h;subst h;rw [md];generalize 9999=k;simp only [Op.equalIn,Sem.run_bind,run_underlying hu,Result.andThen_ok,Sem.run_pure,jz,jA]
  .rename_i e;have:=jg e;subst this;simp only [aA]at a g;obtain⟨rfl,_⟩:=a;obtain⟨z,c,rfl,_⟩:=g;simp at h;subst h;rw [md];generalize 9999=k;simp only [Op.equalIn,Sem.run_bind,run_underlying hu,Result.andThen_ok,Sem.run_pure,jz,jA]
  .rename_i e;have:=jg e;subst this;simp only [aA]at a g;obtain⟨rfl,_⟩:=g;obtain⟨z,c,rfl,_⟩:=a;simp at h;subst h;rw [md];generalize 9999=k;simp only [Op.equalIn,Sem.run_bind,run_underlying hu,Result.andThen_ok,Sem.run_pure,jz,jA]
  .rename_i e;obtain⟨_,_,_,rfl⟩:=y5 e;simp only [aA]at a g;subst a g;simp at h;subst h;rw [md];generalize 9999=k;simp only [Op.equalIn,Sem.run_bind,run_underlying hu,Result.andThen_ok,Sem.run_pure,jz,jA]
  .rename_i e;obtain⟨_,_,_,rfl⟩:=y5 e;simp only [aA]at a g;obtain⟨_,_,rfl,_⟩:=g;subst a;simp at h;subst h;rw [md];generalize 9999=k;simp only [Op.equalIn,Sem.run_bind,run_underlying hu,Result.andThen_ok,Sem.run_pure,jz,jA]
  .rename_i e;obtain⟨_,_,_,rfl⟩:=y5 e;simp only [aA]at a g;obtain⟨_,_,rfl,_⟩:=a;subst g;simp at h;subst h;rw [md];generalize 9999=k;simp only [Op.equalIn,Sem.run_bind,run_underlying hu,Result.andThen_ok,Sem.run_pure,jz,jA]
  .rename_i e;obtain⟨_,rfl,_⟩:=y6 e;simp only [aA]at a g;subst a g;split at h<;>simp at h;subst h;rw [md];generalize 9999=k;simp only [Op.equalIn,Sem.run_bind,run_underlying hu,Result.andThen_ok,Sem.run_pure,jz,jA]
  .rename_i e;obtain⟨_,rfl,_⟩:=y6 e;simp only [aA]at a g;obtain⟨_,rfl,_⟩:=g;subst a;simp at h;subst h;rw [md];generalize 9999=k;simp only [Op.equalIn,Sem.run_bind,run_underlying hu,Result.andThen_ok,Sem.run_pure,jz,jA]
  .rename_i e;obtain⟨_,rfl,_⟩:=y6 e;simp only [aA]at a g;obtain⟨_,rfl,_⟩:=a;subst g;simp at h;subst h;rw [md];generalize 9999=k;simp only [Op.equalIn,Sem.run_bind,run_underlying hu,Result.andThen_ok,Sem.run_pure,jz,jA]
  .rename_i fs x y e;obtain⟨o,rfl,K⟩:=vz e;simp only [aA]at a g;obtain⟨xs,rfl,rx⟩:=a;obtain⟨ys,rfl,m⟩:=g;split at h
   .rename_i he;obtain⟨Y,ag,v⟩:=(B t he).spec;have q:P.fieldsOf t=o:=by simp [Program.fieldsOf,hu]
    rw [md,run_equalIn_struct w 9999 t xs ys (by rw [q];exact hu) ag,q];rw [K]at h;exact D8 l 9998 w (i:=0) (λj f I=>by have:=v o hu j f I;exact⟨this.1,A⟩) (by simpa using rx) (by simpa using m) h
   .cases h
  .rename_i n e x y s;have:=qN s;subst this;simp only [aA]at a g;obtain⟨xs,rfl,rx⟩:=a;obtain⟨ys,rfl,m⟩:=g;split at h
   .split at h
    .rename_i N F;obtain⟨O,Q,p,H,G,R, -⟩:=l.get F;split at h
     .rename_i aj
      have C:P.cellsOf e=1:=by unfold Program.cellsOf;rw [p];simp;omega
      rw [md,run_equalIn_array w 9999 xs ys hu p,C,sk];rw [G]at h;exact D9 (D:=D) H 9998 w aj.2 (by simpa using rx) (by simpa using m) h
     .cases h
    .cases h
   .cases h
  .cases h
def Ea{eS:TypeId->Bool}(j:∀t,eS t=true->nU P t){t:TypeId}{f g:Operand}{x y:J}{bD i:Value}{b:Bool}
 (a:aA φ x bD) (c:aA φ y i) (h:nO D eS (gA f || gA g) t x y=some b) (w:World):(eqGuard op t f g bD i).run P w=.ok () w:=by
 have key :op=.eql\/op=.neq->(eqGuard op t f g bD i).run P w=.ok () w:=by
  intro d;unfold nO at h;split at h
  .cases h
  .split at h
   all_goals first
    |(cases h;done)
    |(simp only [aA]at a c;subst a c;rcases d with rfl|rfl<;>rfl)
    |(simp only [aA]at a c;obtain⟨rfl,_⟩:=a;obtain⟨rfl,_⟩:=c;rcases d with rfl|rfl<;>rfl)
    |(simp only [aA]at a c;subst a;obtain⟨_,rfl,_⟩:=c;rcases d with rfl|rfl<;>rfl)
    |(simp only [aA]at a c;subst c;obtain⟨_,rfl,_⟩:=a;rcases d with rfl|rfl<;>rfl)
    |(simp only [aA]at a c;obtain⟨rfl,_⟩:=a;obtain⟨_,_,rfl,_⟩:=c;rcases d with rfl|rfl<;>rfl)
    |(simp only [aA]at a c;obtain⟨rfl,_⟩:=c;obtain⟨_,_,rfl,_⟩:=a;rcases d with rfl|rfl<;>rfl)
    |(simp only [aA]at a c;subst a;obtain⟨_,_,rfl,_⟩:=c;rcases d with rfl|rfl<;>rfl)
    |(simp only [aA]at a c;subst c;obtain⟨_,_,rfl,_⟩:=a;rcases d with rfl|rfl<;>rfl)
    |(simp only [aA]at a c;subst a c;split at h<;>first|(cases h;done)|skip
      rename_i e;simp only [eC]at e;rcases e with e|e
      .cases f<;>first|(simp [gA]at e;done)|(rcases d with rfl|rfl<;>rfl)
      .cases g<;>first|(simp [gA]at e;done)|(rcases d with rfl|rfl<;>simp [eqGuard]))
    |(simp only [aA]at a c;obtain⟨_,rfl,rx⟩:=a;obtain⟨_,rfl,k⟩:=c;split at h<;>first|(cases h;done)|skip
      rename_i he
      exact run_eqGuard_agg w op t f g _ _ (j t he).spec.1)
 cases op<;>first|exact key (.inl rfl)|exact key (.inr rfl)|rfl
def sG:Value->Bool
 |.bool _|.pointer _|.slice _ _ _|.func _ _ _|.nilFunc|.nilIface|.iface _ _|.agg _=>true
 |_=>false
def Mp(t:TypeId)(x y:Value)(h:sG x=true):binOp .eql t x y=(do pure (.bool (<-Op.equal t x y))):=by cases x<;>first|(simp [sG]at h;done)|(cases y<;>rfl)
def Mq(t:TypeId)(x y:Value)(h:sG x=true):binOp .neq t x y=(do pure (.bool (!(<-Op.equal t x y)))):=by cases x<;>first|(simp [sG]at h;done)|(cases y<;>rfl)
def Eb{eS:TypeId->Bool}{lit:Bool}{t:TypeId}{x y:J}{bD:Value}{b:Bool}(a:aA φ x bD)(h:nO D eS lit t x y=some b):sG bD=true:=by
 unfold nO at h;split at h
 .cases h
 .split at h
  all_goals first
   |(cases h;done)
   |(simp only [aA]at a;subst a;rfl)
   |(simp only [aA]at a;obtain⟨rfl,_⟩:=a;rfl)
   |(simp only [aA]at a;obtain⟨_,rfl,_⟩:=a;rfl)
   |(simp only [aA]at a;obtain⟨_,_,rfl,_⟩:=a;rfl)
def Mr(m:D.cG P){eS:TypeId->Bool}(i:∀t,eS t=true->nU P t){t:TypeId}{j l:Operand}{x y v:J}{bD g:Value}
 (c:aA φ x bD) (e:aA φ y g) (h:hn D eS (gA j || gA l) op t x y=some v) (w:World) :
 ∃d,(eqGuard op t j l bD g).run P w=.ok () w/\(binOp op t bD g).run P w=.ok d w/\aA φ v d:=by
 unfold hn at h;split at h
 .rename_i k a k' b;simp only [aA]at c e;subst c e
  have ab:(eqGuard op t j l (.int k a) (.int k' b)).run P w=.ok () w:=by unfold eqGuard;split<;>rfl
  split at h
  .obtain⟨d,Y,ag⟩:=D6 (P:=P) (φ:=φ) (k':=k') t (.inl rfl) h w;exact⟨d,ab,Y,ag⟩
  .obtain⟨d,Y,ag⟩:=D6 (P:=P) (φ:=φ) (k':=k') t (.inr rfl) h w;exact⟨d,ab,Y,ag⟩
  .split at h
   .rename_i n;subst n;obtain⟨d,Y,ag⟩:=Mm (P:=P) (φ:=φ) t h w;exact⟨d,ab,Y,ag⟩
   .cases h
 .rename_i a b;simp only [aA]at c e;obtain⟨s,rfl,rfl⟩:=c;obtain⟨u,rfl,rfl⟩:=e
  have ab:(eqGuard op t j l (.string s) (.string u)).run P w=.ok () w:=by unfold eqGuard;split<;>rfl
  obtain⟨d,Y,ag⟩:=Mo (P:=P) (φ:=φ) t h w;exact⟨d,ab,Y,ag⟩
 .rename_i o n2;split at h
  .simp only [cb]at h;obtain⟨b,f,rfl⟩:=h;refine⟨.bool b,Ea (D:=D) i c e f w,?_,by simp [aA]⟩;have he:=D' m i c e f w;rw [Mp t bD g (Eb c f)];simp [Op.equal,he]
  .simp only [cb]at h;obtain⟨b,f,rfl⟩:=h;refine⟨.bool (!b),Ea (D:=D) i c e f w,?_,by simp [aA]⟩;have he:=D' m i c e f w;rw [Mq t bD g (Eb c f)];simp [Op.equal,he]
  .cases h
end
end
noncomputable section
open Go.RowKit
section
variable {P:Program}{φ:Map}
variable {v:J}
def Ms{op:UnOp}{x:J}{bD:Value}(a:aA φ x bD)(h:sv op x=some v)(w:World):∃b,(Op.unary op bD).run P w=.ok b w/\aA φ v b:=by
 unfold sv at h;split at h
 .simp only [aA]at a;subst a;simp at h;subst h;exact⟨_,by simp [Op.unary,Op.intArith];rfl,by simp only [aA]⟩
 .simp only [aA]at a;subst a;simp at h;subst h;exact⟨_,by simp [Op.unary];rfl,by simp only [aA]⟩
 .simp only [aA]at a;subst a;simp [ig]at h;subst h;exact⟨_,by simp [Op.unary,Op.intBits];rfl,by simp only [aA]⟩
 .cases h
variable {D:cV}
def Mt(a:D.cG P){s t:TypeId}{x:J}{bD:Value}(d:aA φ x bD)(h:sx D s t x=some v)(w:World) :
 ∃j,(convert s t bD).run P w=.ok j w/\aA φ v j:=by
 unfold sx at h;split at h
 .rename_i m o k n hs g;simp only [aA]at d;subst d;obtain⟨_,hX,_,b,_⟩:=a.get hs;obtain⟨_,ut,_,c,f,_⟩:=a.get g;rw [f]at h;split at h
  .rename_i i e;have:=sE e;subst this;simp at h;subst h;refine⟨.int i (i.wrap n),?_,by simp only [aA]⟩;simp only [convert,Sem.run_bind,run_underlying b,run_underlying c,Result.andThen_ok];cases hX<;>simp [Conv.intToInt]
  .rename_i e;have:=nT e;subst this;simp at h;subst h;exact⟨.string (Utf8.encode n),run_convert_int_string w s t k n (by rw [b];rfl) c,by simp only [aA];exact⟨_,rfl,rfl⟩⟩
  .cases h
 .rename_i m o l hs g;simp only [aA]at d;obtain⟨p,rfl,rfl⟩:=d;obtain⟨_,hX,_,b,_⟩:=a.get hs;obtain⟨_,ut,_,c,f,_⟩:=a.get g;rw [f]at h;split at h
  .rename_i e;have:=nT e;subst this;simp at h;subst h;refine⟨.string p,?_,by simp [aA]⟩;simp only [convert,Sem.run_bind,run_underlying b,run_underlying c,Result.andThen_ok];cases hX<;>rfl
  .cases h
 .cases h
def Mu{x y:J}{bD d:Value}(a:aA φ x bD)(b:aA φ y d)(h:vq x y=some v)(w:World):∃c,(Builtin.max2 bD d).run P w=.ok c w/\aA φ v c:=by
 unfold vq at h;split at h
 .simp only [aA]at a b;subst a b;split at h
  .rename_i e;subst e;simp at h;subst h;exact⟨_,by simp only [Builtin.max2];rfl,by simp only [aA]⟩
  .cases h
 .cases h
def Mv{x y:J}{bD d:Value}(a:aA φ x bD)(b:aA φ y d)(h:vr x y=some v)(w:World):∃c,(Builtin.min2 bD d).run P w=.ok c w/\aA φ v c:=by
 unfold vr at h;split at h
 .simp only [aA]at a b;subst a b;split at h
  .rename_i e;subst e;simp at h;subst h;exact⟨_,by simp only [Builtin.min2];rfl,by simp only [aA]⟩
  .cases h
 .cases h
def y8{f:J->J->Option J}{g:Value->Value->Sem Value}(w:World)
 (e:∀x y v bD i,aA φ x bD->aA φ y i->f x y=some v-> ∃b,(g bD i).run P w=.ok b w/\aA φ v b) :
 ∀{l:List J}{t:List Value}{x v:J}{bD:Value},aA φ x bD->bo φ l t->nP f x l=some v-> ∃b,(t.foldlM g bD).run P w=.ok b w/\aA φ v b
 |[],t,x,v,bD,d,c,h=>by simp only [bo]at c;subst c;simp [nP]at h;subst h;exact⟨bD,rfl,d⟩
 |a ::r,t,x,v,bD,d,c,h=>by
  simp only [bo]at c;obtain⟨u,n,rfl,Y,ag⟩:=c;simp only [nP]at h;split at h
  .rename_i z m;obtain⟨o,aQ,aZ⟩:=e _ _ _ _ _ d Y m;obtain⟨b,j,k⟩:=y8 w e aZ ag h;exact⟨b,by rw [List.foldlM_cons,Sem.run_bind,aQ];exact j,k⟩
  .cases h
variable {xs:Array Value}
def Mw{x:J}{l:List J}(ts:Array TypeId)(ty:TypeId)(d:bo φ (x::l) xs.toList)(h:nP vq x l=some v)(w:World) :
 ∃f,(Builtin.max_ ts ty xs).run P w=.ok f w/\aA φ v f:=by
 simp only [bo]at d;obtain⟨bD,t,e,Y,ag⟩:=d;unfold Builtin.max_;rw [e];exact y8 w (λ_ _ _ _ _ a b c=>Mu a b c w) Y ag h
def Mx{x:J}{l:List J}(ts:Array TypeId)(ty:TypeId)(d:bo φ (x::l) xs.toList)(h:nP vr x l=some v)(w:World) :
 ∃f,(Builtin.min_ ts ty xs).run P w=.ok f w/\aA φ v f:=by
 simp only [bo]at d;obtain⟨bD,t,e,Y,ag⟩:=d;unfold Builtin.min_;rw [e];exact y8 w (λ_ _ _ _ _ a b c=>Mv a b c w) Y ag h
def Ec(g:D.cG P){t:TypeId}{cs:List J}{off:Nat}(c:bo φ cs xs.toList)(h:apart D t cs off=some v)(w:World) :
 ∃a,(part t xs off).run P w=.ok a w/\aA φ v a:=by
 unfold apart at h;split at h
 .rename_i d j;obtain⟨i,u,ah,hu,k,hs, -⟩:=g.get j;rw [k]at h;split at h
  .rename_i b;split at h
   .rename_i hle;simp at h;subst h;refine⟨.agg (xs.extract off (off+i.size)),?_,?_⟩
    .simp only [part,Sem.run_bind,pn hu,Result.andThen_ok,b,dG,jh ah,Sem.run_pure]
    .simp only [aA];refine⟨_,rfl,?_⟩
     have e:(xs.extract off (off+i.size)).toList=(xs.toList.drop off).take i.size:=by simp [List.extract]
     rw [e,hs];exact(c.drop off).take i.size
   .cases h
  .rename_i b;obtain⟨a,Y,ag⟩:=c.get h;refine⟨a,?_,ag⟩;have f:xs[off]? =some a:=by simpa using Y
   simp only [part,Sem.run_bind,pn hu,Result.andThen_ok];simp only [b];simp [f]
 .cases h
def My(c:D.cG P){t:TypeId}{x:J}{bD:Value}{f:Nat}(g:aA φ x bD)(h:yV D t x f=some v)(w:World) :
 ∃a,(Instr.field t bD f).run P w=.ok a w/\aA φ v a:=by
 unfold yV at h;split at h
 .rename_i d cs l;obtain⟨i,u,ah,hu,p,hs, -⟩:=c.get l;rw [p]at h;split at h
  .rename_i fs e;obtain⟨k,rfl,o⟩:=vz e;split at h
   .rename_i off r b;simp only [aA]at g;obtain⟨xs,rfl,q⟩:=g;rw [o]at b;simp only [hD,cb]at b;obtain⟨j,m,he⟩:=b;simp at he;obtain⟨rfl,rfl⟩:=he;obtain⟨a,Y,ag⟩:=Ec c q h w;refine⟨a,?_,ag⟩;have n:k[f]? =some j:=by simpa using m
    simp [Instr.field,run_underlying hu,n,asAgg,Y]
   .cases h
  .cases h
 .cases h
def Mz(a:D.cG P){t:TypeId}{x i:J}{bD p:Value}(f:aA φ x bD)(ah:aA φ i p)(h:c' D t x i=some v)(w:World) :
 ∃g,(Instr.index t bD p).run P w=.ok g w/\aA φ v g:=by
 unfold c' at h;split at h
 .rename_i d cs k n j;obtain⟨F,u,y,hu,l,hs, -⟩:=a.get j;rw [l]at h;split at h
  .rename_i len e he;have:=qN he;subst this;split at h
   .rename_i cg z;obtain⟨I,K,B,H,G,C, -⟩:=a.get z;split at h
    .rename_i c;simp only [aA]at f ah;obtain⟨xs,rfl,E⟩:=f;subst ah;obtain⟨g,Y,ag⟩:=Ec a E h w;refine⟨g,?_,ag⟩;rw [C]at Y;simp [Instr.index,asIntOf,run_underlying hu,c,jh B,Y]
    .cases h
   .cases h
  .cases h
 .rename_i d s k n j;obtain⟨F,u,y,hu,l,hs, -⟩:=a.get j;rw [l]at h;split at h
  .rename_i e;have:=nT e;subst this;split at h
   .rename_i aw;simp only [aA]at f ah;obtain⟨m,rfl,rfl⟩:=f;subst ah;simp only [cb]at h;obtain⟨b,c,rfl⟩:=h;refine⟨.int .u8 b.toNat,?_,by simp only [aA]⟩
    have q:m[n.toNat]? =some b:=by
     have o:=(e4.1 c).1;have he:=(e4.1 c).2;have r:n.toNat<m.size:=by rw [fy]at o;exact o
     rw [getElem?_pos m n.toNat r];rw [<-he];rfl
    simp [Instr.index,asIntOf,run_underlying hu,aw,q]
   .cases h
  .cases h
 .cases h
def MA{vs:List J}{bD:Value}{i:Nat}(b:aA φ (.tuple vs) bD)(h:vs[i]? =some v)(w:World) :
 ∃a,(Instr.extract bD i).run P w=.ok a w/\aA φ v a:=by
 simp only [aA]at b;obtain⟨xs,rfl,d⟩:=b;obtain⟨a,Y,ag⟩:=d.get h;have c:xs[i]? =some a:=by simpa using Y
 exact⟨a,by simp [Instr.extract,c],ag⟩
def Place.nV(p:Place)(i f n:Nat):(p.at i f).add n=p.at i (f+n):=by unfold Place.at;rw [Addr.add_mid];rw [qt]
def MB(g:D.cG P){t:TypeId}{x:J}{bD:Value}{f:Nat}(j:aA φ x bD)(h:yU D t x f=some v)(w:World) :
 ∃k,(Instr.fieldAt t bD f).run P w=.ok k w/\aA φ v k:=by
 unfold yU at h;split at h
 .rename_i d a n;obtain⟨i,u,ah,hu,B,hs, -⟩:=g.get n;rw [B]at h;split at h
  .rename_i fs e;obtain⟨m,rfl,z⟩:=vz e;split at h
   .rename_i off F b;split at h
    .rename_i fd q;obtain⟨l,G,y,K,H,I, -⟩:=g.get q;split at h
     .rename_i L;simp at h;subst h;rw [z]at b;simp only [hD,cb]at b;obtain⟨c,r,he⟩:=b;simp at he;obtain⟨rfl,rfl⟩:=he;simp only [aA]at j;obtain⟨N,rfl,p,ae,o,C,rfl⟩:=j;have s:m[f]? =some c:=by simpa using r
      refine⟨.pointer (some (p.at a.idx (a.fld+c.offset))),?_,?_⟩
      .have E:¬l.size=0:= A;simp [Instr.fieldAt,run_underlying hu,s,Instr.sureAddr,fieldPlace,jh y,E,Place.nV]
      .simp only [aA];exact⟨_,rfl,p,ae,o,C,rfl⟩
     .cases h
    .cases h
   .cases h
  .cases h
 .cases h
def MC(r:D.cG P){t:TypeId}{x i:J}{bD F:Value}(g:aA φ x bD)(ah:aA φ i F)(h:iM D t x i=some v)(w:World) :
 ∃G,(Instr.indexAt t bD F).run P w=.ok G w/\aA φ v G:=by
 unfold iM at h;split at h
 .rename_i d a len cap k n y;obtain⟨R,u,K,hu,z,hs, -⟩:=r.get y;rw [z]at h;split at h
  .rename_i e he;have:=jg he;subst this;split at h
   .rename_i cg C;obtain⟨q,S,s,O,N,E, -⟩:=r.get C;split at h
    .rename_i b;simp at h;subst h;simp only [aA]at g ah;obtain⟨H,cap',rfl,Q,l2,B⟩:=g;have m:=b.2.2.2;obtain⟨p,ae,c,I,hex⟩:=B.plain m;subst ah;rcases I with aM|⟨o,rfl,U⟩
     .omega
     .refine⟨.pointer (some (p.at (a.idx+n.toNat) 0)),?_,?_⟩
      .have aQ:(p.at a.idx 0).add (n.toNat*q.size)=p.at (a.idx+n.toNat) 0:=by
        rw [Place.nV];unfold Place.at;have:a.idx+n.toNat-p.aD=(a.idx-p.aD)+n.toNat:= A;rw [this,jy,<-E,<-b.2.2.1,c]
        congr 1;omega
       have j:=b.1;have l:=b.2.1;simp [Instr.indexAt,asIntOf,run_underlying hu,j,l,jh s,aQ]
      .simp only [aA];exact⟨_,rfl,p,ae,c,by show p.aD<=a.idx+n.toNat;omega,by simp only [m]⟩
    .split at h
     .rename_i b;simp at h;subst h;simp only [aA]at g ah;obtain⟨H,cap',rfl,Q,l2,B⟩:=g;subst ah;rcases B with ⟨m,_⟩|⟨f,m,p,ae,c,o,rfl⟩
      .omega
      .simp only at ae c o;have L:q.size=1:= A;have j:=b.1;have l:=b.2.1;refine⟨.pointer (some (p.at a.idx (f+n.toNat))),?_,?_⟩
       .have aQ:(p.at a.idx f).add (n.toNat*q.size)=p.at a.idx (f+n.toNat):=by rw [Place.nV,L,o3]
        simp [Instr.indexAt,asIntOf,run_underlying hu,j,l,jh s,aQ]
       .simp only [aA];exact⟨_,rfl,p,ae,c,o,by show p.at a.idx (f+n.toNat)=p.at a.idx (a.fld-1+n.toNat);rw [m];rfl⟩
     .cases h
   .cases h
  .cases h
 .rename_i d a k n y;obtain⟨R,u,K,hu,z,hs, -⟩:=r.get y;rw [z]at h;split at h
  .rename_i len e he;have:=qN he;subst this;split at h
   .rename_i cg C;obtain⟨q,S,s,O,N,E, -⟩:=r.get C;split at h
    .rename_i b;simp at h;subst h;simp only [aA]at g ah;obtain⟨H,rfl,p,ae,c,o,rfl⟩:=g;subst ah;refine⟨.pointer (some (p.at a.idx (a.fld+n.toNat*q.size))),?_,?_⟩
     .have j:=b.1;have l:=b.2;simp [Instr.indexAt,asIntOf,run_underlying hu,j,l,jh s,Instr.sureAddr,Place.nV]
     .simp only [aA];exact⟨_,rfl,p,ae,c,o,by simp only [E]⟩
    .cases h
   .cases h
  .cases h
 .cases h
end
end
noncomputable section
open Go.RowKit
section
variable {P:Program}{φ:Map}
def jI(φ:Map):Option J->Option Value->Prop
 |none,none=>True
 |some a,some b=>aA φ a b
 |_,_=>False
def sH{v:Option J}{f:Option Value}(b:jI φ v f){g c r:Nat}(h:eI v g c=some r)(hs:v.isSome=true)
 {d:Nat} (hm:c<=d) (w:World) (code:BoundsCode):∃x,f=some x/\(Instr.sliceBound x d code).run P w=.ok r w/\r<=c:=by
 cases v with
 |none=>cases hs
 |some a =>
  cases f with
  |none=>exact b.elim
  |some x =>
   refine⟨x,rfl,?_⟩;unfold eI at h;split at h
   .rename_i e;cases e
   .rename_i k i e;simp at e;subst e;split at h
    .rename_i j;simp at h;subst h;simp only [jI,aA]at b;subst b;have hle:i<=(d:Int):= A;exact⟨by simp [Instr.sliceBound,asIntOf,j.1,hle],A⟩
    .cases h
   .cases h
def vA{aD ah mx:Option J}{d k mx':Option Value}(o:jI φ aD d)(i:jI φ ah k)(p:jI φ mx mx'){len cap cap' m c l:Nat}(r:len<=cap)(g:cap<=cap')
 (hm:eI mx cap cap=some m) (e:eI ah len m=some c) (n:eI aD 0 c=some l) (q:¬(mx.isSome=true/\ah.isNone=true)) (isSlice:Bool) (w:World) :
 ∃j,(Instr.sliceBounds isSlice len cap' d k mx').run P w=.ok (l,c,j) w/\m<=j/\j<=cap'/\(cap'=cap->j=m)/\c<=m/\l<=c:=by
 have f:∀code,(match d with|some v=>Instr.sliceBound v c code|none=>pure 0:Sem Nat).run P w=.ok l w/\l<=c:=by
  intro code;cases aD with
  |none=>cases d with
   |none=>simp [eI]at n;subst n;exact⟨rfl,Nat.zero_le _⟩
   |some _=>exact o.elim
  |some a =>
   obtain⟨x,rfl,Y,ag⟩:=sH (P:=P) o n rfl (Nat.le_refl _) w code;exact⟨Y,ag⟩
 cases mx with
 |none =>
  cases mx' with
  |some _=>exact p.elim
  |none =>
   simp [eI]at hm;subst hm;refine⟨cap',?_,g,Nat.le_refl _,λh=>h,?_⟩
   .cases ah with
    |none=>cases k with
     |some _=>exact i.elim
     |none =>
      simp [eI]at e;subst e;have:=(f .sliceB).1;cases d<;>simp_all [Instr.sliceBounds]
    |some b =>
     obtain⟨x,rfl,Y,ag⟩:=sH (P:=P) i e rfl g w (if isSlice then .sliceAcap else .sliceAlen);have:=(f .sliceB).1;cases d<;>simp_all [Instr.sliceBounds]
   .refine⟨?_,(f .sliceB).2⟩;cases ah with
    |none=>simp [eI]at e;omega
    |some b=>obtain⟨x,rfl,Y,ag⟩:=sH (P:=P) i e rfl g w .sliceB;exact ag
 |some a =>
  obtain⟨y,rfl,g1,g2⟩:=sH (P:=P) p hm rfl g w (if isSlice then .slice3Acap else .slice3Alen);cases ah with
  |none=>simp at q
  |some b =>
   obtain⟨x,rfl,Y,ag⟩:=sH (P:=P) i e rfl (Nat.le_refl _) w .slice3B;refine⟨m,?_,Nat.le_refl _,A,λ_=>rfl,ag,(f .sliceB).2⟩;have:=(f .slice3C).1;cases d<;>simp_all [Instr.sliceBounds]
def MD(s:ByteArray)(l h:Nat):(s.extract l h).data.toList=(s.data.toList.take h).drop l:=by have:(s.extract l h).data=s.data.extract l h:= au;rw [this];simp [List.extract,List.drop_take]
def ME{D:cV}(o:D.cG P){t:TypeId}{x v:J}{bD:Value}{aD ah mx:Option J}{a2 W mx':Option Value}(f:aA φ x bD)
 (B:jI φ aD a2) (z:jI φ ah W) (C:jI φ mx mx') (h:dW D t x aD ah mx=some v) (w:World) :
 ∃a4,(Instr.sliceAt t bD a2 W mx').run P w=.ok a4 w/\aA φ v a4:=by
 unfold dW at h;split at h
 .rename_i d a len cap q;obtain⟨a3,u,am,hu,y,hs, -⟩:=o.get q;rw [y]at h;split at h
  .rename_i e he;have:=jg he;subst this;split at h
   .rename_i cg m O hm;obtain⟨I,c9,F,c4,c3,a0, -⟩:=o.get O;split at h
    .rename_i c g;split at h
     .rename_i l j;split at h
      .cases h
      .rename_i E;split at h
       .simp at h;subst h;simp only [aA]at f;obtain⟨rfl,rfl,rfl⟩:=f;obtain⟨b,i,Q,R,k,S,U⟩:=vA (P:=P) B z C (Nat.le_refl _) (Nat.le_refl 0) hm g j E true w;have aQ:b=0:= A;have aZ:m=0:= A;have a5:c=0:= A;have a9:l=0:= A;subst aQ aZ a5 a9;refine⟨.slice none 0 0,?_,by simp [aA]⟩;simp [Instr.sliceAt,run_underlying hu,Instr.slice,i,jh F]
       .rename_i a;split at h
        .rename_i bv;obtain⟨bs,K⟩:=bv;simp at h;subst h;simp only [aA]at f;obtain⟨H,cap',rfl,c5,l2,c0⟩:=f;obtain⟨p,ae,r,ct,hex⟩:=c0.plain K;obtain⟨b,i,Q,R,k,S,U⟩:=vA (P:=P) B z C c5 l2 hm g j E true w;refine⟨.slice (if b=l then some H else some (H.add (l*I.size))) (c-l) (b-l),?_,?_⟩
         .simp [Instr.sliceAt,run_underlying hu,Instr.slice,i,jh F]
         .simp only [aA];by_cases X:b=l
          .rw [az X];exact⟨H,b-l,rfl,A,A,.inl ⟨K,p,ae,r,.inl A,λc=>by have:=k (hex c);omega⟩⟩
          .rw [ai X];refine⟨_,b-l,rfl,A,A,.inl ⟨K,p,ae,r,?_,λc=>by have:=k (hex c);omega⟩⟩;rcases ct with aM|⟨g1,rfl,g3⟩
           .left;omega
           .right;refine⟨by show p.aD<=a.idx+l;omega,?_,by show a.idx+l-p.aD+(b-l)<=p.tot;omega⟩;rw [Place.nV];unfold Place.at;have:a.idx+l-p.aD=(a.idx-p.aD)+l:= A;simp only [this,jy,<-a0,<-bs,r]
            congr 1;omega
        .cases h
     .cases h
    .cases h
   .cases h
  .cases h
 .rename_i d a q;obtain⟨a3,u,am,hu,y,hs, -⟩:=o.get q;rw [y]at h;split at h
  .rename_i n el bn;have:=qN bn;subst this;split at h
   .rename_i cg O;obtain⟨I,c9,F,c4,c3,a0, -⟩:=o.get O;split at h
    .cases h
    .rename_i E;split at h
     .rename_i c g;split at h
      .rename_i l j;split at h
       .rename_i aj;obtain⟨dg,d0⟩:=aj;simp at h;subst h;simp only [aA]at f;obtain⟨H,rfl,p,ae,r,ce,rfl⟩:=f;have L:mx=none:=by cases mx<;>simp_all
        subst L;have N:mx'=none:=by cases mx' with|none=>rfl|some _=>exact C.elim
        subst N;obtain⟨b,i,Q,R,k,S,U⟩:=vA (P:=P) (mx:=none) (mx':=none) B z trivial (Nat.le_refl n) (Nat.le_refl n) (m:=n) (by simp [eI]) g j au false w;have co:=k rfl;subst co;have c2:I.size=1:= A;refine⟨.slice (some ((p.at a.idx a.fld).add (l*I.size))) (c-l) (b-l),?_,?_⟩
        .have cs:¬b=l:= A;simp [Instr.sliceAt,run_underlying hu,i,jh F,Instr.sureAddr,cs]
        .simp only [aA];refine⟨_,b-l,rfl,A,Nat.le_refl _,.inr ⟨a.fld+l,rfl,p,ae,r,ce,?_⟩⟩;rw [Place.nV,c2,o3]
       .cases h
      .cases h
     .cases h
   .cases h
  .cases h
 .rename_i d s q;obtain⟨a3,u,am,hu,y,hs, -⟩:=o.get q;rw [y]at h;split at h
  .rename_i e;have:=nT e;subst this;split at h
   .cases h
   .rename_i E;split at h
    .rename_i c g;split at h
     .rename_i l j;simp at h;subst h;simp only [aA]at f;obtain⟨G,rfl,rfl⟩:=f;rw [fy]at g;have L:mx=none:=by cases mx<;>simp_all
      subst L;have N:mx'=none:=by cases mx' with|none=>rfl|some _=>exact C.elim
      subst N;obtain⟨b,i,Q,R,k,S,U⟩:=vA (P:=P) (mx:=none) (mx':=none) B z trivial (Nat.le_refl G.size) (Nat.le_refl G.size) (m:=G.size) (by simp [eI]) g j au false w;refine⟨.string (G.extract l c),?_,by simp only [aA];exact⟨_,rfl,MD _ _ _⟩⟩;simp [Instr.sliceAt,run_underlying hu,Instr.slice,i]
     .cases h
    .cases h
  .cases h
 .cases h
def vB{w:World}{b o:Nat} :∀{l:List J},(∀j bD,l[j]? =some bD-> ∃x,w.cell? ⟨b,o+j,none⟩=some x/\aA φ bD x/\x.oneCell'=true) ->
 ∃vs,bo φ l vs/\w.rangeAt b o vs/\∀x∈vs,x.oneCell'=true
 |[],_=>⟨[],by simp [bo],by intro j v c;simp at c,au⟩
 |a ::r,h=>by
  obtain⟨x,g,e⟩:=h 0 a au
  have ih:=vB (w:=w) (b:=b) (o:=o+1) (l:=r) (λj bD f=>by
   obtain⟨x,g1,g2⟩:=h (j+1) bD (by simpa using f)
   exact⟨x,by rw [show o+1+j=o+(j+1)by omega];exact g1,g2⟩)
  obtain⟨vs,i1,i2,i3⟩:=ih;refine⟨x::vs,by simp only [bo];exact⟨_,_,rfl,e.1,i1⟩,?_,?_⟩
  .intro j v c;cases j with
   |zero=>simp at c;subst c;exact g
   |succ j=>simp at c;have:=i2 j v c;rw [show o+(j+1)=o+1+j by omega];exact this
  .intro y d;rcases dR.1 d with rfl|d
   .exact e.2
   .exact i3 y d
def cv.MF{aR:Nat->Prop}{h:T}{w:World}(r:cv φ aR h w){a:bB}{f:Addr}(i:qI φ a f){b:aa}(k:h.get a.id=some b){e:J}(he:b.elem? a.ad a.idx=some e) :
 ∃p,φ a.id a.ad=some p/\f=p.at a.idx a.fld/\p.aD<=a.idx/\e.cells.length=p.es/\∀j bD,e.cells[j]? =some bD-> ∃x,w.cell? (p.at a.idx j)=some x/\aA φ bD x/\x.oneCell'=true:=by
 obtain⟨p,ae,t,d,rfl⟩:=i;obtain⟨Y,c,ag,m,n,o,q,s,g⟩:=r.cN _ _ _ ae;rw [k]at ag;simp at ag;subst ag;unfold aa.elem? at he;split at he
 .rename_i l;obtain⟨cL,c2,c3⟩:=g.cont _ _ d l he;exact⟨p,ae,rfl,d,cL,c3⟩
 .cases he
def Ed{D:cV}(q:D.cG P){aR:Nat->Prop}{h:T}{w:World}(r:cv φ aR h w){t:TypeId}{a:bB}{bD:Value}{v:J}(n:aA φ (.ptr (some a)) bD)(c:a6 D t a h=some v) :
 ∃g,(Instr.loadAt t bD).run P w=.ok g w/\aA φ v g:=by
 unfold a6 at c;split at c
 .rename_i d b B z;obtain⟨L,u,H,hu,E,hs, -⟩:=q.get B;split at c
  .rename_i e he;simp only [aA]at n;obtain⟨O,rfl,s⟩:=n;obtain⟨p,ae,rfl,N,hlen,k⟩:=r.MF s z he;rw [E,hs]at c;cases i:(fm u).isAgg with
   |true =>
    rw [i]at c;simp only [eK,dG]at c;split at c
    .rename_i cs
     have key:∀(l:List J),(∀(j:Nat)(bD:J),l[j]? =some bD->cs[a.fld+j]? =some bD)->l.length=L.size-> ∃g,(Instr.loadAt t (.pointer (some (p.at a.idx a.fld)))).run P w=.ok g w/\aA φ (.agg l) g:=by
      intro l F G
      obtain⟨vs,m,I, -⟩:=vB (φ:=φ) (w:=w) (b:=p.bQ) (o:=p.off+(a.idx-p.aD)*p.es+a.fld) (l:=l) (λj bD f=>by
       obtain⟨x,g1,g2⟩:=k (a.fld+j) bD (F j bD f)
       exact⟨x,by rw [Place.at,<-qt]at g1;exact g1,g2⟩)
      refine⟨.agg vs.toArray,?_,by simp only [aA];exact⟨_,rfl,by simpa using m⟩⟩;exact run_loadAt_mid w p.bQ _ t vs u I hu (by cases u<;>simp [fm,iL.isAgg]at i⊢) (by rw [H];simp [m.length,G])
     split at c
     .rename_i aj;simp at c;subst c;exact key cs (λj bD f=>by rw [aj.1,gw];exact f) aj.2.symm
     .split at c
      .rename_i aj;simp at c;subst c;refine key _ (λj bD f=> ?_) (by simp;omega);rw [ke]at f;split at f
       .rw [lx]at f;exact f
       .simp at f
      .cases c
    .cases c
   |false =>
    rw [i]at c
    have key:∀(j:Nat)(y:J),e.cells[j]? =some y->a.fld=j-> ∃g,(Instr.loadAt t (.pointer (some (p.at a.idx a.fld)))).run P w=.ok g w/\aA φ y g:=by intro j y K f;subst f;obtain⟨x,g1,g2⟩:=k a.fld y K;refine⟨x,?_,g2.1⟩;simp only [Instr.loadAt,Instr.sureAddr,Sem.run_bind,Sem.run_pure,Result.andThen_ok,loadVar,pn hu,i];simp [g1]
    simp only [eK]at c;cases e with
    |agg cs=>exact key a.fld v c rfl
    |_ =>
     simp at c;obtain⟨C,rfl⟩:=c;exact key 0 _ (by simp [J.cells]) C
  .cases c
 .cases c
def aA.MG{a:J}{v:Value}(h:aA φ a v)(hs:a.hV=true):v.oneCell'=true:=by
 cases a with
 |undef=>cases hs
 |agg cs=>cases hs
 |tuple cs=>cases hs
 |bool b=>simp only [aA]at h;subst h;rfl
 |int k n=>simp only [aA]at h;subst h;rfl
 |str s=>simp only [aA]at h;obtain⟨_,rfl,_⟩:=h;rfl
 |ptr o=>cases o with
  |none=>simp only [aA]at h;subst h;rfl
  |some x=>simp only [aA]at h;obtain⟨_,rfl,_⟩:=h;rfl
 |slice o l c=>cases o with
  |none=>simp only [aA]at h;obtain⟨rfl,_⟩:=h;rfl
  |some x=>simp only [aA]at h;obtain⟨_,_,rfl,_⟩:=h;rfl
 |func fn f c=>simp only [aA]at h;obtain⟨_,_,rfl,_⟩:=h;rfl
 |nilFunc=>simp only [aA]at h;subst h;rfl
 |iface t x=>simp only [aA]at h;obtain⟨_,rfl,_⟩:=h;rfl
 |nilIface=>simp only [aA]at h;subst h;rfl
end
end
noncomputable section
open Go.RowKit
section
variable {P:Program}{φ:Map}
variable {v:J}
def y9(h:v.hV=true):v.cells=[v]:=by cases v<;>first|rfl|(simp [J.hV]at h)
def po{a:Bool}{size:Nat}(h:v.fits a size=true):v.cells.length=size/\v≠ .undef/\∀c∈v.cells,c.hV=true:=by cases v<;>simp [J.fits,J.cells,J.hV]at h⊢ <;>first|exact h.2.symm|exact⟨h.1.2,h.2⟩|skip
def bo.one{l:List J}{t:List Value}(h:bo φ l t)(hs:∀c∈l,c.hV=true):∀x∈t,x.oneCell'=true:=by
 intro x d;obtain⟨i,ah,rfl⟩:=ly.1 d;have b:i<l.length:=by rw [<-h.length];exact ah
 obtain⟨v,a,e⟩:=h.get (ds b);rw [ds ah]at a;simp at a;subst a;exact e.MG (hs _ (ic _))
def MH{D:cV}(E:D.cG P){aR:Nat->Prop}{h Z:T}{aV w:World}(r:cv φ aR h w)(F:Safe aR aV w){t:TypeId}{a:bB}{bD i:Value}
 (z:aA φ (.ptr (some a)) bD) (O:aA φ v i) (f:gz D t a v h=some Z) :
 ∃a7,(Instr.storeAt t bD i).run P w=.ok () a7/\cv φ aR Z a7/\Safe aR aV a7/\Z.M=h.M:=by
 unfold gz at f;split at f
 .rename_i d b G n;obtain⟨S,u,N,hu,a2,hs, -⟩:=E.get G;split at f
  .rename_i aj;simp only [cC,gV,jB]at aj;obtain⟨⟨H,x⟩,Q⟩:=aj;split at f
   .rename_i e he;split at f
    .rename_i e' g;simp at f;subst f;simp only [aA]at z;obtain⟨a3,rfl,p,ae,a0,q,rfl⟩:=z;rw [Q]at ae;obtain⟨f1,f2,f3⟩:=po H;have k:=O.cells f2;have s:=k.one f3;obtain⟨Y,c,ag,U,W,X,C,am,m⟩:=r.cN _ _ _ ae;rw [n]at ag;simp at ag;subst ag;have I:a.idx<b.bg.length:=(e4.1 he).1;obtain⟨cL,c2,c3⟩:=m.cont a.idx e q (by simp [aa.b6];exact I) he
     have o:a.fld+v.cells.length<=p.es/\e'.cells=gW e.cells a.fld v.cells:=by
      unfold nN at g;split at g
      .rename_i cs;split at g
       .rename_i hle;simp at g;subst g;simp only [J.cells]at cL;exact⟨A,rfl⟩
       .cases g
      .rename_i K;split at g
       .rename_i aj;simp at g;subst g;have aQ:e.cells=[e]:=by cases e<;>first|rfl|exact absurd rfl (K _)
        rw [aQ]at cL⊢;have aZ:=y9 aj.2;rw [aj.1,aZ];simp at cL;exact⟨by simp;omega,rfl⟩
       .cases g
     obtain⟨R,B⟩:=r.store ae n x q he k s o.1 o.2;refine⟨_,?_,R,?_,rfl⟩
     .have L:i.cells.size=S.size:=by have:=k.length;rw [fy]at this;omega
      have y:=run_storeCells_cells (P:=P) p.bQ (p.off+(a.idx-p.aD)*p.es+a.fld) i.cells.toList 0 w (λj l=>by simpa using (B j l).1) (λj l=>by simpa using (B j l).2) s;simp only [qq]at y;simp only [Instr.storeAt,Instr.sureAddr,Sem.run_bind,Sem.run_pure,Result.andThen_ok,storeVar,jh N,L,Place.at];simp only [ne_eq,not_true_eq_false,ez];exact y
     .exact sD _ (m.base (C x)) _ _ F
    .cases f
   .cases f
  .cases f
 .cases f
def MI(v:J):flat [v]=v.cells:=by simp [flat]
def Ee{D:cV}{aR:Nat->Prop}{h:T}{aV w:World}(r:cv φ aR h w)(f:Safe aR aV w)(g:dS aR aV.heap.size){nid:Nat}(hid:∀v,φ nid v=none)(aw:nid<h.M)(t:TypeId){a:Value}{n:Bool}{size:Nat}
 (l:aA φ v a) (i:v.fits n size=true) (k:0<size) :
 ∃a7 c,(newVar t a).run P w=.ok ⟨w.heap.size,0,none⟩ a7/\fB φ c h.M nid/\aA c (.ptr (some ⟨nid,0,0,0,size⟩)) (.pointer (some ⟨w.heap.size,0,none⟩))
  /\cv c aR (h.set nid (.an [v] size true (some (t,size)))) a7/\Safe aR aV a7:=by
 obtain⟨f1,f2,f3⟩:=po i;have b:=l.cells f2;have j:=b.one f3;have hlen:a.cells.toList.length=size:=by rw [b.length,f1]
 have d:dS aR w.heap.size:=g.le f.size;refine⟨w.alloc (.cells a.cells t),φ.add nid 0 ⟨w.heap.size,0,0,size,1,true,false⟩,rfl,fB.add φ _ (hid 0) _,?_,?_,f.alloc d _⟩
 .simp only [aA];refine⟨_,rfl,_,Map.vv _ _ _ _,rfl,Nat.le_refl _,?_⟩;simp [Place.at]
 .refine r.an hid aw d k (by intro e he;simp at he;subst he;exact f1) ?_ ?_ au ?_ (λq h=>by cases h;exact⟨rfl,λ_=>by rw [<-fy,hlen]⟩)
  .rw [MI,nE (by simp [hlen])];exact b
  .rw [<-fy,hlen];omega
  .intro x m;exact j x (sl m)
def sI(l:List Value)(i:Nat):List Value->List Value
 |[]=>l
 |v::vs=>sI (l.set i v) (i+1) vs
def bo.put{l m:List J}{t u:List Value}(h:bo φ l t)(k:bo φ m u)(i:Nat):bo φ (br.gW l i m) (sI t i u):=by
 induction m generalizing l t u i with
 |nil=>simp only [bo]at k;subst k;exact h
 |cons a r ih =>
  simp only [bo]at k;obtain⟨v,b,rfl,Y,ag⟩:=k;exact ih (h.set i Y) ag (i+1)
def Ef:∀(vs:List Value)(off k:Nat)(cells:Array Value),((vs.zipIdx k).foldl (λcs (x:Value×Nat)=>cs.setIfInBounds (off+x.2) x.1) cells).toList=sI cells.toList (off+k) vs
 |[],off,k,cells=>rfl
 |v::vs,off,k,cells=>by simp only [List.zipIdx_cons,hT,sI];rw [Ef vs off (k+1),Array.toList_setIfInBounds,qt]
def Eg(vs:Array Value)(off:Nat)(cells:Array Value):(vs.zipIdx.foldl (λcs (x:Value×Nat)=>cs.setIfInBounds (off+x.2) x.1) cells).toList=sI cells.toList off vs.toList:=by rw [<-Array.foldl_toList,Array.toList_zipIdx];exact Ef vs.toList off 0 cells
def y'{place place':Nat->Option (Nat×Nat)}(ae:∀i x,place i=some x->place' i=some x):∀{parts:List (Nat×J)} {d:List (Nat×Value)} {l c:List J} {cells:Array Value},
 (parts.map (·.1)=d.map (·.1))->bo φ (parts.map (·.2)) (d.map (·.2))->bo φ l cells.toList->qG place l parts=some c ->
 ∃a,Instr.fill place' cells d=some a/\bo φ c a.toList
 |[],[],l,c,cells,_,_,b,h=>by simp [qG]at h;subst h;exact⟨cells,rfl,b⟩
 |[],_::_,_,_,_,h,_,_,_=>by simp at h
 |_::_,[],_,_,_,h,_,_,_=>by simp at h
 |(i, v)::rest,(r,g)::s,l,c,cells,Y,ag,b,h=>by
  simp at Y;obtain⟨rfl,Y⟩:=Y;simp only [ei,bo]at ag;obtain⟨u,t,e,m,ag⟩:=ag;simp at e;obtain⟨rfl,rfl⟩:=e;simp only [qG]at h;split at h
  .cases h
  .rename_i off size k;split at h
   .rename_i aj;have f:=m.cells (by rintro rfl;simp [J.known]at aj);have q:g.cells.size=size:=by have:=f.length;rw [fy]at this;omega
    have p:cells.size=l.length:=by have:=b.length;rw [fy]at this;omega
    have key:=y' ae Y ag (l:=gW l off v.cells) (cells:=g.cells.zipIdx.foldl (λcs (x:Value×Nat)=>cs.setIfInBounds (off+x.2) x.1) cells)
     (by rw [Eg];exact b.put f off) h
    obtain⟨a,n,o⟩:=key;refine⟨a,?_,o⟩;simp only [Instr.fill,ae _ _ k];split
    .rename_i j;exfalso;simp only [ne_eq,eC,eP]at j;omega
    .exact n
   .cases h
def za(parts:Array (Nat×Operand))(ρ:Operand->J)(ρ':Operand->Value) :
 (parts.toList.map λp=>(p.1,ρ p.2)).map (·.1)=((parts.map fun(i,x)=>(i,ρ' x)).toList).map (·.1):=by
 simp only [u7,o8];rfl
variable {ρ':Operand->Value}
def zb{ρ:Operand->J}(a:∀x,aA φ (ρ x) (ρ' x))(parts:Array (Nat×Operand)) :
 bo φ ((parts.toList.map λp=>(p.1,ρ p.2)).map (·.2)) (((parts.map fun(i,x)=>(i,ρ' x)).toList).map (·.2)):=by
 simp only [u7,o8];exact bo.map _ _ _ λx _=>a x.2
def qO{D:cV}(c:D.cG P){t:TypeId}{d:nM}{i:TypeInfo}{z:J}(h:d.zero=i.zero.map nL)(b:d.zero=some z):∃a,i.zero=some a/\aA φ z a:=by
 rw [b]at h;cases ah:i.zero with
 |none=>rw [ah]at h;cases h
 |some a=>rw [ah]at h;simp at h;subst h;exact⟨a,rfl,DY φ a⟩
def MJ{fs:Array Field}{w:World}{g:Field->Nat}(ab:∀f∈fs.toList,(sizeOf f.type).run P w=.ok (g f) w) :
 ((fs.mapM λf=>(do pure (f.offset,<-sizeOf f.type):Sem (Nat×Nat)))).run P w=.ok (fs.map λf=>(f.offset,g f)) w:=by
 have key:∀(l:List Field),(∀f∈l,(sizeOf f.type).run P w=.ok (g f) w)->(l.mapM λf=>(do pure (f.offset,<-sizeOf f.type):Sem (Nat×Nat))).run P w=.ok (l.map λf=>(f.offset,g f)) w:=by
  intro l;induction l with
  |nil=>intro _;rfl
  |cons f r ih =>
   intro h;simp only [List.mapM_cons,Sem.run_bind,h f au,Result.andThen_ok,Sem.run_pure,ih (λf a=>h f (by simp [a])),ei]
 have:=key fs.toList ab;rw [<-Array.toArray_toList (xs:=fs)];simp only [List.mapM_toArray,Sem.run_map,this,Result.andThen_ok,List.map_toArray]
def MK{D:cV}(c:D.cG P){t:TypeId}{parts:Array (Nat×Operand)}{ρ:Operand->J}(O:∀x,aA φ (ρ x) (ρ' x))
 (h:yT D t (parts.toList.map λp=>(p.1,ρ p.2))=some v) (w:World) :
 ∃Q,(Instr.build t (parts.map fun(i,x)=>(i,ρ' x))).run P w=.ok Q w/\aA φ v Q:=by
 unfold yT at h;split at h
 .rename_i d S;obtain⟨a9,u,L,hu,K,hs, -,N⟩:=c.get S;split at h
  .rename_i fs z j s;split at h
   .rename_i l;rw [K]at j;obtain⟨k,rfl,I⟩:=vz j;obtain⟨a4,B,C⟩:=qO (P:=P) (φ:=φ) (t:=t) c N s;simp only [cb]at h;obtain⟨cells,aj,rfl⟩:=h
    have am:∀f∈k.toList,∃x,D f.type=some x:=by intro f b;have o:=l.2;unfold DX at o;rw [I,ea]at o;have:=o (f.offset,f.type) (dV.2 ⟨f,b,rfl⟩);exact nF.1 this
    have X:=MJ (P:=P) (w:=w) (fs:=k) (g:=λf=>((D f.type).map (·.size)).getD 0) (λf b=>by
     obtain⟨x,a⟩:=am f b;obtain⟨H,a3,q, -, -,r, -⟩:=c.get a
     rw [jh q,a];simp [r])
    have E:z≠ .undef:=by rintro rfl;simp [J.known]at l
    obtain⟨m,F,G⟩:=y' (φ:=φ) (place':=λi=>(k.map λf=>(f.offset,((D f.type).map (·.size)).getD 0))[i]?) (λi x a=>by
     split at a
     .rename_i off a5 b;simp only [cb]at a;obtain⟨y,a2,rfl⟩:=a;rw [I]at b;simp only [hD,cb]at b;obtain⟨R,U,he⟩:=b;simp at he;obtain⟨rfl,rfl⟩:=he;have W:k[i]? =some R:=by simpa using U
      simp [W,a2]
     .cases a) (za parts ρ ρ') (zb O parts) (C.cells E) aj
    refine⟨.agg m,?_,by simp only [aA];exact⟨_,rfl,G⟩⟩;simp only [Instr.build,Sem.run_bind,sF L B,Result.andThen_ok,run_underlying hu,X,F,Sem.run_pure]
   .cases h
  .rename_i n e z j s;split at h
   .rename_i cg a0;split at h
    .rename_i l;rw [K]at j;have:=qN j;subst this;obtain⟨a4,B,C⟩:=qO (P:=P) (φ:=φ) (t:=t) c N s;obtain⟨H,a3,q, -, -,r, -⟩:=c.get a0;simp only [cb]at h;obtain⟨cells,aj,rfl⟩:=h;have E:z≠ .undef:=by rintro rfl;simp [J.known]at l
     obtain⟨m,F,G⟩:=y' (φ:=φ) (place':=λi=>some (i*H.size,H.size)) (λi x a=>by rw [<-r];exact a) (za parts ρ ρ') (zb O parts) (C.cells E) aj;refine⟨.agg m,?_,by simp only [aA];exact⟨_,rfl,G⟩⟩;simp only [Instr.build,Sem.run_bind,sF L B,Result.andThen_ok,run_underlying hu,jh q,F,Sem.run_pure]
    .cases h
   .cases h
  .cases h
 .cases h
end
end
noncomputable section
open Go.RowKit
section
variable {P:Program}{φ:Map}
def mB(P:Program)(φ:Map)(aR:Nat->Prop)(aV:World)(h:T)(nid:Nat)(v:J)(Z:T)(s:Sem Value)(w:World):Prop :=
 ∃b a7 a,s.run P w=.ok b a7/\fB φ a h.M nid/\aA a v b/\cv a aR Z a7/\Safe aR aV a7/\Z.M=h.M
def mB.pure{aR:Nat->Prop}{aV:World}{h:T}{nid:Nat}{v:J}{s:Sem Value}{w:World}(r:cv φ aR h w)(b:Safe aR aV w)(k:∃a,s.run P w=.ok a w/\aA φ v a):mB P φ aR aV h nid v h s w :=
 let ⟨a,Y,ag⟩:=k;⟨a,w,φ,Y,fB.refl _ _ _,ag,r,b,rfl⟩
def ML(zs:Array Value)(i:Nat)(h:i<zs.size):zs[i]! =zs[i]:=by simp [getElem!_pos,h]
def Eh{z:J}{b:Value}{es:Nat}(t:aA φ z b)(m:z≠ .undef)(hlen:z.cells.length=es)(x:0<es)(n:Nat) :
 bo φ (flat (List.replicate n z)) ((Array.range (n*es)).map (λi=>b.cells[i%b.cells.size]!)).toList:=by
 have aj:=t.cells m;have r:b.cells.size=es:=by have:=aj.length;rw [fy]at this;omega
 have d:∀e∈List.replicate n z,e.cells.length=es:=by intro e he;rw [qu he];exact hlen
 refine bo.dI (by rw [jf d];simp) λi a v c f=> ?_
 have ah:i<(flat (List.replicate n z)).length:=(e4.1 c).1;obtain⟨q,j,e,rfl,he,l⟩:=vx d i ah;have h:e=z:=qu (gx he);subst h;have g:e.cells[j]? =some (e.cells[j]' A):=ds _;have k:=lF d he g;rw [k]at c;simp at c;subst c;have p:(q*es+j)%es=j:=by rw [Nat.add_comm,Nat.add_mul_mod_self_right];exact so l
 have o:q*es+j<n*es:=by rw [jf d]at ah;simpa using ah
 obtain⟨u,hu,w⟩:=aj.get g
 have s:b.cells[j]' A =u:=by have:=(e4.1 hu).2;simpa using this
 simp only [u7,Array.toList_range,hD,u9 o,eE,a8]at f;rw [r,p,ML _ _ A,s]at f;subst f;exact w
def Ei:∀{parts:List (Nat×J)} {l a:List J},kU l parts=some a->a.length=l.length
 |[],l,a,h=>by simp [kU]at h;subst h;rfl
 |(i,v)::r,l,a,h=>by
  simp only [kU]at h;split at h
  .rw [Ei h];simp
  .cases h
def MM{es:Nat} :∀{l:List J}(a:∀e∈l,e.cells.length=es){i:Nat}{v:J},i<l.length->v.cells.length=es->flat (l.set i v)=gW (flat l) (i*es) v.cells:=by
 intro l a i v ah f
 have b:∀e∈l.set i v,e.cells.length=es:=by
  intro e he;rcases yM he with h|h
  .exact a e h
  .rw [h];exact f
 apply o9;intro k;rw [vw];by_cases c:k<(flat (l.set i v)).length
 .obtain⟨q,j,e,rfl,he,g⟩:=vx b k c;have o:e.cells.length=es:=b e (gx he);rw [lF b he (ds (by omega:j<e.cells.length))];have m:q*es+j<(flat l).length:=by rw [jf a];rw [jf b,List.length_set]at c;exact c
  by_cases d:i=q
  .subst d;rw [sh ah]at he;simp at he;subst he;rw [az ⟨A,by rw [f];omega,m⟩,show i*es+j-i*es=j by omega,ds A]
  .rw [qo d]at he;rw [ai]
   .rw [lF a he (ds (by omega:j<e.cells.length))]
   .intro aj;rcases gK q i with n|p
    .have:=qM (i:=q) (k:=i) (j:=j) (es:=es) n g;omega
    .have:=qM (i:=i) (k:=q) (j:=es-1) (es:=es) A A ;omega
 .rw [ib A,ai (by rw [jf b,List.length_set]at c;rw [jf a];omega),ib (by rw [jf a];rw [jf b,List.length_set]at c;omega)]
def Ej{es:Nat} :∀{parts:List (Nat×J)} {f:List (Nat×Value)} {l b:List J} {cells:Array Value},
 (parts.map (·.1)=f.map (·.1))->bo φ (parts.map (·.2)) (f.map (·.2))->(∀p∈parts,p.2≠ .undef/\p.2.cells.length=es)->(∀e∈l,e.cells.length=es)->bo φ (flat l) cells.toList->kU l parts=some b ->
 ∃c,Instr.fill (λi=>some (i*es,es)) cells f=some c/\bo φ (flat b) c.toList/\(∀e∈b,e.cells.length=es)
 |[],[],l,b,cells,_,_,_,a,d,h=>by simp [kU]at h;subst h;exact⟨cells,rfl,d,a⟩
 |[],_::_,_,_,_,h,_,_,_,_,_=>by simp at h
 |_::_,[],_,_,_,h,_,_,_,_,_=>by simp at h
 |(i, v)::rest,(C,m)::D,l,b,cells,Y,ag,g,a,d,h=>by
  simp at Y;obtain⟨rfl,Y⟩:=Y;simp only [ei,bo]at ag;obtain⟨u,t,e,q,ag⟩:=ag;simp at e;obtain⟨rfl,rfl⟩:=e;simp only [kU]at h;split at h
  .rename_i ah;obtain⟨r,k⟩:v≠ .undef/\v.cells.length=es:=g (i,v) au;have j:=q.cells r;have B:m.cells.size=es:=by have:=j.length;rw [fy]at this;omega
   have z:cells.size=l.length*es:=by have:=d.length;rw [fy,jf a]at this;omega
   have hle:i*es+es<=l.length*es:=by have:=o7 es (show i+1<=l.length by omega);rw [qp]at this;exact this
   have key:=Ej Y ag (λp o=>g p (by simp [o])) (l:=l.set i v) (cells:=m.cells.zipIdx.foldl (λcs (x:Value×Nat)=>cs.setIfInBounds (i*es+x.2) x.1) cells)
    (by
     intro e he;rcases yM he with h|h
     .exact a e h
     .rw [h];exact k)
    (by rw [Eg,MM a ah k];exact d.put j _) h
   obtain⟨c,s,w,y⟩:=key;refine⟨c,?_,w,y⟩;simp only [Instr.fill];split
   .rename_i n;exfalso;simp only [ne_eq,eC,eP]at n;omega
   .exact s
  .cases h
def Ek{l:List J}{b:Bool}{es:Nat}(h:∀e∈l,e.fits b es=true):∀c∈flat l,c.hV=true:=by intro c aj;obtain⟨e,he,a⟩:=List.mem_flatMap.1 aj;exact(po (h e he)).2.2 c a
def El(t:TypeId)(c:Array Value)(w:World):(newRow t c).run P w=.ok ⟨w.heap.size,0,none⟩ (w.alloc (.cells c t)):=rfl
def aA.hF{φ:Map}{nid b es len cap tot:Nat}{ex:Bool}{cap':Nat}(c:len<=cap)(a:cap<=cap')(d:cap'<=tot)(hex:ex=true->cap'=cap) :
 aA (φ.add nid 0 ⟨b,0,0,es,tot,ex,false⟩) (hF nid es len cap) (.slice (some ⟨b,0,none⟩) len cap'):=by
 simp only [br.hF,aA];refine⟨_,_,rfl,c,a,.inl ⟨rfl,_,Map.vv _ _ _ _,rfl,.inr ⟨Nat.le_refl _,?_,by simpa using d⟩,hex⟩⟩;simp [Place.at]
def MN{D:cV}(g:D.cG P){aR:Nat->Prop}{h Z:T}{aV w:World}(r:cv φ aR h w)(y:Safe aR aV w)(N:dS aR aV.heap.size){nid:Nat}(hid:∀v,φ nid v=none)(aw:nid<h.M)
 {t:TypeId} {n:Nat} {parts:Array (Nat×Operand)} {ρ:Operand->J} {ρ':Operand->Value} (bn:∀x,aA φ (ρ x) (ρ' x)) {v:J}
 (a:jE D t n (parts.toList.map λp=>(p.1,ρ p.2)) nid h=some (v,Z)) :
 mB P φ aR aV h nid v Z (Instr.buildSlice t n (parts.map fun(i,x)=>(i,ρ' x))) w:=by
 unfold jE at a;split at a
 .rename_i d Q;obtain⟨co,u,ce,hu,R,hs, -, -⟩:=g.get Q;split at a
  .rename_i e F;rw [R]at F;have:=jg F;subst this;split at a
   .rename_i cg a2;obtain⟨b,cs,I, -, -,f, -,a3⟩:=g.get a2;split at a
    .rename_i z a4;obtain⟨L,a5,a9⟩:=qO (P:=P) (φ:=φ) (t:=e) g a3 a4;split at a
     .rename_i aj;obtain⟨bs,O,B,C⟩:=aj;split at a
      .rename_i l j;simp at a;obtain⟨rfl,rfl⟩:=a;obtain⟨f1,f2,f3⟩:=po B;have X:0<b.size:= A;have am:∀e∈List.replicate n z,e.fits cg.kind.isAgg cg.size=true:=by intro e he;rw [qu he];exact B
       have S:∀e∈l,e.fits cg.kind.isAgg cg.size=true:=by
        have key:∀(parts:List (Nat×J)) (m c:List J),(∀p∈parts,p.2.fits cg.kind.isAgg cg.size=true)->(∀e∈m,e.fits cg.kind.isAgg cg.size=true)->kU m parts=some c-> ∀e∈c,e.fits cg.kind.isAgg cg.size=true:=by
         intro parts;induction parts with
         |nil=>intro m c _ hm hs;simp [kU]at hs;subst hs;exact hm
         |cons p r ih =>
          obtain⟨i,v⟩:=p;intro m c ae hm hs;simp only [kU]at hs;split at hs
          .refine ih (m.set i v) c (λp W=>ae p (by simp [W])) ?_ hs;intro e he;rcases yM he with h|h
           .exact hm e h
           .rw [h];exact ae (i,v) au
          .cases hs
        exact key _ _ _ (λp ae=>ea.1 C p ae) am j
       obtain⟨q,k,o,K⟩:=Ej (φ:=φ) (es:=b.size) (za parts ρ ρ') (zb bn parts)
        (λp ae=>by have:=po (ea.1 C p ae);exact⟨this.2.1,A⟩)
        (by intro e he;rw [qu he];omega)
        (Eh a9 f2 (by omega:z.cells.length=b.size) X n) j
       have G:l.length=n:=by rw [Ei j];simp
       have s:dS aR w.heap.size:=N.le y.size;have bv:(flat l).length=n*b.size:=by rw [jf K,G]
       have E:q.size=n*b.size:=by have:=o.length;rw [fy]at this;omega
       refine⟨.slice (some ⟨w.heap.size,0,none⟩) n n,w.alloc (.cells q e),φ.add nid 0 ⟨w.heap.size,0,0,cg.size,n,true,false⟩,?_,fB.add φ _ (hid 0) _,aA.hF (Nat.le_refl _) (Nat.le_refl _) (Nat.le_refl _) (λ_=>rfl),?_,y.alloc s _,rfl⟩
       .have hle:¬n*b.size>2^24:=by rw [<-f];omega
        simp only [Instr.buildSlice,Sem.run_bind,run_underlying hu,Result.andThen_ok,jh I];rw [ai hle];by_cases H:n*b.size=0
        .have U:n=0:=by rcases Nat.mul_eq_zero.1 H with h|h<;>omega
         subst U;simp only [Nat.zero_mul,dG,Sem.run_bind,Sem.run_pure,Result.andThen_ok]at k⊢;have e0:(Array.range 0).map (λi=>(#[]:Array Value)[i%(#[]:Array Value).size]!)=(Array.range 0).map (λi=>L.cells[i%L.cells.size]!):= au;rw [e0,k];rfl
        .rw [ai H];simp only [Sem.run_bind,sF I a5,Result.andThen_ok,Sem.run_pure,k];rfl
       .refine r.an hid aw s O (by intro e he;rw [K e he,f]) ?_ (by rw [E,f];exact Nat.le_refl _) A ?_ nofun
        .rw [nE (by rw [fy,E,G,f];exact Nat.le_refl _)];exact o
        .intro x a0;exact o.one (Ek S) x (sl a0)
      .cases a
     .cases a
    .cases a
   .cases a
  .cases a
 .cases a
def zc{k:IntKind}{n:Int}(h:0<=n)(ag:n<2^62)(a:k=.i64):k.wrap n=n:=by subst a;have e:(2:Int)^62=4611686018427387904:= aC;exact IntWalk.i64_in _ A
def MO{D:cV}(g:D.cG P){aR:Nat->Prop}{h Z:T}{aV w:World}(r:cv φ aR h w)(o:Safe aR aV w)(F:dS aR aV.heap.size){nid:Nat}(hid:∀v,φ nid v=none)(aw:nid<h.M)
 {t:TypeId} {x y v:J} {bD C:Value} (f:aA φ x bD) (s:aA φ y C) (a:sw D t x y nid h=some (v,Z)) :
 mB P φ aR aV h nid v Z (Instr.makeSlice t bD C) w:=by
 unfold sw at a;split at a
 .rename_i d ce l co c L;simp only [aA]at f s;subst f s;obtain⟨cs,u,bv,hu,N,hs, -, -⟩:=g.get L;split at a
  .rename_i e q;rw [N]at q;have:=jg q;subst this;split at a
   .rename_i cg W;obtain⟨b,ct,k, -, -,m,U,X⟩:=g.get W;split at a
    .rename_i z am;obtain⟨E,a0,a2⟩:=qO (P:=P) (φ:=φ) (t:=e) g X am;split at a
     .rename_i aj;obtain⟨H,a4,I,a5,K,p⟩:=aj;simp at a;obtain⟨rfl,rfl⟩:=a;obtain⟨f1,f2,f3⟩:=po p;have O:0<b.size:= A;have n:dS aR w.heap.size:=F.le o.size;have S:IntKind.i64.wrap l=l:=zc H A rfl;have R:IntKind.i64.wrap c=c:=zc A I rfl;have B:=Eh a2 f2 (by omega:z.cells.length=b.size) O c.toNat;have Q:∀e∈List.replicate c.toNat z,e.fits cg.kind.isAgg cg.size=true:=by intro e he;rw [qu he];exact p
      have G:∀e∈List.replicate c.toNat z,e.cells.length=b.size:=by intro e he;rw [qu he];omega
      refine⟨.slice (some ⟨w.heap.size,0,none⟩) l.toNat c.toNat,w.alloc (.cells ((Array.range (c.toNat*b.size)).map (λi=>E.cells[i%E.cells.size]!)) e),
       φ.add nid 0 ⟨w.heap.size,0,0,cg.size,c.toNat,true,false⟩,?_,fB.add φ _ (hid 0) _,aA.hF A (Nat.le_refl _) (Nat.le_refl _) (λ_=>rfl),?_,o.alloc n _,rfl⟩
      .have a9:¬c<0:= A;have bs:¬l<0:= A;have bn:¬l>c:= A;have a3:¬((b.bytes:Int)*c>2^48):=by rw [<-U];omega
       simp only [Instr.makeSlice,Sem.run_bind,run_underlying hu,Result.andThen_ok,asInt,asIntOf,Sem.run_pure,Ml k,S,R];rw [ai (by simp only [eC,eP];omega)];simp only [Sem.run_bind,Sem.run_pure,run_askRoom,Result.andThen_ok,jh k];by_cases j:c.toNat*b.size=0
       .have e0:c.toNat*b.size=0:=j;rw [az j];have aQ:Array.range 0= #[]:=rfl;simp only [Sem.run_bind,Sem.run_pure,Result.andThen_ok,e0,El,aQ];simp
       .rw [ai j];simp only [Sem.run_bind,sF k a0,Result.andThen_ok,Sem.run_pure,El]
      .refine r.an hid aw n K (by intro e he;rw [G e he,m]) ?_ (by rw [m];simp) au ?_ nofun
       .rw [nE (by simp [m])];exact B
       .intro x f;exact B.one (Ek Q) x (sl f)
     .cases a
    .cases a
   .cases a
  .cases a
 .cases a
def MP{D:cV}(j:D.cG P){t:TypeId}{x v:J}{xs:Array Value}{ts:Array TypeId}(ty:TypeId)(b:bo φ [x] xs.toList)(k:ts[0]? =some t)(h:yW D t x=some v)(w:World) :
 ∃y,(Builtin.len_ ts ty xs).run P w=.ok y w/\aA φ v y:=by
 simp only [bo]at b;obtain⟨bD,l,e,b,B⟩:=b;have m:xs[0]? =some bD:=by rw [<-Array.getElem?_toList,e];rfl
 unfold yW at h;split at h
 .rename_i d a n c g;obtain⟨r,u,q,hu,i, -⟩:=j.get g;split at h
  .rename_i e f;rw [i]at f;have:=jg f;subst this;simp at h;subst h;refine⟨.int .i64 n,?_,by simp only [aA]⟩
   have:∃o p,bD=.slice o n p:=by
    cases a with
    |none=>simp only [aA]at b;obtain⟨rfl,rfl,rfl⟩:=b;exact⟨_,_,rfl⟩
    |some a=>simp only [aA]at b;obtain⟨_,_,rfl,_⟩:=b;exact⟨_,_,rfl⟩
   obtain⟨o,p,rfl⟩:=this;simp [Builtin.len_,k,m,run_underlying hu,goInt]
  .cases h
 .rename_i d s g;obtain⟨r,u,q,hu,i, -⟩:=j.get g;split at h
  .rename_i f;rw [i]at f;have:=nT f;subst this;simp at h;subst h;simp only [aA]at b;obtain⟨z,rfl,rfl⟩:=b;refine⟨.int .i64 z.size,?_,by simp only [aA];rfl⟩;simp [Builtin.len_,k,m,run_underlying hu,goInt]
  .cases h
 .rename_i d g _ _;obtain⟨r,u,q,hu,i, -⟩:=j.get g;split at h
  .rename_i n e f;rw [i]at f;have:=qN f;subst this;simp at h;subst h;refine⟨.int .i64 n,?_,by simp only [aA]⟩;simp [Builtin.len_,k,m,run_underlying hu,goInt]
  .cases h
 .cases h
end
end
noncomputable section
open Go.RowKit
section
variable {P:Program}{φ:Map}
def cv.zd{aR:Nat->Prop}{h:T}{w:World}(r:cv φ aR h w){id ad:Nat}{p:Place}(ae:φ id ad=some p){b:aa}(q:h.get id=some b){idx len:Nat}
 (H:p.aD<=idx) (G:idx+len<=b.b6 ad) (hle:idx+len<=b.bg.length) :
 ∃news,bo φ (flat ((b.bg.drop idx).take len)) news/\w.rangeAt p.bQ (p.off+(idx-p.aD)*p.es) news/\(∀x∈news,x.oneCell'=true)/\(∀e∈(b.bg.drop idx).take len,e.cells.length=p.es)/\news.length=len*p.es:=by
 obtain⟨Y,c,ag,y,z,B,C,D,f⟩:=r.cN _ _ _ ae;rw [q]at ag;simp at ag;subst ag
 have m:∀(i:Nat)(e:J),((b.bg.drop idx).take len)[i]? =some e->i<len/\b.bg[idx+i]? =some e:=by
  intro i e he;rw [ke]at he;split at he
  .rw [lx]at he;exact⟨by assumption,he⟩
  .simp at he
 have a:∀e∈(b.bg.drop idx).take len,e.cells.length=p.es:=by intro e he;obtain⟨i,ah⟩:=List.getElem?_of_mem he;obtain⟨g1,g2⟩:=m i e ah;exact(f.cont (idx+i) e A A g2).1
 obtain⟨news,n,n2,t⟩:=vB (φ:=φ) (w:=w) (b:=p.bQ) (o:=p.off+(idx-p.aD)*p.es) (l:=flat ((b.bg.drop idx).take len)) (λk bD d=>by
  have s:=(e4.1 d).1;obtain⟨i,j,e,rfl,he,F⟩:=vx a k s;obtain⟨g1,g2⟩:=m i e he;have E:e.cells.length=p.es:=a e (gx he);obtain⟨cL,c2,c3⟩:=f.cont (idx+i) e A A g2;have g:e.cells[j]? =some (e.cells[j]' A):=ds _;rw [lF a he g]at d;simp at d;subst d;obtain⟨x,u,v⟩:=c3 j _ g;refine⟨x,?_,v⟩;have aZ:(idx+i-p.aD)*p.es=(idx-p.aD)*p.es+i*p.es:=by rw [<-jy];congr 1;omega
  rw [show p.off+(idx-p.aD)*p.es+(i*p.es+j)=p.off+(idx+i-p.aD)*p.es+j by omega]
  exact u)
 exact⟨news,n,n2,t,a,by rw [n.length,jf a];congr 1;simp;omega⟩
def vC{aR:Nat->Prop}{h:T}{w:World}(r:cv φ aR h w){es:Nat}{x:J}{bD:Value}(d:aA φ x bD){l:List J}(he:ed es x h=some l)(a0:0<es){tx:TypeId}
 (i:(∃e',P.underlying tx=some (.slice e'))\/P.underlying tx=some .string) :
 ∃news,Src P es tx bD l.length news w/\bo φ (flat l) news/\(∀e∈l,e.cells.length=es):=by
 unfold ed at he;split at he
 .rename_i c;simp at he;subst he;simp only [aA]at d;obtain⟨rfl,_,_⟩:=d;refine⟨[],⟨i,λ_=>rfl,run_firstCells_none w es 0 0 0,run_firstCells_none w.drew es 0 0 0,au,au⟩,by simp [flat,bo],au⟩
 .rename_i a len cap;simp only [aA]at d;obtain⟨C,cap',rfl,a9,l2,G⟩:=d
  have t:len=0->l=[]-> ∃news,Src P es tx (.slice (some C) len cap') l.length news w/\bo φ (flat l) news/\(∀e∈l,e.cells.length=es):=by rintro rfl rfl;exact⟨[],⟨i,λ_=>rfl,run_firstCells_some w es 0 C 0 cap' [] au au,run_firstCells_some w.drew es 0 C 0 cap' [] au au,au,au⟩,by simp [flat,bo],au⟩
  split at he
  .rename_i y;obtain⟨p,ae,E,O,hex⟩:=G.plain y;split at he
   .rename_i am;split at he
    .rename_i b q;split at he
     .rename_i aM;simp at he;subst he;exact t aM rfl
     .rename_i aM;split at he
      .rename_i F;simp at he;subst he;rcases O with a5|⟨m,rfl,a3⟩
       .omega
       .obtain⟨_,c,ag,_⟩:=r.cN _ _ _ ae;have hle:a.idx+len<=b.bg.length:=F.2;obtain⟨news,Q,n2,R,S,B⟩:=r.zd ae q m F.1 hle;have hlen:((b.bg.drop a.idx).take len).length=len:=by simp;omega
        have n:p.es=es:= A;refine⟨news,?_,Q,by rw [<-n];exact S⟩;rw [hlen]
        have aj:∀j v,news[j]? =some v->w.cell? ((p.at a.idx 0).add j)=some v:=by intro j v z;rw [Place.nV,gw];exact n2 j v z
        exact⟨i,λ_=>rfl,run_firstCells_some w es len _ len cap' news (by rw [B,n]) aj,run_firstCells_some w.drew es len _ len cap' news (by rw [B,n]) (by simpa using aj),by rw [B,n],R⟩
      .cases he
    .split at he
     .rename_i aM;simp at he;subst he;exact t aM rfl
     .cases he
   .cases he
  .rename_i y;split at he
   .rename_i aM;simp at he;subst he;exact t aM rfl
   .rename_i aM;split at he
    .rename_i Y;subst Y;split at he
     .rename_i b q;split at he
      .rename_i cs k;split at he
       .rename_i aj;simp only [a8]at he;subst he;rcases G with ⟨H,_⟩|⟨f,a2,p,ae,E,m,rfl⟩
        .exact absurd H y
        .simp only at ae E m;obtain⟨g1,X,g2,g3,g4,g5,g6,g7,g8⟩:=r.cN _ _ _ ae;rw [q]at g2;simp at g2;subst g2;have I:a.fld-1=f:= A;rw [I]at aj⊢;unfold aa.elem? at k;split at k
         .rename_i L;obtain⟨cw,cy,et⟩:=g8.cont a.idx _ m L k;have N:((cs.drop f).take len).length=len:=by simp;omega
          obtain⟨vs,v1,v2,v3⟩:=vB (φ:=φ) (w:=w) (b:=p.bQ) (o:=p.off+(a.idx-p.aD)*p.es+f) (l:=(cs.drop f).take len) (λj bD d=>by
           rw [ke]at d;split at d
           .rw [lx]at d;obtain⟨x,U,W⟩:=et (f+j) bD d;refine⟨x,?_,W⟩;rw [<-U];unfold Place.at;congr 2;omega
           .cases d)
          have a4:vs.length=len:=by have:=v1.length;omega
          have K:flat ((cs.drop f).take len)=(cs.drop f).take len:=by
           have hs:=aj.2;generalize (cs.drop f).take len=l at hs;induction l with
           |nil=>rfl
           |cons x r ih =>
            simp only [iE,cC]at hs;have ih:=ih hs.2;simp only [flat,kP]at ih⊢;rw [y9 hs.1,ih];rfl
          refine⟨vs,?_,by rw [K];exact v1,λe he=>by rw [y9 (ea.1 aj.2 e he)];rfl⟩;rw [N]
          have D:∀j v,vs[j]? =some v->w.cell? ((p.at a.idx f).add j)=some v:=by intro j v z;rw [Place.nV];have:=v2 j v z;rw [<-this];unfold Place.at;congr 2;omega
          exact⟨i,λ_=>rfl,run_firstCells_some w 1 len _ len cap' vs A D,run_firstCells_some w.drew 1 len _ len cap' vs A (by simpa using D),A,v3⟩
         .cases k
       .cases he
      .cases he
     .cases he
    .cases he
 .rename_i s;split at he
  .rename_i Y;subst Y;simp at he;subst he;simp only [aA]at d;obtain⟨g,rfl,rfl⟩:=d;have hlen:(g.data.toList.map λb=>J.int .u8 b.toNat).length=g.size:=by rw [iF,fy];rfl
   refine⟨byteCells g,?_,?_,?_⟩
   .rw [hlen]
    exact⟨i,λ_=>rfl,firstCells_string g w,firstCells_string g w.drew,by rw [byteCells_length,o3],λu hu=>by
     obtain⟨_,_,rfl⟩:=dV.1 hu
     rfl⟩
   .have:flat (g.data.toList.map λb=>J.int .u8 b.toNat)=g.data.toList.map λb=>J.int .u8 b.toNat:=by
     generalize g.data.toList=l;induction l with
     |nil=>rfl
     |cons a r ih=>simp only [ei,flat,kP,J.cells]at ih⊢; rw [ih];rfl
    rw [this];exact bo.map _ _ _ λb _=>by simp only [aA]
   .intro e he;obtain⟨b,_,rfl⟩:=dV.1 he;rfl
  .cases he
 .cases he
def Em(n:Nat):∀(r c:Nat),c<=n+n/4+512->Builtin.growBy n r c<=n+n/4+512
 |0,c,h=>h
 |r+1,c,h=>by
  simp only [Builtin.growBy];split
  .exact h
  .exact Em n r _ A
def nextslicecap_le{a cap:Nat}(h:cap<a):Builtin.nextslicecap a cap<=a+a/4+512:=by
 unfold Builtin.nextslicecap;split
 .omega
 .split
  .omega
  .exact Em _ _ _ A
def MQ(zs:Array Value)(n:Nat):(Builtin.zeroCells zs n).size=n*zs.size:=by simp [Builtin.zeroCells]
def Alike.sJ(w:World):Alike w w.drew:=Alike.drew w _
def ze{vs:List Value}{zs:Array Value}{n c es:Nat}(a:vs.length=n*es)(b:zs.size=es)(aw:n<=c) :
 (vs.toArray++Builtin.zeroCells zs (c-n)).size=c*es/\(vs.toArray++Builtin.zeroCells zs (c-n)).toList.take (n*es)=vs:=by
 constructor
 .simp only [Array.size_append,List.size_toArray,MQ,a,b];rw [<-jy];congr 1;omega
 .simp only [mr];rw [List.take_left' (by simpa using a)]
def En(l m:List J):flat (l++m)=flat l++flat m:=by simp [flat]
def MR{D:cV}(cs:D.cG P){aR:Nat->Prop}{h Z:T}{aV w:World}(r:cv φ aR h w)(R:Safe aR aV w)(f0:dS aR aV.heap.size){nid:Nat}(hid:∀v,φ nid v=none)(aw:nid<h.M)
 {t tx:TypeId} (ty:TypeId) {s x v:J} {fn bD:Value} (hs:aA φ s fn) (gs:aA φ x bD)
 (f9:(∃e',P.underlying tx=some (.slice e'))\/P.underlying tx=some .string) (f:fA D t s x nid h=some (v,Z)) :
 mB P φ aR aV h nid v Z (Builtin.append_ #[t,tx] ty #[fn,bD]) w:=by
 unfold fA at f;split at f
 .rename_i d base len cap f7;obtain⟨i7,u,i6,hu,gc,_, -, -⟩:=cs.get f7;split at f
  .rename_i e em;rw [gc]at em;have:=jg em;subst this;split at f
   .rename_i cg g0;obtain⟨g,i8,a3, -, -,B,gt,g9⟩:=cs.get g0;split at f
    .rename_i new ge;simp only at f;split at f
     .rename_i aj;obtain⟨U,f6,i0,a9⟩:=aj;obtain⟨news,src,N,W⟩:=vC (P:=P) (tx:=tx) r gs ge U f9;rw [B]at src;have Q:dS aR w.heap.size:=f0.le R.size
      have ip:∃C,g.zero=some C/\C.cells.size=g.size:=by
       unfold nM.pg at a9;cases d5:cg.zero with
       |none=>simp [d5]at a9
       |some z =>
        rw [d5]at a9;obtain⟨C,d3,hw⟩:=qO (P:=P) (φ:=φ) (t:=e) cs g9 d5;obtain⟨f1,f2,f3⟩:=po a9;have:=(hw.cells f2).length;rw [fy]at this;exact⟨C,d3,A⟩
      obtain⟨C,d3,d4⟩:=ip;have it:(2:Nat)^62=4611686018427387904:= aC;have is:(2:Nat)^48=281474976710656:= aC
      have grow:∀(a5:Option Addr)(cap':Nat)(olds:List Value),(Builtin.firstCells g.size len (.slice a5 len cap')).run P w.drew=.ok olds.toArray w.drew->cap'<len+new.length ->
       (Builtin.append_ #[t,tx] ty #[.slice a5 len cap',bD]).run P w =
        .ok (.slice (some ⟨w.heap.size,0,none⟩) (len+new.length) (grownCap w (len+new.length) cap' e))
         (w.drew.alloc (.cells ((olds++news).toArray++Builtin.zeroCells C.cells (grownCap w (len+new.length) cap' e- (len+new.length))) e)):=by
       intro a5 cap' olds ay eq;refine run_append_grow_src w t tx ty e g C hu a3 d3 a5 len cap' olds ay bD new.length news src eq A ?_;have Y:=nextslicecap_le eq;have ag:=o7 g.bytes Y;rw [gt]at f6;omega
      have ct:Safe aR aV w.drew:=R.drew;split at f
      ·
        simp only [aA]at hs;obtain⟨rfl,rfl,rfl⟩:=hs;split at f
        .rename_i aM;simp only [a8,bC]at f;obtain⟨rfl,rfl⟩:=f;have e0:new=[]:=u'.1 A;subst e0;have d2:news=[]:=by have:=N.length;simp [flat]at this;exact this
         subst d2;refine⟨.slice none 0 0,w,φ,?_,fB.refl _ _ _,by simp [aA],r,R,rfl⟩;exact run_append_nothing w t tx ty e g hu a3 none 0 0 (Nat.le_refl _) bD src
        .rename_i aM;split at f
         .simp only [a8,bC]at f;obtain⟨rfl,rfl⟩:=f;have ab:=grow none 0 [] (run_firstCells_none _ _ _ _ _) A;have o:=grownCap_ge w (0+new.length) 0 e;have a2:news.length=new.length*g.size:=by rw [src.newsLen]
          obtain⟨g1,g2⟩:=ze (vs:=news) (zs:=C.cells) (n:=0+new.length) (c:=grownCap w (0+new.length) 0 e) (es:=g.size) (by rw [a2,gw]) d4 o
          refine⟨_,_,φ.add nid 0 ⟨w.heap.size,0,0,cg.size,grownCap w (0+new.length) 0 e,false,false⟩,ab,fB.add φ _ (hid 0) _,
           aA.hF (ex:=false) (Nat.le_refl _) o (Nat.le_refl _) au,?_,ct.alloc (by simpa using Q) _,rfl⟩
          refine(r.alike (Alike.sJ w)).an hid aw (by simpa using Q) U W ?_ ?_ A ?_ (λq h=>by cases h;exact⟨rfl,λh=>absurd rfl h⟩)
          .simp only [eQ];rw [show new.length*cg.size=(0+new.length)*g.size by rw [B,gw],g2];exact N
          .simp only [eQ];rw [g1,B];exact Nat.le_refl _
          .simp only [eQ];rw [show new.length*cg.size=(0+new.length)*g.size by rw [B,gw],g2];exact src.one
         .cases f
      .rename_i a;split at f
       .rename_i f5;obtain⟨f4,F⟩:=f5;split at f
        .rename_i b H;simp only [aA]at hs;obtain⟨E,cap',rfl,d6,l2,go⟩:=hs;obtain⟨p,ae,S,a0,hex⟩:=go.plain F;obtain⟨g1,d7,g2,g3,g4,g5,g6,g7,g8⟩:=r.cN _ _ _ ae;rw [H]at g2;simp at g2;subst g2;have bv:p.es=g.size:= A;split at f
         .rename_i el;split at f
          .rename_i aM;subst aM;simp only [a8,bC]at f;obtain⟨rfl,rfl⟩:=f;have d2:news=[]:=by have:=N.length;simp [flat]at this;exact this
           subst d2;refine⟨.slice (some E) len cap',w,φ,?_,fB.refl _ _ _,?_,r,R,rfl⟩
           .exact run_append_nothing w t tx ty e g hu a3 (some E) len cap' A bD src
           .simp only [aA,cq,qq];exact⟨E,cap',rfl,d6,l2,.inl ⟨F,p,ae,S,a0,hex⟩⟩
          .rename_i bs;split at f
           .rename_i c0;obtain⟨L,G,i4⟩:=c0;simp only [a8,bC]at f;obtain⟨rfl,rfl⟩:=f;have i5:0<new.length:=gk.2 bs;rcases a0 with hm|⟨c3,rfl,d1⟩
            .omega
            .rw [G]at ae;obtain⟨a4,O⟩:=r.Mi ae H L (idx:=a.idx+len) (l:=new) A A bs (by rw [bv,<-B];exact W) N src.one
             have c5:p.off+(a.idx+len-p.aD)*p.es=p.off+(a.idx-p.aD)*p.es+0+len*g.size:=by have:a.idx+len-p.aD=(a.idx-p.aD)+len:= A;rw [this,jy,<-bv];omega
             rw [c5]at a4 O;have dg:=run_append_room_src (P:=P) w t tx ty e g hu a3 p.bQ (p.off+(a.idx-p.aD)*p.es+0) len cap' bD new.length news src A (λj I=>(O j I).1) (λj I=>(O j I).2);refine⟨_,_,φ,dg,fB.refl _ _ _,?_,a4,?_,rfl⟩
             .simp only [aA];exact⟨_,cap',rfl,el,l2,.inl ⟨F,p,by rw [G];exact ae,S,.inr ⟨c3,rfl,d1⟩,hex⟩⟩
             .exact sD _ (g8.base (g6 L)) _ _ R
           .cases f
         .rename_i el;split at f
          .rename_i c2;split at f
           .rename_i old ay;simp only [a8,bC]at f;obtain⟨rfl,rfl⟩:=f;have i1:cap'=cap:=hex (by rw [g5,c2])
            have d0:aA φ (.slice (some a) len cap) (.slice (some E) len cap'):=by simp only [aA];exact⟨E,cap',rfl,d6,l2,.inl ⟨F,p,ae,S,a0,hex⟩⟩
            obtain⟨olds,m,co,bn⟩:=vC (P:=P) (tx:=t) r d0 ay U (.inl ⟨e,hu⟩)
            have K:old.length=len:=by have aQ:=m.len w;simp [Builtin.lenOf]at aQ;exact aQ.symm
            rw [K,B]at m;have ab:=grow (some E) cap' olds m.cellsD A;have o:=grownCap_ge w (len+new.length) cap' e;have a2:(olds++news).length=(len+new.length)*g.size:=by rw [dt,src.newsLen,m.newsLen,jy]
            obtain⟨cw,cy⟩:=ze (vs:=olds++news) (zs:=C.cells) (n:=len+new.length) (c:=grownCap w (len+new.length) cap' e) (es:=g.size) a2 d4 o;have X:(old++new).length*cg.size=(len+new.length)*g.size:=by rw [dt,K,B]
            refine⟨_,_,φ.add nid 0 ⟨w.heap.size,0,0,cg.size,grownCap w (len+new.length) cap' e,false,false⟩,ab,fB.add φ _ (hid 0) _,
             aA.hF (ex:=false) (Nat.le_refl _) o (Nat.le_refl _) au,?_,ct.alloc (by simpa using Q) _,rfl⟩
            refine(r.alike (Alike.sJ w)).an hid aw (by simpa using Q) U (λe he=> ?_) ?_ ?_ (by rw [dt,K];exact o) ?_ (λq h=>by cases h;exact⟨rfl,λh=>absurd rfl h⟩)
            .rcases hi.1 he with he|he
             .exact bn e he
             .exact W e he
            .rw [X,cy,En];exact co.append N
            .rw [cw,B];exact Nat.le_refl _
            .rw [X,cy];intro y k;rcases hi.1 k with k|k
             .exact m.one y k
             .exact src.one y k
           .cases f
          .rename_i c2;split at f
           .rename_i c0;obtain⟨L,G,i3,i2,ce⟩:=c0;simp only [a8,bC]at f;obtain⟨rfl,rfl⟩:=f;have d9:b.exact=false:=by simpa using c2
            rw [G]at ae;by_cases fd:len+new.length<=cap'
            ·
              rcases a0 with hm|⟨c3,rfl,d1⟩
              .exfalso;have e0:new.length=0:= A;omega
              .obtain⟨a4,O⟩:=r.Mk ae H L (new:=new) A A (by rw [bv,<-B];exact W) N src.one
               have c5:p.off+(b.bg.length-p.aD)*p.es=p.off+(a.idx-p.aD)*p.es+0+len*g.size:=by have:b.bg.length-p.aD=(a.idx-p.aD)+len:= A;rw [this,jy,<-bv];omega
               rw [c5]at a4 O;have dg:=run_append_room_src (P:=P) w t tx ty e g hu a3 p.bQ (p.off+(a.idx-p.aD)*p.es+0) len cap' bD new.length news src fd (λj I=>(O j I).1) (λj I=>(O j I).2)
               have c4:φ a.id (b.ad+1)=none:=by
                cases c9:φ a.id (b.ad+1)with
                |none=>rfl
                |some q=>obtain⟨_,d7,ag,fs,_⟩:=r.cN _ _ _ c9;rw [H]at ag;simp at ag;subst ag;omega
               refine⟨_,_,φ.add a.id (b.ad+1) p,dg,⟨φ.nS p c4,λi ah bs am u=> ?_,φ.y2 p (g6 L)⟩,?_,a4,?_,rfl⟩
               .have:i≠a.id:=by rintro rfl;rw [am]at ae;cases ae
                simp [Map.add,this,am u]
               .simp only [aA];refine⟨_,cap',rfl,Nat.le_refl _,fd,.inl ⟨F,p,by rw [G];exact Map.vv _ _ _ _,S,.inr ⟨c3,rfl,d1⟩,λh=> ?_⟩⟩;rw [g5,d9]at h;cases h
               .exact sD _ (g8.base (g6 L)) _ _ R
            ·
              have d0:aA φ (.slice (some a) len cap) (.slice (some E) len cap'):=by simp only [aA];exact⟨E,cap',rfl,d6,l2,.inl ⟨F,p,by rw [G];exact ae,S,a0,hex⟩⟩
              have ay:ed cg.size (.slice (some a) len cap) h=some ((b.bg.drop a.idx).take len):=by
               simp only [ed,F,f4,dG,H];split
               .rename_i aM;simp [aM]
               .rw [az];rw [G];simp [aa.b6];omega
              obtain⟨olds,m,co,bn⟩:=vC (P:=P) (tx:=t) r d0 ay U (.inl ⟨e,hu⟩);have f8:(b.bg.drop a.idx).take len=b.bg.drop a.idx:=nE (by simp;omega);rw [f8]at co bn m;have K:(b.bg.drop a.idx).length=len:=by simp;omega
              rw [K,B]at m;have ab:=grow (some E) cap' olds m.cellsD A;have o:=grownCap_ge w (len+new.length) cap' e;have a2:(olds++news).length=(len+new.length)*g.size:=by rw [dt,src.newsLen,m.newsLen,jy]
              obtain⟨cw,cy⟩:=ze (vs:=olds++news) (zs:=C.cells) (n:=len+new.length) (c:=grownCap w (len+new.length) cap' e) (es:=g.size) a2 d4 o;have d8:b.es=g.size:= A;have X:(b.bg.drop a.idx++new).length*b.es=(len+new.length)*g.size:=by rw [dt,K,d8]
              have c4:φ a.id (b.ad+1)=none:=by
               cases c9:φ a.id (b.ad+1)with
               |none=>rfl
               |some q=>obtain⟨_,d7,ag,fs,_⟩:=r.cN _ _ _ c9;rw [H]at ag;simp at ag;subst ag;omega
              refine⟨_,_,φ.add a.id (b.ad+1) ⟨w.heap.size,0,a.idx,b.es,grownCap w (len+new.length) cap' e,false,false⟩,ab,⟨φ.nS _ c4,λi ah bs am u=> ?_,φ.y2 _ rfl⟩,?_,?_,ct.alloc (by simpa using Q) _,rfl⟩
              .have:i≠a.id:=by rintro rfl;rw [am]at ae;cases ae
               simp [Map.add,this,am u]
              .simp only [aA];refine⟨_,_,rfl,Nat.le_refl _,o,.inl ⟨F,_,by rw [G];exact Map.vv _ _ _ _,by rw [<-g4,S],.inr ⟨Nat.le_refl _,by simp [Place.at],au⟩,au⟩⟩
              .refine(r.alike (Alike.sJ w)).Mj ae H L d9 (by simpa using Q) A (λe he=>by rw [bn e he];omega) (λe he=>by rw [W e he];omega) ?_ (by rw [cw,d8];exact Nat.le_refl _) (by rw [dt,K];exact o) ?_ (λq h=>by rcases ce with ce|ce<;>rw [ce]at h<;>cases h;exact⟨rfl,λh=>absurd rfl h⟩)
               .rw [X,cy,En];exact co.append N
               .rw [X,cy];intro y k;rcases hi.1 k with k|k
                .exact m.one y k
                .exact src.one y k
           .cases f
        .cases f
       .cases f
     .cases f
    .cases f
   .cases f
  .cases f
 .cases f
end
end
noncomputable section
open Go.RowKit
section
variable {P:Program}{φ:Map}
def Eo:∀{l:List J}{s:List UInt8}{news:List Value},bytesOf l=some s->bo φ (flat l) news-> ∃bq:List Int,news=bq.map (Value.int .u8)/\s=bq.map (λn=>UInt8.ofNat n.toNat)
 |[],s,news,h,k=>by simp only [bytesOf,a8]at h;subst h;simp only [flat,List.flatMap_nil,bo]at k;subst k;exact⟨[],rfl,rfl⟩
 |a ::r,s,news,h,k=>by
  unfold bytesOf at h;split at h
  .rename_i aM;cases aM
  .rename_i n f e;simp only [fJ]at e;obtain⟨rfl,rfl⟩:=e;cases b:bytesOf r with
   |none=>rw [b]at h;cases h
   |some q =>
    rw [b]at h;simp only [eE,a8]at h;subst h;simp only [flat,kP,J.cells,hB,eQ,bo]at k;obtain⟨v,t,rfl,c,d⟩:=k;simp only [aA]at c;subst c;obtain⟨bq,aQ,aZ⟩:=Eo b d;exact⟨n::bq,by rw [aQ];rfl,by rw [aZ];rfl⟩
  .cases h
def Ep:∀{l:List J}{s:List UInt8}{news:List Value},bytesOf l=some s->ph l=true->bo φ (flat l) news->news=s.map λx=>Value.int .u8 x.toNat
 |[],s,news,h,b,k=>by simp only [bytesOf,a8]at h;subst h;simp only [flat,List.flatMap_nil,bo]at k;subst k;rfl
 |a ::r,s,news,h,b,k=>by
  unfold bytesOf at h;split at h
  .rename_i aM;cases aM
  .rename_i n g e;simp only [fJ]at e;obtain⟨rfl,rfl⟩:=e;cases c:bytesOf r with
   |none=>rw [c]at h;cases h
   |some q =>
    rw [c]at h;simp only [eE,a8]at h;subst h;simp only [ph,cC,eP]at b;simp only [flat,kP,J.cells,hB,eQ,bo]at k;obtain⟨v,t,rfl,d,f⟩:=k;simp only [aA]at d;subst d;rw [Ep c b.2 f,ei]
    have:((UInt8.ofNat n.toNat).toNat:Int)=n:=by rw [qv,so A];omega
    rw [this]
  .cases h
variable {k m n:Nat}
def vD(w:World)(a:Addr)(aw:n≠0)(k:Nat):(w.freeze a n).heap[k]? =if a.block=k then(w.heap[k]?).map λo=>match o with
 |.cells c elem (aD,ah)=> .cells c elem (if aD == ah then(a.off,a.off+n)else(min aD a.off,max ah (a.off+n)))
 |o=>o else w.heap[k]? :=by
 unfold World.freeze;rw [ai aw];simp only [Array.getElem?_modify];rfl
def vE(w:World)(a x:Addr)(aw:n≠0):(w.freeze a n).cell? x=w.cell? x:=by
 unfold World.cell?;rw [vD w a aw];by_cases h:a.block=x.block
 .rw [az h];cases b:w.heap[x.block]? with
  |none=>rfl
  |some o =>
   cases o;case cells c t f=>obtain⟨aD,ah⟩:=f;rfl
   all_goals rfl
 .rw [ai h]
def MS{w:World}{a:Addr}(hm:m≠0){t:TypeId}{aD ah:Nat}(h:ej w k=some (t,n,aD,ah)):∃aD ah,ej (w.freeze a m) k=some (t,n,aD,ah):=by
 unfold ej at h⊢;rw [vD w a hm];by_cases e:a.block=k
 .rw [az e];cases b:w.heap[k]? with
  |none=>rw [b]at h;cases h
  |some o =>
   rw [b]at h;cases o
   case cells c j f =>
    obtain⟨i,d⟩:=f;simp only [a8,bC]at h;obtain⟨rfl,rfl,rfl,rfl⟩:=h;simp only [eE];by_cases g:i=d
    .exact⟨a.off,a.off+m,by simp [g]⟩
    .exact⟨min i a.off,max d (a.off+m),by simp [g]⟩
   all_goals cases h
 .rw [ai e];exact⟨aD,ah,h⟩
def zf(w:World)(a:Addr)(n:Nat):(w.freeze a n).heap.size=w.heap.size:=by unfold World.freeze;split<;>simp
def cv.MT{aR:Nat->Prop}{h:T}{w:World}(r:cv φ aR h w){id v:Nat}{p:Place}{b:aa}(ae:φ id v=some p)(E:h.get id=some b)(K:b.ro=false){a:Addr}(H:a.block=p.bQ)(aw:n≠0) :
 cv φ aR (h.set id {b with ro:=true}) (w.freeze a n) where
 cN i u q F:=by
  obtain⟨Y,c,ag,z,B,C,G,D,d⟩:=r.cN i u q F;by_cases e:id=i
  .subst e;rw [E]at ag;simp at ag;subst ag;refine⟨Y,_,T.eD _ _ _,z,B,C,nofun,D,⟨by rw [zf];exact d.bQ,d.base,λo f=>by rw [vE w a _ aw];exact d.cells o f,nofun,nofun,λt9 g=> ?_,λi e g1 g2 g3=> ?_⟩⟩
   .obtain⟨R,U,i9,P,L,N⟩:=d.hr t9 g;obtain⟨Q,i8,O⟩:=MS (a:=a) aw P;exact⟨R,Q,i8,O,L,N⟩
   .obtain⟨cw,cy,et⟩:=d.cont i e g1 g2 g3
    exact⟨cw,cy,λj bD s=>by
     obtain⟨x,t,y⟩:=et j bD s
     exact⟨x,by rw [vE w a _ aw];exact t,y⟩⟩
  .obtain⟨_,S,g2,_,_,_,g6,_,_⟩:=r.cN id v p ae;rw [E]at g2;simp at g2;subst g2
   have I:p.bQ≠q.bQ:=λk=>by have:=(r.apart id v p i u q ae F k e).1;rw [g6 K]at this;cases this
   have l:(w.freeze a n).heap[q.bQ]? =w.heap[q.bQ]? :=by rw [vD w a aw,ai (by rw [H];exact I)]
   refine⟨Y,c,by rw [T.dN _ _ e];exact ag,z,B,C,G,D,⟨by rw [zf];exact d.bQ,d.base,λo f=>by rw [vE w a _ aw];exact d.cells o f,λm o f=> ?_,λm=>(d.mark m).of_eq (pk l),λt9 g=>by rw [pk l];exact d.hr t9 g,λi e g1 g2 g3=> ?_⟩⟩
   .have:=d.free m o f;unfold World.frozen? at this⊢;rw [l];exact this
   .obtain⟨cw,cy,et⟩:=d.cont i e g1 g2 g3
    exact⟨cw,cy,λj bD s=>by
     obtain⟨x,t,y⟩:=et j bD s
     exact⟨x,by rw [vE w a _ aw];exact t,y⟩⟩
 apart:=r.apart
 same:=r.same
def Safe.MU{S:Nat->Prop}{a w:World}(h:Safe S a w){p:Addr}(ae:¬S p.block)(aw:n≠0):Safe S a (w.freeze p n) :=
 h.trans ⟨by unfold World.freeze;rw [ai aw],by unfold World.freeze;rw [ai aw],by unfold World.freeze;rw [ai aw],by rw [zf];exact Nat.le_refl _,λk b=>by
  have c:¬p.block=k:=λe=>ae (by rw [e];exact b)
  rw [vD w p aw,ai c]⟩
def MV{w:World}{t:TypeId}{aD ah:Nat}(h:ej w k=some (t,n,aD,ah)):w.shape? k=some (t,n):=by
 unfold ej at h;unfold World.shape?;cases a:w.heap[k]? with
 |none=>rw [a]at h;cases h
 |some o =>
  rw [a]at h;cases o
  case cells c e f =>
   obtain⟨d,b⟩:=f;simp only [a8,bC]at h;obtain⟨rfl,rfl,rfl,rfl⟩:=h;rfl
  all_goals cases h
def MW{w:World}{t:TypeId}{aD ah o:Nat}(h:ej w k=some (t,n,aD,ah))(aj:(w.cell? ⟨k,o,none⟩).isSome=true):o<n:=by
 unfold ej at h;unfold World.cell? at aj;cases a:w.heap[k]? with
 |none=>rw [a]at h;cases h
 |some b =>
  simp only at aj;rw [a]at h aj;cases b
  case cells c g f =>
   obtain⟨e,d⟩:=f;simp only [a8,bC]at h;obtain⟨rfl,rfl,rfl,rfl⟩:=h;simp only [nG,ey,ez]at aj;rcases gK o c.size with h|h
   .exact h
   .rw [o' h]at aj;cases aj
  all_goals cases h
def MX{ts:Array TypeId}{ty:TypeId}{x v:J}{bD:Value}(b:aA φ x bD)(h:yY x=some v)(w:World) :
 ∃d,(Builtin.unsafeSliceData_ ts ty #[bD]).run P w=.ok d w/\aA φ v d:=by
 unfold yY at h;split at h
 .simp only [a8]at h;subst h;simp only [aA]at b;obtain⟨rfl,_,_⟩:=b;exact⟨.pointer none,rfl,by simp only [aA]⟩
 .rename_i a n c;split at h
  .rename_i aj;simp only [a8]at h;subst h;simp only [aA]at b;obtain⟨q,cap',rfl,o,l2,k⟩:=b;obtain⟨p,ae,g,j,hex⟩:=k.plain aj.1;rcases j with m|⟨i,rfl,l⟩
   .omega
   .have e:cap'≠0:= A;refine⟨.pointer (some (p.at a.idx 0)),?_,?_⟩
    .have f:Builtin.unsafeSliceData_ ts ty #[.slice (some (p.at a.idx 0)) n cap'] =
      (do
       if cap'≠0 then pure (.pointer (some (p.at a.idx 0)))
       else if(<-viewAt (p.at a.idx 0).block).isSome then pure (.pointer (some (p.at a.idx 0)))
       else pure (.pointer (some ⟨<-newObj (.view (p.at a.idx 0) (<-elemOf ty)),0,none⟩))):=rfl
     rw [f,az e];rfl
    .simp only [aA];exact⟨_,rfl,p,ae,g,i,by rw [aj.1]⟩
  .cases h
 .cases h
def MY{D:cV}(u:D.cG P){aR:Nat->Prop}{h Z:T}{aV w:World}(r:cv φ aR h w)(y:Safe aR aV w){ts:Array TypeId}{t ty:TypeId}(bs:ts[0]? =some t){p:Option bB}{n:Int}{bD:Value}(f:aA φ (.ptr p) bD){v:J}
 (c:yX D t p n h=some (v,Z)) :
 ∃O a7,(Builtin.unsafeString_ ts ty #[bD,.int .i64 n]).run P w=.ok O a7/\aA φ v O/\cv φ aR Z a7/\Safe aR aV a7/\Z.M=h.M:=by
 have C:∀(ts:Array TypeId) q,Builtin.unsafeString_ ts ty #[.pointer q,.int .i64 n]=(do
  let n <-asInt (.int .i64 n)
  let some ce:=ts[0]? | stuck "unsafe.String: no argument types"
  if n<0 then runtimePanic (.error "unsafe.String: len out of range")
  if n>IntKind.i64.max then unsupported (.unsafePointer "String: a length above the largest int")
  match q with
  |none =>
   if n=0 then pure (.string .empty)
   else runtimePanic (.error "unsafe.String: ptr is nil and len is not zero")
  |some a =>
   if n=0 then pure (.string .empty)
   else if <-variablesAt a (<-elemOf ce) n.toNat then do
    let s <-loadBytes a .empty n.toNat
    freeze a n.toNat
    pure (.string s)
   else unsupported (.unsafePointer "String: not so many bytes at ptr")):=λ_ _=>rfl
 have I:∀q,(Builtin.unsafeString_ ts ty #[.pointer q,.int .i64 n]).run P w=(Builtin.unsafeString_ #[t,t] ty #[.pointer q,.int .i64 n]).run P w:=λq=>by
  have e:ts[0]? =(#[t,t]:Array TypeId)[0]? :=by rw [bs];rfl
  rw [C,C,e]
 unfold yX at c;split at c
 .rename_i aM;subst aM;simp only [a8,bC]at c;obtain⟨rfl,rfl⟩:=c
  obtain⟨q,rfl⟩:∃q,bD=.pointer q:=by
   cases p with
   |none=>simp only [aA]at f;exact⟨_,f⟩
   |some a=>simp only [aA]at f;obtain⟨x,rfl,_⟩:=f;exact⟨_,rfl⟩
  refine⟨_,w,by rw [I];exact Go.Lib.run_unsafeString_none w _ _ _ q,?_,r,y,rfl⟩;simp only [aA];exact⟨_,rfl,rfl⟩
 .rename_i aM;split at c
  .rename_i d a W;obtain⟨c0,dg,d3,am,X, -⟩:=u.get W;split at c
   .rename_i e b E g;rw [X]at E;have:=vy E;subst this;split at c
    .rename_i d0 a0;obtain⟨d1,d2,a2,d6,d4,d5, -⟩:=u.get a0;split at c
     .rename_i aj;obtain⟨cL,c2,c3,c4,c5,l,R,ct,c9,cs,Q⟩:=aj;cases i:bytesOf (b.bg.take n.toNat)with
      |none=>rw [i]at c;cases c
      |some s =>
       rw [i]at c;simp only [eE,a8,bC]at c;obtain⟨rfl,rfl⟩:=c;simp only [aA]at f;obtain⟨x,rfl,pl,ae,d8,d7,rfl⟩:=f;obtain⟨g1,co,g2,g3,g4,g5,g6,g7,g8⟩:=r.cN _ _ _ ae;rw [g]at g2;simp at g2;subst g2;obtain⟨m,aD,ah,K,d9,L⟩:=g8.hr _ R;obtain⟨news,N,n2,el,em,bv⟩:=r.zd ae g (idx:=0) (len:=n.toNat) A A A;rw [lz]at N;have F:=Ep i Q N;have a9:pl.es=1:= A
       have H:s.length=n.toNat:=by have:=bv;rw [F,iF,a9,o3]at this;exact this
       have S:pl.at a.idx a.fld=⟨pl.bQ,0,none⟩:=by simp [Place.at,c3,c4,L]
       have B:∀j x,s[j]? =some x->w.cell? ((⟨pl.bQ,0,none⟩:Addr).add j)=some (.int .u8 x.toNat):=by intro j x a3;have aw:=n2 j (.int .u8 x.toNat) (by rw [F,hD,a3];rfl);rw [Addr.add_mid,gw];simpa [L]using aw
       have k:s≠[]:=by rintro rfl;simp at H;omega
       have hle:s.length<=m:=by
        have a4:s.length-1<s.length:=by have:=gk.2 k;omega
        have z:=B (s.length-1) _ (ds a4);rw [Addr.add_mid,gw]at z;have:=MW K (o:=s.length-1) (by rw [z];rfl);omega
       have U:P.cellsOf e=1:=by unfold Program.cellsOf;rw [a2];simp;omega
       have bn:=Go.Lib.run_unsafeString_row (P:=P) w t t ty e am U pl.bQ m (MV K) s k hle A B;have a5:(n:Int)=s.length:=by rw [H];omega
       have G:s.length≠0:=by simp only [ne_eq,u'];exact k
       have cw:cv φ aR (h.set a.id {b with ro:=true}) (w.freeze ⟨pl.bQ,0,none⟩ s.length):=r.MT (a:=⟨pl.bQ,0,none⟩) ae g l rfl G;have cy:Safe aR aV (w.freeze ⟨pl.bQ,0,none⟩ s.length):=Safe.MU y (p:=⟨pl.bQ,0,none⟩) (g8.base (g6 l)) G;refine⟨.string ⟨s.toArray⟩,w.freeze ⟨pl.bQ,0,none⟩ s.length,?_,?_,cw,cy,rfl⟩
       .rw [I,S,a5];exact bn
       .simp only [aA];exact⟨_,rfl,au⟩
     .cases c
    .cases c
   .cases c
  .cases c
end
end
end Go.br
