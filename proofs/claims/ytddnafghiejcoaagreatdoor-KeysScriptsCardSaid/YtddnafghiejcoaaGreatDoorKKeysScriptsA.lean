/-
  Parts of the proof of KeysScripts.
-/
import Derived.Calls
import Derived.Orders
import Derived.Lib.Bytealg
import Derived.Below
import Derived.Deep.MidRow
import Derived.WalkKit
import Derived.ChangeKeysEq
import Derived.WalkLawsBesides
import Derived.Deep.AppendSrc
import Derived.Deep.Upon
import Derived.Lib.UnsafeStr
set_option linter.unusedVariables false
set_option linter.unusedSimpArgs false
theorem V{p:Prop}(h : p := by omega) : p := h
theorem ar{p:Prop}(h : p := by kernel_rfl) : p := h
theorem an{p:Prop}(h : p := by simp) : p := h
theorem aA{p:Prop}(h : p := by decide) : p := h
namespace Go
abbrev n6:=@Nat.zero_le
abbrev tn:=@of_decide_eq_true
abbrev dV:=@List.all_eq_true
abbrev aE:=@if_pos
abbrev ap:=@if_neg
abbrev qT:=@Option.some.inj
abbrev cM:=@List.mem_cons
abbrev kU:=@List.not_mem_nil
abbrev ea:=@or_false
abbrev kV:=@or_self
abbrev ij:=@Nat.eq_of_beq_eq_true
abbrev lG:=@Nat.mul_one
abbrev cS:=@Bool.and_eq_true
abbrev fI:=@Bool.or_eq_true
abbrev hi:=@Bool.not_eq_true'
abbrev pg:=@decide_eq_false_iff_not
abbrev hA:=@List.cons_append
abbrev dT:=@List.getElem?_eq_some_iff
abbrev qU:=@List.getElem?_set_self
abbrev ph:=@List.getElem?_set_ne
abbrev n7:=@List.getElem?_drop
abbrev lH:=@List.getElem?_take
abbrev eF:=@List.map_cons
abbrev c7:=@List.getElem?_eq_getElem
abbrev gf:=@List.getD_eq_getElem?_getD
abbrev hV:=@List.getElem?_eq_none
abbrev iN:=@Nat.lt_of_lt_of_le
abbrev qV:=@Array.getElem?_push
abbrev a6:=@Option.some.injEq
abbrev kW:=@List.flatMap_cons
abbrev eM:=@Nat.zero_add
abbrev hW:=@List.getElem?_append_left
abbrev hX:=@List.getElem?_append_right
abbrev pi:=@Nat.succ_mul
abbrev dt:=@List.length_append
abbrev b':=@List.length_cons
abbrev jD:=@Array.getElem?_eq_getElem
abbrev fR:=@List.mem_of_getElem?
abbrev n8:=@Nat.sub_zero
abbrev dx:=@List.length_nil
abbrev lI:=@Nat.add_zero
abbrev dy:=@if_true
abbrev ev:=@Option.map_some
abbrev mF:=@Nat.mul_le_mul_right
abbrev gg:=@Nat.lt_or_ge
abbrev fS:=@List.length_pos_iff
abbrev iO:=@Nat.add_mul
abbrev eG:=@List.mem_append
abbrev ep:=@List.length_drop
abbrev gh:=@Array.length_toList
abbrev jE:=@List.map_nil
abbrev dW:=@congrArg
abbrev pj:=@List.drop_drop
abbrev ew:=@Bool.false_eq_true
abbrev ey:=@if_false
abbrev qW:=@List.range'_succ
abbrev iP:=@Option.isNone_some
abbrev iQ:=@Option.isNone_none
abbrev qX:=@List.range_eq_range'
abbrev b4:=@Option.map_eq_some_iff
abbrev fc:=@List.getElem?_map
abbrev lJ:=@Nat.add_assoc
abbrev lK:=@List.mem_iff_getElem
abbrev gw:=@List.getElem_mem
abbrev kh:=@beq_iff_eq
abbrev kX:=@List.take_of_length_le
abbrev hB:=@List.foldl_cons
abbrev gx:=@decide_eq_true_eq
abbrev tp:=@Array.toList_map
abbrev n9:=@List.map_map
abbrev dz:=@List.mem_map
abbrev tq:=@Option.isSome_iff_exists
abbrev pk:=@List.eq_of_mem_replicate
abbrev qY:=@Nat.mod_eq_of_lt
abbrev tr:=@List.getElem?_range
abbrev tt:=@List.mem_or_eq_of_mem_set
abbrev pn:=@List.ext_getElem?
abbrev hY:=@List.all_cons
abbrev gy:=@List.length_map
abbrev lL:=@Array.toList_append
abbrev bo:=@Prod.mk.injEq
abbrev mG:=@List.length_eq_zero_iff
abbrev eg:=@List.nil_append
abbrev fT:=@List.cons.injEq
abbrev po:=@UInt8.toNat_ofNat'
abbrev mH:=@Option.isSome_none
abbrev n':=@Array.getElem?_eq_none
abbrev oa:=@List.drop_zero
abbrev qZ:=@List.take_append
abbrev hZ:=@Array.getD_eq_getD_getElem?
abbrev pq:=@Option.bind_some
abbrev pr:=@List.nodup_cons
abbrev jF:=@List.map_congr_left
abbrev dX:=@List.mem_range
abbrev eR:=@not_or
abbrev cC:=@List.mem_singleton
abbrev tu:=@List.any_eq_true
abbrev lM:=@List.mem_filter
abbrev ob:=@Option.getD_some
abbrev tw:=@List.Pairwise.filter
abbrev tz:=@List.nodup_range
abbrev w6:=@Array.getElem?_setIfInBounds
abbrev pt:=@List.nodup_append
abbrev jG:=@List.mem_cons_self
abbrev fq:=@UInt8.toNat_inj
abbrev eH:=@Nat.blt_eq
abbrev w7:=@List.getElem?_replicate
abbrev pu:=@Option.map_none
abbrev hj:=@List.getElem?_cons_succ
abbrev gi:=@decide_eq_false
abbrev iR:=@List.mem_cons_of_mem
abbrev hC:=@Nat.le_of_ble_eq_true
abbrev q0:=@List.getElem_inj
abbrev ki:=@Ne.symm
abbrev fe:=@List.getElem?_cons_zero
abbrev q1:=@List.nodup_iff_pairwise_ne
abbrev hk:=@List.length_singleton
abbrev kj:=@List.map_append
abbrev oc:=@Nat.sub_self
abbrev mI:=@List.eq_nil_of_length_eq_zero
abbrev ik:=@List.append_assoc
abbrev h0:=@and_true
abbrev lN:=@List.nodup_nil
abbrev fU:=@Int.toNat_natCast
abbrev tA:=@List.drop_eq_nil_iff
abbrev pw:=@List.drop_left
abbrev px:=@List.drop_eq_nil_of_le
abbrev mJ:=@List.drop_append_of_le_length
abbrev lO:=@List.drop_length
abbrev od:=@beq_eq_false_iff_ne
abbrev kY:=@not_false_eq_true
abbrev kk:=@List.isPrefixOf_iff_prefix
abbrev fV:=@List.append_nil
abbrev tB:=@Nat.and_two_pow_sub_one_eq_mod
abbrev iS:=@List.drop_eq_getElem_cons
abbrev jH:=@List.take_length
abbrev tC:=@Nat.pow_le_pow_right
abbrev iT:=@Nat.beq_eq
abbrev mK:=@Nat.succ_le_of_lt
abbrev tD:=@List.prefix_iff_eq_take
abbrev kl:=@List.length_take
abbrev tE:=@List.take_append_of_le_length
abbrev gj:=@decide_eq_true
abbrev tF:=@List.prefix_append
abbrev kZ:=@Bool.eq_false_iff
abbrev py:=@List.getD_cons_zero
abbrev q2:=@beq_false_of_ne
abbrev pz:=@List.take_succ_cons
abbrev w8:=@List.take_append_getElem
abbrev tG:=@List.drop_append
abbrev ff:=@List.mem_nil_iff
abbrev q3:=@List.length_replicate
abbrev w9:=@Array.getElem?_eq_some_iff
end Go
namespace Go.bh
inductive aF(α:Type) where
 |nil
 |node (v:Option α) (l r:aF α)
section
variable {α:Type}
noncomputable def aF.get(t:aF α):Nat->Option α :=
 aF.rec (motive:=λ_=>Nat->Option α) (λ_=>none)
  (λv _ _ eY fr k=>cond (Nat.beq k 0) v (cond (Nat.beq (k%2) 1) (eY (k/2)) (fr (k/2-1)))) t
noncomputable def aF.fW(f:Nat):Nat->α->aF α :=
 Nat.rec (motive:=λ_=>Nat->α->aF α) (λ_ v=> .node (some v) .nil .nil)
  (λ_ ih k v=>cond (Nat.beq k 0) (.node (some v) .nil .nil) (cond (Nat.beq (k%2) 1) (.node none (ih (k/2) v) .nil) (.node none .nil (ih (k/2-1) v)))) f
noncomputable def aF.set(t:aF α):Nat->α->aF α :=
 aF.rec (motive:=λ_=>Nat->α->aF α) (λk v=>aF.fW k k v)
  (λo l r ez a k v=>cond (Nat.beq k 0) (.node (some v) l r) (cond (Nat.beq (k%2) 1) (.node o (ez (k/2) v) r) (.node o l (a (k/2-1) v)))) t
theorem beq_true{a b:Nat}(h:a=b):Nat.beq a b=true:=by subst h;exact Nat.beq_refl a
theorem beq_false{a b:Nat}(h:a≠b):Nat.beq a b=false:=by
 cases c:Nat.beq a b with
 |false=>rfl
 |true=>exact absurd (ij c) h
theorem aF.k0(k:Nat):(aF.nil:aF α).get k=none:=rfl
theorem aF.il(v:Option α)(l r:aF α):(aF.node v l r).get 0=v:=rfl
theorem aF.h1(v:Option α)(l r:aF α)(m:Nat):(aF.node v l r).get (2*m+1)=l.get m:=by show cond (Nat.beq (2*m+1) 0) v (cond (Nat.beq ((2*m+1)%2) 1) (l.get ((2*m+1)/2)) (r.get ((2*m+1)/2-1)))=_;rw [beq_false V,beq_true V,show(2*m+1)/2=m by omega];rfl
theorem aF.h3(v:Option α)(l r:aF α)(m:Nat):(aF.node v l r).get (2*m+2)=r.get m:=by show cond (Nat.beq (2*m+2) 0) v (cond (Nat.beq ((2*m+2)%2) 1) (l.get ((2*m+2)/2)) (r.get ((2*m+2)/2-1)))=_;rw [beq_false V,beq_false V,show(2*m+2)/2-1=m by omega];rfl
theorem aF.oe(f:Nat)(v:α):aF.fW f 0 v=.node (some v) .nil .nil:=by cases f<;>rfl
theorem aF.tH(f m:Nat)(v:α):aF.fW (f+1) (2*m+1) v=.node none (aF.fW f m v) .nil:=by show cond (Nat.beq (2*m+1) 0) (aF.node (some v) .nil .nil) (cond (Nat.beq ((2*m+1)%2) 1) (aF.node none (aF.fW f ((2*m+1)/2) v) .nil) (aF.node none .nil (aF.fW f ((2*m+1)/2-1) v)))=_;rw [beq_false V,beq_true V,show(2*m+1)/2=m by omega];rfl
theorem aF.tI(f m:Nat)(v:α):aF.fW (f+1) (2*m+2) v=.node none .nil (aF.fW f m v):=by show cond (Nat.beq (2*m+2) 0) (aF.node (some v) .nil .nil) (cond (Nat.beq ((2*m+2)%2) 1) (aF.node none (aF.fW f ((2*m+2)/2) v) .nil) (aF.node none .nil (aF.fW f ((2*m+2)/2-1) v)))=_;rw [beq_false V,beq_false V,show(2*m+2)/2-1=m by omega];rfl
theorem aF.set_nil(k:Nat)(v:α):(aF.nil:aF α).set k v=aF.fW k k v:=rfl
theorem aF.iU(o:Option α)(l r:aF α)(v:α):(aF.node o l r).set 0 v=.node (some v) l r:=rfl
theorem aF.gW(o:Option α)(l r:aF α)(m:Nat)(v:α):(aF.node o l r).set (2*m+1) v=.node o (l.set m v) r:=by show cond (Nat.beq (2*m+1) 0) (aF.node (some v) l r) (cond (Nat.beq ((2*m+1)%2) 1) (aF.node o (l.set ((2*m+1)/2) v) r) (aF.node o l (r.set ((2*m+1)/2-1) v)))=_;rw [beq_false V,beq_true V,show(2*m+1)/2=m by omega];rfl
theorem aF.gX(o:Option α)(l r:aF α)(m:Nat)(v:α):(aF.node o l r).set (2*m+2) v=.node o l (r.set m v):=by show cond (Nat.beq (2*m+2) 0) (aF.node (some v) l r) (cond (Nat.beq ((2*m+2)%2) 1) (aF.node o (l.set ((2*m+2)/2) v) r) (aF.node o l (r.set ((2*m+2)/2-1) v)))=_;rw [beq_false V,beq_false V,show(2*m+2)/2-1=m by omega];rfl
theorem three(k:Nat):k=0\/(∃m,k=2*m+1)\/ ∃m,k=2*m+2:=by
 rcases Nat.eq_zero_or_pos k with h|h
 .exact .inl h
 .rcases Nat.mod_two_eq_zero_or_one k with h2|h2
  .exact .inr (.inr ⟨k/2-1,V⟩)
  .exact .inr (.inl ⟨k/2,V⟩)
theorem aF.Bn(v:α):∀(k f g:Nat),k<=f->k<=g->aF.fW f k v=aF.fW g k v:=by
 intro k;induction k using Nat.strongRecOn with
 |_ k ih =>
  intro f g c ag;rcases three k with rfl|⟨m,rfl⟩|⟨m,rfl⟩
  .rw [aF.oe,aF.oe]
  .obtain⟨f,rfl⟩:∃a,f=a+1:=⟨f-1,V⟩
   obtain⟨g,rfl⟩:∃b,g=b+1:=⟨g-1,V⟩
   rw [aF.tH,aF.tH,ih m V f g V V]
  .obtain⟨f,rfl⟩:∃a,f=a+1:=⟨f-1,V⟩
   obtain⟨g,rfl⟩:∃b,g=b+1:=⟨g-1,V⟩
   rw [aF.tI,aF.tI,ih m V f g V V]
theorem aF.IN(v:α):∀(k f j:Nat),k<=f->(aF.fW f k v).get j=if k=j then some v else none:=by
 intro k;induction k using Nat.strongRecOn with
 |_ k ih =>
  intro f j b;rcases three k with rfl|⟨m,rfl⟩|⟨m,rfl⟩
  .rw [aF.oe];rcases three j with rfl|⟨i,rfl⟩|⟨i,rfl⟩
   .rw [aF.il,aE rfl]
   .rw [aF.h1,aF.k0,ap V]
   .rw [aF.h3,aF.k0,ap V]
  .obtain⟨f,rfl⟩:∃a,f=a+1:=⟨f-1,V⟩
   rw [aF.tH];rcases three j with rfl|⟨i,rfl⟩|⟨i,rfl⟩
   .rw [aF.il,ap V]
   .rw [aF.h1,ih m V f i V];by_cases h:m=i
    .rw [aE h,aE V]
    .rw [ap h,ap V]
   .rw [aF.h3,aF.k0,ap V]
  .obtain⟨f,rfl⟩:∃a,f=a+1:=⟨f-1,V⟩
   rw [aF.tI];rcases three j with rfl|⟨i,rfl⟩|⟨i,rfl⟩
   .rw [aF.il,ap V]
   .rw [aF.h1,aF.k0,ap V]
   .rw [aF.h3,ih m V f i V];by_cases h:m=i
    .rw [aE h,aE V]
    .rw [ap h,ap V]
theorem aF.h4(v:α):∀(t:aF α)(k j:Nat),(t.set k v).get j=if k=j then some v else t.get j
 |.nil,k,j=>by rw [aF.set_nil,aF.IN v k k j (Nat.le_refl _),aF.k0]
 |.node o l r,k,j=>by
  rcases three k with rfl|⟨m,rfl⟩|⟨m,rfl⟩
  .rw [aF.iU];rcases three j with rfl|⟨i,rfl⟩|⟨i,rfl⟩
   .rw [aF.il,aE rfl]
   .rw [aF.h1,aF.h1,ap V]
   .rw [aF.h3,aF.h3,ap V]
  .rw [aF.gW];rcases three j with rfl|⟨i,rfl⟩|⟨i,rfl⟩
   .rw [aF.il,aF.il,ap V]
   .rw [aF.h1,aF.h1,aF.h4 v l m i];by_cases h:m=i
    .rw [aE h,aE V]
    .rw [ap h,ap V]
   .rw [aF.h3,aF.h3,ap V]
  .rw [aF.gX];rcases three j with rfl|⟨i,rfl⟩|⟨i,rfl⟩
   .rw [aF.il,aF.il,ap V]
   .rw [aF.h1,aF.h1,ap V]
   .rw [aF.h3,aF.h3,aF.h4 v r m i];by_cases h:m=i
    .rw [aE h,aE V]
    .rw [ap h,ap V]
theorem aF.IP(x y:α):∀(a b:Nat),a≠b->(aF.fW a a x).set b y=(aF.fW b b y).set a x:=by
 intro a;induction a using Nat.strongRecOn with
 |_ a ih =>
  intro b d
  have c:∀(m:Nat)(v:α),aF.fW (2*m+1) (2*m+1) v=.node none (aF.fW m m v) .nil:=λm v=>by rw [aF.tH,aF.Bn v m (2*m) m V (Nat.le_refl _)]
  have even:∀(m:Nat)(v:α),aF.fW (2*m+2) (2*m+2) v=.node none .nil (aF.fW m m v):=λm v=>by rw [aF.tI,aF.Bn v m (2*m+1) m V (Nat.le_refl _)]
  rcases three a with rfl|⟨m,rfl⟩|⟨m,rfl⟩<;>rcases three b with rfl|⟨i,rfl⟩|⟨i,rfl⟩
  .exact absurd rfl d
  .rw [aF.oe,c,aF.gW,aF.iU,aF.set_nil]
  .rw [aF.oe,even,aF.gX,aF.iU,aF.set_nil]
  .rw [aF.oe,c,aF.gW,aF.iU,aF.set_nil]
  .rw [c,c,aF.gW,aF.gW,ih m V i V]
  .rw [c,even,aF.gW,aF.gX,aF.set_nil,aF.set_nil]
  .rw [aF.oe,even,aF.gX,aF.iU,aF.set_nil]
  .rw [c,even,aF.gW,aF.gX,aF.set_nil,aF.set_nil]
  .rw [even,even,aF.gX,aF.gX,ih m V i V]
theorem aF.set_comm(x y:α):∀(t:aF α)(a b:Nat),a≠b->(t.set a x).set b y=(t.set b y).set a x
 |.nil,a,b,h=>by rw [aF.set_nil,aF.set_nil,aF.IP x y a b h]
 |.node o l r,a,b,h=>by
  rcases three a with rfl|⟨m,rfl⟩|⟨m,rfl⟩<;>rcases three b with rfl|⟨i,rfl⟩|⟨i,rfl⟩
  .exact absurd rfl h
  .rw [aF.iU,aF.gW,aF.gW,aF.iU]
  .rw [aF.iU,aF.gX,aF.gX,aF.iU]
  .rw [aF.iU,aF.gW,aF.gW,aF.iU]
  .rw [aF.gW,aF.gW,aF.gW,aF.gW,aF.set_comm x y l m i V]
  .rw [aF.gW,aF.gX,aF.gX,aF.gW]
  .rw [aF.gX,aF.iU,aF.iU,aF.gX]
  .rw [aF.gX,aF.gW,aF.gW,aF.gX]
  .rw [aF.gX,aF.gX,aF.gX,aF.gX,aF.set_comm x y r m i V]
def w'(f:α->α->Bool):Option α->Option α->Bool
 |none,none=>true
 |some a,some b=>f a b
 |_,_=>false
def aF.mL(b0:Nat):aF α->Nat->Nat->Bool
 |.nil,_,_=>true
 |.node v l r,p,s=>(!decide (p<b0) || v.isNone)&&l.mL b0 (p+s) (2*s)&&r.mL b0 (p+2*s) (2*s)
def aF.km(f:α->α->Bool)(b0:Nat):aF α->aF α->Nat->Nat->Bool
 |.nil,u,p,s=>u.mL b0 p s
 |.node v l r,.nil,p,s=>(aF.node v l r).mL b0 p s
 |.node v l r,.node c a b,p,s=>(!decide (p<b0) || w' f v c)&&aF.km f b0 l a (p+s) (2*s)&&aF.km f b0 r b (p+2*s) (2*s)
theorem tJ(p s m:Nat):p+s* (2*m+1)=p+s+2*s*m:=by rw [Nat.mul_add,lG,<-Nat.mul_assoc,Nat.mul_comm s 2];omega
theorem tK(p s m:Nat):p+s* (2*m+2)=p+2*s+2*s*m:=by rw [Nat.mul_add,<-Nat.mul_assoc,Nat.mul_comm s 2];omega
theorem aF.tL(b0:Nat):∀(t:aF α)(p s:Nat),t.mL b0 p s=true-> ∀k,p+s*k<b0->t.get k=none
 |.nil,p,s,_,k,_=>rfl
 |.node v l r,p,s,h,k,a=>by
  simp only [aF.mL,cS,fI,hi,pg]at h;obtain⟨⟨aa,h2⟩,b⟩:=h;rcases three k with rfl|⟨m,rfl⟩|⟨m,rfl⟩
  .rw [aF.il];rcases aa with aa|aa
   .simp at a;omega
   .simpa using aa
  .rw [aF.h1];rw [tJ]at a;exact aF.tL b0 l _ _ h2 m a
  .rw [aF.h3];rw [tK]at a;exact aF.tL b0 r _ _ b m a
theorem aF.tM(b0:Nat):∀(t:aF α)(p s:Nat),(∀k,p+s*k<b0->t.get k=none)->t.mL b0 p s=true
 |.nil,p,s,_=>rfl
 |.node v l r,p,s,h=>by
  simp only [aF.mL,cS,fI,hi,pg];refine⟨⟨?_,?_⟩,?_⟩
  .by_cases ae:p<b0
   .right;have:=h 0 (by simpa using ae);rw [aF.il]at this;simp [this]
   .exact .inl ae
  .exact aF.tM b0 l _ _ λm hm=>by have:=h (2*m+1) (by rw [tJ];exact hm);rwa [aF.h1]at this
  .exact aF.tM b0 r _ _ λm hm=>by have:=h (2*m+2) (by rw [tK];exact hm);rwa [aF.h3]at this
theorem aF.xa{f:α->α->Bool}(d:∀a b,f a b=true->a=b)(b0:Nat):∀(t u:aF α)(p s:Nat),aF.km f b0 t u p s=true-> ∀k,p+s*k<b0->t.get k=u.get k
 |.nil,u,p,s,h,k,c=>by rw [aF.k0,aF.tL b0 u p s (by simpa [aF.km]using h) k c]
 |.node v l r,.nil,p,s,h,k,c=>by rw [aF.k0,aF.tL b0 _ p s (by simpa [aF.km]using h) k c]
 |.node v l r,.node j g i,p,s,h,k,c=>by
  simp only [aF.km,cS,fI,hi,pg]at h;obtain⟨⟨aa,h2⟩,e⟩:=h;rcases three k with rfl|⟨m,rfl⟩|⟨m,rfl⟩
  .rw [aF.il,aF.il];rcases aa with aa|aa
   .simp at c;omega
   .cases v<;>cases j<;>simp [w']at aa<;>first|rfl|(rw [d _ _ aa])
  .rw [aF.h1,aF.h1];rw [tJ]at c;exact aF.xa d b0 l g _ _ h2 m c
  .rw [aF.h3,aF.h3];rw [tK]at c;exact aF.xa d b0 r i _ _ e m c
theorem aF.xb{f:α->α->Bool}(b:∀a,f a a=true)(b0:Nat):∀(t u:aF α)(p s:Nat),(∀k,p+s*k<b0->t.get k=u.get k)->aF.km f b0 t u p s=true
 |.nil,u,p,s,h=>by simp only [aF.km];exact aF.tM b0 u p s λk c=>by rw [<-h k c,aF.k0]
 |.node v l r,.nil,p,s,h=>by simp only [aF.km];exact aF.tM b0 _ p s λk c=>by rw [h k c,aF.k0]
 |.node v l r,.node g d e,p,s,h=>by
  simp only [aF.km,cS,fI,hi,pg];refine⟨⟨?_,?_⟩,?_⟩
  .by_cases ae:p<b0
   .right;have:=h 0 (by simpa using ae);rw [aF.il,aF.il]at this;subst this;cases v<;>simp [w',b]
   .exact .inl ae
  .exact aF.xb b b0 l d _ _ λm hm=>by have:=h (2*m+1) (by rw [tJ];exact hm);rwa [aF.h1,aF.h1]at this
  .exact aF.xb b b0 r e _ _ λm hm=>by have:=h (2*m+2) (by rw [tK];exact hm);rwa [aF.h3,aF.h3]at this
end
noncomputable section
structure aT where
 id:Nat
 ab:Nat
 idx:Nat
 fld:Nat
 es:Nat
 deriving DecidableEq
inductive J where
 |undef
 |bool (b:Bool)
 |int (k:IntKind) (n:Int)
 |str (s:List UInt8)
 |ptr (a:Option aT)
 |slice (a:Option aT) (len cap:Nat)
 |func (fn:Fn) (first captured:List J)
 |nilFunc
 |iface (t:TypeId) (v:J)
 |nilIface
 |agg (aX:List J)
 |tuple (vs:List J)
 deriving Inhabited
abbrev eN:J:= .tuple []
def J.cells:J->List J
 |.agg aX=>aX
 |v=> [v]
def pA:Value->J
 |.bool b=> .bool b
 |.int k n=> .int k n
 |.string s=> .str s.data.toList
 |.pointer none=> .ptr none
 |.slice none 0 0=> .slice none 0 0
 |.nilFunc=> .nilFunc
 |.nilIface=> .nilIface
 |_=> .undef
def mM:Value->J
 |.agg aX=> .agg (aX.toList.map pA)
 |.iface t v=> .iface t (pA v)
 |v=>pA v
inductive lP where
 |int (k:IntKind)|bool|string|ptr (e:TypeId)|slice (e:TypeId)|array (n:Nat) (e:TypeId)
 |struct (fs:List (Nat×TypeId))|func|iface (own:Bool)|other
 deriving Inhabited
structure mN where
 kind:lP
 size:Nat
 bytes:Nat
 zero:Option J
 deriving Inhabited
def lP.isAgg:lP->Bool
 |.struct _|.array _ _=>true
 |_=>false
def fg:TypeDesc->lP
 |.int k=> .int k
 |.bool=> .bool
 |.string=> .string
 |.pointer e=> .ptr e
 |.slice e=> .slice e
 |.array n e=> .array n e
 |.struct fs=> .struct (fs.toList.map λf=>(f.offset,f.type))
 |.func _ _ _=> .func
 |.interface a=> .iface (!a.isEmpty)
 |_=> .other
def tN(P:Program)(t:TypeId):Option mN :=
 match P.info? t,P.underlying t with
 |some i,some d=>some {kind:=fg d,size:=i.size,bytes:=i.bytes,zero:=i.zero.map mM}
 |_,_=>none
abbrev cN:=TypeId->Option mN
def cN.cx(D:cN)(P:Program):Prop:= ∀t d,D t=some d->tN P t=some d
structure ac where
 aQ:List J
 es:Nat
 exact:Bool
 ro:Bool
 ab:Nat
 eb:Nat
 eS:Nat
 ty:Option (TypeId×Nat)
 deriving Inhabited
structure T where
 Y:Nat
 ay:aF ac
def T.get(h:T)(id:Nat):Option ac:=h.ay.get id
def T.set(h:T)(id:Nat)(b:ac):T:= {h with ay:=h.ay.set id b}
def ac.b0(b:ac)(ab:Nat):Nat :=
 if ab=b.ab then b.aQ.length else if b.eb<=ab/\ab<b.ab then b.eS else 0
def ac.elem?(b:ac)(ab idx:Nat):Option J :=
 if idx<b.b0 ab then b.aQ[idx]? else none
def ac.aj(aQ:List J)(es:Nat)(exact:Bool)(ty:Option (TypeId×Nat):=none):ac :=
 {aQ,es,exact,ro:=false,ab:=0,eb:=0,eS:=0,ty}
def ac.grow(b:ac)(new:List J):ac :=
 {b with aQ:=b.aQ++new,ab:=b.ab+1,eS:=if b.eb=b.ab then b.aQ.length else min b.eS b.aQ.length}
def gk(l:List J)(i:Nat):List J->List J
 |[]=>l
 |v::vs=>gk (l.set i v) (i+1) vs
def ac.put(b:ac)(idx:Nat)(vs:List J):ac :=
 {b with aQ:=gk b.aQ idx vs,eb:=b.ab}
def ft(a:Bool)(size fld:Nat)(e:J):Option J :=
 if a then
  match e with
  |.agg aX=>if fld=0/\size=aX.length then some (.agg aX)else if fld+size<=aX.length then some (.agg ((aX.drop fld).take size))else none
  |_=>none
 else
  match e with
  |.agg aX=>aX[fld]?
  |_=>if fld=0 then some e else none
def a1(D:cN)(t:TypeId)(a:aT)(h:T):Option J :=
 match D t,h.get a.id with
 |some d,some b =>
  match b.elem? a.ab a.idx with
  |some e=>ft d.kind.isAgg d.size a.fld e
  |none=>none
 |_,_=>none
def J.hD:J->Bool
 |.agg _|.tuple _|.undef=>false
 |_=>true
def kn(fld:Nat)(v e:J):Option J :=
 match e with
 |.agg aX=>if fld+v.cells.length<=aX.length then some (.agg (gk aX fld v.cells))else none
 |_=>if fld=0/\v.hD then some v else none
def J.fits(v:J)(a:Bool)(size:Nat):Bool :=
 match v with
 |.agg aX=>a&&aX.length == size&&aX.all (·.hD)
 |.tuple _=>false
 |.undef=>false
 |_=> !a&&size == 1
def eA(D:cN)(t:TypeId)(a:aT)(v:J)(h:T):Option T :=
 match D t,h.get a.id with
 |some d,some b =>
  if v.fits d.kind.isAgg d.size&&!b.ro&&a.ab == b.ab then
   match b.aQ[a.idx]? with
   |some e =>
    match kn a.fld v e with
    |some e'=>some (h.set a.id {b with aQ:=b.aQ.set a.idx e',eb:=b.ab})
    |none=>none
   |none=>none
  else none
 |_,_=>none
def hK(op:BinOp)(k:IntKind)(x y:Int):Option J :=
 match op with
 |.add=>some (.int k (k.wrap (x+y)))
 |.sub=>some (.int k (k.wrap (x-y)))
 |.mul=>some (.int k (k.wrap (x*y)))
 |.quo=>if y=0 then none else some (.int k (k.wrap (x.tdiv y)))
 |.rem=>if y=0 then none else some (.int k (x.tmod y))
 |.and=>some (.int k (k.wrap (BitVec.ofInt k.bits x &&& BitVec.ofInt k.bits y).toNat))
 |.or=>some (.int k (k.wrap (BitVec.ofInt k.bits x ||| BitVec.ofInt k.bits y).toNat))
 |.xor=>some (.int k (k.wrap (BitVec.ofInt k.bits x ^^^ BitVec.ofInt k.bits y).toNat))
 |.andNot=>some (.int k (k.wrap (BitVec.ofInt k.bits x &&& ~~~(BitVec.ofInt k.bits y)).toNat))
 |.eql=>some (.bool (x == y))
 |.neq=>some (.bool (x != y))
 |.lss=>some (.bool (decide (x<y)))
 |.leq=>some (.bool (decide (x<=y)))
 |.gtr=>some (.bool (decide (x>y)))
 |.geq=>some (.bool (decide (x≥y)))
 |_=>none
def q4(op:BinOp)(k:IntKind)(x y:Int):Option J :=
 if y<0 then none else
 match op with
 |.shl=>some (.int k (k.wrap (x*2^(min y.toNat k.bits))))
 |.shr=>some (.int k (x.fdiv (2^(min y.toNat k.bits))))
 |_=>none
def q5(op:BinOp)(x y:List UInt8):Option J :=
 match op with
 |.add=>if x.length+y.length<2^62 then some (.str (x++y))else none
 |.eql=>some (.bool (x == y))
 |.neq=>some (.bool (!(x == y)))
 |.lss=>some (.bool (Op.bytesLess x y))
 |.leq=>some (.bool (Op.bytesLess x y || x == y))
 |.gtr=>some (.bool (!(Op.bytesLess x y || x == y)))
 |.geq=>some (.bool (!Op.bytesLess x y))
 |_=>none
def tO(k:lP)(a b:J):Option Bool :=
 match k,a,b with
 |.int _,.int k a,.int k' b=>if k=k' then some (a == b)else none
 |.bool,.bool a,.bool b=>some (a == b)
 |.string,.str a,.str b=>some (a == b)
 |_,_,_=>none
def og(D:cN):List (Nat×TypeId)->List J->List J->Option Bool
 |[],[],[]=>some true
 |(_,t)::fs,a::x,b::y =>
  match D t with
  |some d =>
   match tO d.kind a b,og D fs x y with
   |some p,some q=>some (p&&q)
   |_,_=>none
  |none=>none
 |_,_,_=>none
def pB(k:lP):List J->List J->Option Bool
 |[],[]=>some true
 |a::x,b::y =>
  match tO k a b,pB k x y with
  |some p,some q=>some (p&&q)
  |_,_=>none
 |_,_=>none
def mO(D:cN)(fC:TypeId->Bool)(lit:Bool)(t:TypeId)(x y:J):Option Bool :=
 match D t with
 |none=>none
 |some d =>
  match d.kind,x,y with
  |.bool,.bool a,.bool b=>some (a == b)
  |.ptr _,.ptr none,.ptr none=>some true
  |.ptr _,.ptr none,.ptr (some _)=>some false
  |.ptr _,.ptr (some _),.ptr none=>some false
  |.slice _,.slice none _ _,.slice none _ _=>some true
  |.slice _,.slice none _ _,.slice (some _) _ _=>some false
  |.slice _,.slice (some _) _ _,.slice none _ _=>some false
  |.func,.nilFunc,.nilFunc=>some true
  |.func,.nilFunc,.func _ _ _=>some false
  |.func,.func _ _ _,.nilFunc=>some false
  |.iface _,.nilIface,.nilIface=>if lit then some true else none
  |.iface _,.nilIface,.iface _ _=>some false
  |.iface _,.iface _ _,.nilIface=>some false
  |.struct fs,.agg x,.agg y=>if fC t then og D fs x y else none
  |.array n e,.agg x,.agg y =>
   if fC t then
    match D e with
    |some c=>if c.size=1/\x.length=n then pB c.kind x y else none
    |none=>none
   else none
  |_,_,_=>none
def iV(D:cN)(fC:TypeId->Bool)(lit:Bool)(op:BinOp)(t:TypeId)(x y:J):Option J :=
 match x,y with
 |.int k a,.int k' b =>
  match op with
  |.shl|.shr=>q4 op k a b
  |_=>if k=k' then hK op k a b else none
 |.str a,.str b=>q5 op a b
 |_,_ =>
  match op with
  |.eql=>(mO D fC lit t x y).map λb=> .bool b
  |.neq=>(mO D fC lit t x y).map λb=> .bool (!b)
  |_=>none
def q6(op:UnOp)(x:J):Option J :=
 match op,x with
 |.neg,.int k n=>some (.int k (k.wrap (0-n)))
 |.not,.bool b=>some (.bool (!b))
 |.xor,.int k n=>hK .xor k (if k.signed then-1 else k.max) n
 |_,_=>none
def tP:J->J->Option J
 |.int k x,.int k' y=>if k=k' then some (.int k (if y>x then y else x))else none
 |_,_=>none
def tQ:J->J->Option J
 |.int k x,.int k' y=>if k=k' then some (.int k (if y<x then y else x))else none
 |_,_=>none
def mP(f:J->J->Option J):J->List J->Option J
 |x,[]=>some x
 |x,y::r =>
  match f x y with
  |some z=>mP f z r
  |none=>none
def J.known:J->Bool
 |.undef=>false
 |_=>true
def pC(place:Nat->Option (Nat×Nat))(cells:List J):List (Nat×J)->Option (List J)
 |[]=>some cells
 |(i,v)::rest =>
  match place i with
  |none=>none
  |some (off,size) =>
   if v.cells.length=size/\off+size<=cells.length/\v.known=true then pC place (gk cells off v.cells) rest else none
def Bo(D:cN)(fs:List (Nat×TypeId)):Bool:=fs.all λf=>(D f.2).isSome
def xc(D:cN)(t:TypeId)(parts:List (Nat×J)):Option J :=
 match D t with
 |some d =>
  match d.kind,d.zero with
  |.struct fs,some z =>
   if z.known=true/\Bo D fs=true then
    (pC (λi=>match fs[i]? with|some (off,a)=>(D a).map λx=>(off,x.size)|none=>none) z.cells parts).map .agg
   else none
  |.array _ e,some z =>
   match D e with
   |some x=>if z.known=true then(pC (λi=>some (i*x.size,x.size)) z.cells parts).map .agg else none
   |none=>none
  |_,_=>none
 |none=>none
def ko(l:List J):List (Nat×J)->Option (List J)
 |[]=>some l
 |(i,v)::rest=>if i<l.length then ko (l.set i v) rest else none
def h5(nid es len cap:Nat):J:= .slice (some ⟨nid,0,0,0,es⟩) len cap
def k1(D:cN)(t:TypeId)(len:Nat)(parts:List (Nat×J))(nid:Nat)(h:T):Option (J×T) :=
 match D t with
 |some d =>
  match d.kind with
  |.slice e =>
   match D e with
   |some x =>
    match x.zero with
    |some z =>
     if len*x.size<=2^24/\0<x.size/\z.fits x.kind.isAgg x.size/\(parts.all λp=>p.2.fits x.kind.isAgg x.size)then
      match ko (List.replicate len z) parts with
      |some l=>some (h5 nid x.size len len,h.set nid (.aj l x.size true))
      |none=>none
     else none
    |none=>none
   |none=>none
  |_=>none
 |none=>none
def q7(D:cN)(t:TypeId)(len cap:J)(nid:Nat)(h:T):Option (J×T) :=
 match D t,len,cap with
 |some d, .int _ l,.int _ c =>
  match d.kind with
  |.slice e =>
   match D e with
   |some x =>
    match x.zero with
    |some z =>
     if 0<=l/\l<=c/\c<2^62/\x.bytes*c<=2^48/\0<x.size/\z.fits x.kind.isAgg x.size then
      some (h5 nid x.size l.toNat c.toNat,h.set nid (.aj (List.replicate c.toNat z) x.size true))
     else none
    |none=>none
   |none=>none
  |_=>none
 |_,_,_=>none
def eh(v:Option J)(a b:Nat):Option Nat :=
 match v with
 |none=>some a
 |some (.int _ i)=>if 0<=i/\i<=b then some i.toNat else none
 |_=>none
def ec(D:cN)(t:TypeId)(x:J)(aD ah mx:Option J):Option J :=
 match D t,x with
 |some d, .slice a len cap =>
  match d.kind with
  |.slice e =>
   match D e,eh mx cap cap with
   |some b9,some m =>
    match eh ah len m with
    |some b =>
     match eh aD 0 b with
     |some l =>
      if mx.isSome/\ah.isNone then none else
      match a with
      |none=>some (.slice none (b-l) (m-l))
      |some a=>if a.es=b9.size/\a.fld=0 then some (.slice (some {a with idx:=a.idx+l}) (b-l) (m-l))else none
     |none=>none
    |none=>none
   |_,_=>none
  |_=>none
 |some d,.ptr (some a) =>
  match d.kind with
  |.array n e =>
   match D e with
   |some b9 =>
    if mx.isSome then none else
    match eh ah n n with
    |some b =>
     match eh aD 0 b with
     |some l=>if l<n/\b9.size=1 then some (.slice (some {a with fld:=a.fld+l+1}) (b-l) (n-l))else none
     |none=>none
    |none=>none
   |none=>none
  |_=>none
 |some d,.str s =>
  match d.kind with
  |.string =>
   if mx.isSome then none else
   match eh ah s.length s.length with
   |some b =>
    match eh aD 0 b with
    |some l=>some (.str ((s.take b).drop l))
    |none=>none
   |none=>none
  |_=>none
 |_,_=>none
def dL(D:cN)(t:TypeId)(x i:J):Option J :=
 match D t,x,i with
 |some d,.slice (some a) len _,.int _ i =>
  match d.kind with
  |.slice e =>
   match D e with
   |some b9 =>
    if 0<=i/\i<len/\a.es=b9.size/\a.fld=0 then some (.ptr (some {a with idx:=a.idx+i.toNat}))
    else if 0<=i/\i<len/\0<a.fld/\b9.size=1 then some (.ptr (some {a with fld:=a.fld-1+i.toNat}))
    else none
   |none=>none
  |_=>none
 |some d,.ptr (some a),.int _ i =>
  match d.kind with
  |.array n e =>
   match D e with
   |some b9=>if 0<=i/\i<n then some (.ptr (some {a with fld:=a.fld+i.toNat*b9.size}))else none
   |none=>none
  |_=>none
 |_,_,_=>none
def apart(D:cN)(t:TypeId)(aX:List J)(off:Nat):Option J :=
 match D t with
 |some d=>if d.kind.isAgg then(if off+d.size<=aX.length then some (.agg ((aX.drop off).take d.size))else none)else aX[off]?
 |none=>none
def c8(D:cN)(t:TypeId)(x i:J):Option J :=
 match D t,x,i with
 |some d,.agg aX,.int _ i =>
  match d.kind with
  |.array n e =>
   match D e with
   |some b9=>if 0<=i/\i<n then apart D e aX (i.toNat*b9.size)else none
   |none=>none
  |_=>none
 |some d,.str s,.int _ i =>
  match d.kind with
  |.string=>if 0<=i then(s[i.toNat]?).map λb=> .int .u8 b.toNat else none
  |_=>none
 |_,_,_=>none
def xd(D:cN)(t:TypeId)(x:J)(f:Nat):Option J :=
 match D t,x with
 |some d,.ptr (some a) =>
  match d.kind with
  |.struct fs =>
   match fs[f]? with
   |some (off,b) =>
    match D b with
    |some fd=>if 0<fd.size then some (.ptr (some {a with fld:=a.fld+off}))else none
    |none=>none
   |none=>none
  |_=>none
 |_,_=>none
def xe(D:cN)(t:TypeId)(x:J)(f:Nat):Option J :=
 match D t,x with
 |some d,.agg aX =>
  match d.kind with
  |.struct fs =>
   match fs[f]? with
   |some (off,a)=>apart D a aX off
   |none=>none
  |_=>none
 |_,_=>none
def dF(es:Nat)(x:J)(h:T):Option (List J) :=
 match x with
 |.slice none 0 _=>some []
 |.slice (some a) len _ =>
  if a.fld=0 then
   if a.es=es then
    match h.get a.id with
    |some b=>if len=0 then some []else if a.idx+len<=b.b0 a.ab/\a.idx+len<=b.aQ.length then some ((b.aQ.drop a.idx).take len)else none
    |none=>if len=0 then some []else none
   else none
  else if len=0 then some []
  else if es=1 then
   match h.get a.id with
   |some b =>
    match b.elem? a.ab a.idx with
    |some (.agg aX)=>if a.fld-1+len<=aX.length/\((aX.drop (a.fld-1)).take len).all (·.hD)=true then some ((aX.drop (a.fld-1)).take len)else none
    |_=>none
   |none=>none
  else none
 |.str s=>if es=1 then some (s.map λb=> .int .u8 b.toNat)else none
 |_=>none
def mN.mQ(d:mN):Bool :=
 match d.zero with
 |some z=>z.fits d.kind.isAgg d.size
 |none=>false
def gz(D:cN)(t:TypeId)(s x:J)(nid:Nat)(h:T):Option (J×T) :=
 match D t,s with
 |some d, .slice base len cap =>
  match d.kind with
  |.slice e =>
   match D e with
   |some b9 =>
    match dF b9.size x h with
    |some new =>
     let c:=len+new.length
     if 0 < b9.size/\(c+c/4+512)*b9.bytes<=2^48/\c<2^62/\b9.mQ=true then
      match base with
      |none=>if c=0 then some (.slice none 0 cap,h)else if cap=0/\len=0 then some (h5 nid b9.size c c,h.set nid (.aj new b9.size false (some (e,0))))else none
      |some a =>
       if a.es =b9.size/\a.fld=0 then
        match h.get a.id with
        |some b =>
         if c<=cap then
          if new=[]then some (.slice base c cap,h)else
          if b.ro=false/\a.ab=b.ab/\a.idx+c<=b.aQ.length then some (.slice base c cap,h.set a.id (b.put (a.idx+len) new))else none
         else if b.exact then
          match dF b9.size s h with
          |some old=>some (h5 nid b9.size c c,h.set nid (.aj (old++new) b9.size false (some (e,0))))
          |none=>none
         else if b.ro=false/\a.ab=b.ab/\a.idx+len=b.aQ.length/\new≠[]/\(b.ty=none\/b.ty=some (e,0))then
          some (.slice (some {a with ab:=a.ab+1}) c c,
           h.set a.id (b.grow new))
         else none
        |none=>none
       else none
     else none
    |none=>none
   |none=>none
  |_=>none
 |_,_=>none
def xf(D:cN)(t:TypeId)(x:J):Option J :=
 match D t,x with
 |some d,.slice _ n _=>match d.kind with|.slice _=>some (.int .i64 n)|_=>none
 |some d,.str s=>match d.kind with|.string=>some (.int .i64 s.length)|_=>none
 |some d,_=>match d.kind with|.array n _=>some (.int .i64 n)|_=>none
 |_,_=>none
def q8(D:cN)(src dst:TypeId)(x:J):Option J :=
 match D src,D dst,x with
 |some _,some d,.int _ n=>match d.kind with|.int k=>some (.int k (k.wrap n))|.string=>some (.str (Utf8.encode n).data.toList)|_=>none
 |some _,some d,.str s=>match d.kind with|.string=>some (.str s)|_=>none
 |_,_,_=>none
abbrev cJ:=FuncId->List J->T->Option (J×T)
abbrev xg:=List J->T->Option (J×T)
structure a' where
 D:cN
 eqs:List TypeId
 pD:FuncId->Option xg:=λ_=>none
 ext:FuncId->Option Nat:=λ_=>none
 cond:(Nat->Prop)->World->Prop:=λ_ _=>True
def a'.fC(E:a')(t:TypeId):Bool:=E.eqs.contains t
def cp(s:List J):Operand->J
 |.tmp t=>s.getD t .undef
 |.const v=>mM v
 |.global _=> .undef
 |.func f=> .func (.func f) [] []
def jI:Operand->Bool
 |.const _=>true
 |_=>false
def kp(call:cJ)(f:J)(args:List J)(h:T):Option (J×T) :=
 match f with
 |.func (.func g) first captured=>call g (first++args++captured) h
 |_=>none
def bytesOf:List J->Option (List UInt8)
 |[]=>some []
 |.int .u8 n::r=>(bytesOf r).map λl=>UInt8.ofNat n.toNat::l
 |_=>none
def tR:List J->Bool
 |[]=>true
 |.int .u8 n::r=>decide (0<=n)&&decide (n<256)&&tR r
 |_=>false
def xh(D:cN)(f:TypeId)(p:Option aT)(n:Int)(h:T):Option (J×T) :=
 if n=0 then some (.str [],h)else
 match D f,p with
 |some d,some a =>
  match d.kind,h.get a.id with
  |.ptr e,some b =>
   match D e with
   |some c =>
    if 0<n/\n<=1048576/\a.idx=0/\a.fld=0/\a.es=1/\b.ro=false/\b.ty=some (e,0)/\c.size=1/\n.toNat<=b.b0 a.ab/\n.toNat<=b.aQ.length/\tR (b.aQ.take n.toNat)=true then
     (bytesOf (b.aQ.take n.toNat)).map λs=>(.str s,h.set a.id {b with ro:=true})
    else none
   |none=>none
  |_,_=>none
 |_,_=>none
def xi:J->Option J
 |.slice none _ _=>some (.ptr none)
 |.slice (some a) _ c=>if a.fld=0/\0<c then some (.ptr (some a))else none
 |_=>none
def xj(D:cN)(t:TypeId)(s x:J)(h:T):Option (J×T) :=
 match D t,s,x with
 |some d, .slice (some a) len _,.slice (some c) n _ =>
  match d.kind with
  |.slice e =>
   match D e,h.get c.id,h.get a.id with
   |some b9,some f,some b =>
    if b9.size=1/\0<a.fld/\c.fld=0/\c.es=1/\0<n/\n<=len/\c.idx+n<=f.b0 c.ab/\c.idx+n<=f.aQ.length/\b.ro=false/\a.ab=b.ab then
     match b.aQ[a.idx]? with
     |some (.agg aX) =>
      if a.fld-1+n<=aX.length/\((f.aQ.drop c.idx).take n).all (·.hD)=true then
       some (.int .i64 n,h.set a.id {b with aQ:=b.aQ.set a.idx (.agg (gk aX (a.fld-1) ((f.aQ.drop c.idx).take n))),eb:=b.ab})
      else none
     |_=>none
    else none
   |_,_,_=>none
  |_=>none
 |_,_,_=>none
def eB(E:a')(b:Builtin)(ts:Array TypeId)(args:List J)(nid:Nat)(h:T):Option (J×T) :=
 match b with
 |.len =>
  match args,ts[0]? with
  |[x],some t=>(xf E.D t x).map λv=>(v,h)
  |_,_=>none
 |.append =>
  match args,ts[0]?,ts[1]? with
  |[s,x],some t,some u=>match E.D u with|some a=>(match a.kind with|.slice _=>gz E.D t s x nid h|.string=>gz E.D t s x nid h|_=>none)|none=>none
  |_,_,_=>none
 |.max =>
  match args with
  |x::r=>(mP tP x r).map λv=>(v,h)
  |_=>none
 |.min =>
  match args with
  |x::r=>(mP tQ x r).map λv=>(v,h)
  |_=>none
 |.copy =>
  match args,ts[0]?,ts[1]? with
  |[s,x],some t,some u=>xj E.D t s x h
  |_,_,_=>none
 |.unsafeSliceData =>
  match args with
  |[x]=>(xi x).map λv=>(v,h)
  |_=>none
 |.unsafeString =>
  match args,ts[0]? with
  |[.ptr p,.int .i64 n],some t=>xh E.D t p n h
  |_,_=>none
 |_=>none
def bd(E:a')(call:cJ)(nid:Nat)(ρ:Operand->J)(h:T)(o:Op):Option (J×T) :=
 match o with
 |.move x|.assign x=>some (ρ x,h)
 |.pick c a b=>match ρ c with|.bool t=>some (if t then ρ a else ρ b,h)|_=>none
 |.alloc t =>
  match E.D t with
  |some d=>match d.zero with|some z=>if z.fits d.kind.isAgg d.size&&decide (0<d.size)then some (.ptr (some ⟨nid,0,0,0,d.size⟩),h.set nid (.aj [z] d.size true (some (t,d.size))))else none|none=>none
  |none=>none
 |.box t x =>
  match E.D t with
  |some d=>if(ρ x).fits d.kind.isAgg d.size&&decide (0<d.size)then some (.ptr (some ⟨nid,0,0,0,d.size⟩),h.set nid (.aj [ρ x] d.size true (some (t,d.size))))else none
  |none=>none
 |.build t parts=>(xc E.D t (parts.toList.map λp=>(p.1,ρ p.2))).map λv=>(v,h)
 |.buildSlice t n parts=>k1 E.D t n (parts.toList.map λp=>(p.1,ρ p.2)) nid h
 |.load t a=>match ρ a with|.ptr (some a)=>(a1 E.D t a h).map λv=>(v,h)|_=>none
 |.store t a x=>match ρ a with|.ptr (some a)=>(eA E.D t a (ρ x) h).map λad=>(eN,ad)|_=>none
 |.nilCheck x=>match ρ x with|.ptr (some a)=>some (.ptr (some a),h)|.func (.func g) fs aX=>some (.func (.func g) fs aX,h)|_=>none
 |.binOp op t x y _=>(iV E.D E.fC (jI x || jI y) op t (ρ x) (ρ y)).map λv=>(v,h)
 |.unOp op _ x=>(q6 op (ρ x)).map λv=>(v,h)
 |.convert s d x=>(q8 E.D s d (ρ x)).map λv=>(v,h)
 |.makeFunc (.func g) fs aX=>some (.func (.func g) (fs.toList.map ρ) (aX.toList.map ρ),h)
 |.makeInterface t x=>match E.D t with|some d=>(match d.kind with|.iface _=>none|_=>some (.iface t (ρ x),h))|none=>none
 |.makeSlice t l c=>q7 E.D t (ρ l) (ρ c) nid h
 |.slice t x aD ah mx=>(ec E.D t (ρ x) (aD.map ρ) (ah.map ρ) (mx.map ρ)).map λv=>(v,h)
 |.fieldAddr t x f=>(xd E.D t (ρ x) f).map λv=>(v,h)
 |.field t x f=>(xe E.D t (ρ x) f).map λv=>(v,h)
 |.indexAddr t x i=>(dL E.D t (ρ x) (ρ i)).map λv=>(v,h)
 |.index t x i=>(c8 E.D t (ρ x) (ρ i)).map λv=>(v,h)
 |.extract x i=>match ρ x with|.tuple vs=>(vs[i]?).map λv=>(v,h)|_=>none
 |.call c =>
  match c.callee with
  |.value f=>kp call (ρ f) (c.args.toList.map ρ) h
  |.builtin b=>eB E b c.argTypes (c.args.toList.map ρ) nid h
  |_=>none
 |_=>none
def oh(D:cN)(src dst:TypeId)(x:J)(nid:Nat)(h:T):Option (J×T) :=
 match D src,D dst,x with
 |some i,some g,.str s =>
  match i.kind,g.kind with
  |.string,.slice e =>
   match D e with
   |some d =>
    match d.kind with
    |.int .u8=>some (h5 nid 1 s.length s.length,h.set nid (.aj (s.map λb=> .int .u8 b.toNat) 1 false))
    |_=>none
   |none=>none
  |_,_=>none
 |some i,some g,.slice a n c =>
  match i.kind,g.kind with
  |.slice e,.slice _ =>
   match D e,a with
   |some d,some f =>
    match d.kind,h.get f.id with
    |.int .u8,some b=>if src=dst/\b.ro=false/\f.fld=0/\0<c then some (.slice (some f) n c,h)else none
    |_,_=>none
   |_,_=>none
  |.slice e,.string =>
   match D e with
   |some d =>
    match d.kind with
    |.int .u8 =>
     match dF 1 (.slice a n c) h with
     |some l=>(bytesOf l).map λs=>(.str s,h)
     |none=>none
    |_=>none
   |none=>none
  |_,_=>none
 |_,_,_=>none
def xk(k:Nat)(args:List J):Option J :=
 match args with
 |[.str s,.int .u8 c] =>
  match k with
  |0=>some (.int .i64 (Go.Lib.countByte s c.toNat.toUInt8))
  |1=>some (.int .i64 (Go.Lib.indexByte s c.toNat.toUInt8))
  |_=>none
 |[.str s,.str t]=>if k=2 then some (.int .i64 (Go.Lib.compareBytes s t))else none
 |_=>none
def er(E:a')(nid:Nat)(ρ:Operand->J)(h:T)(o:Op):Option (J×T) :=
 match o with
 |.convert s d x=>oh E.D s d (ρ x) nid h
 |.call c =>
  match c.callee with
  |.value f =>
   match ρ f with
   |.func (.func g) [] [] =>
    match E.ext g with
    |some k=>(xk k (c.args.toList.map ρ)).map λv=>(v,h)
    |none=>none
   |_=>none
  |_=>none
 |_=>none
def gY(E:a')(call:cJ)(nid:Nat)(ρ:Operand->J)(h:T)(o:Op):Option (J×T) :=
 match bd E call nid ρ h o with
 |some r=>some r
 |none=>er E nid ρ h o
structure dM where
 dA:List J
 heap:T
def fJ(s:List J)(dst:Option Tmp)(v:J):List J :=
 match dst with
 |some d=>s.set d v
 |none=>s
def gZ(ops:Array Oper)(s:List J)(o:Oper):Option Bool :=
 match o.guard with
 |none=>some true
 |some (j,want) =>
  match (ops[j]?).bind (·.dst)with
  |some d =>
   match s[d]? with
   |some (.bool b)=>some (b == want)
   |some (.tuple [])=>some false
   |_=>none
  |none=>none
def mR(E:a')(call:cJ)(ops:Array Oper)(a i:Nat)(s:dM):Option dM :=
 match ops[i]? with
 |none=>some s
 |some o =>
  match gZ ops s.dA o with
  |some true =>
   match gY E call (a+i) (cp s.dA) s.heap o.op with
   |some (v,h)=>some ⟨fJ s.dA o.dst v,h⟩
   |none=>none
  |some false=>some ⟨fJ s.dA o.dst eN,s.heap⟩
  |none=>none
def k2(E:a')(call:cJ)(ops:Array Oper)(a:Nat):List Nat->dM->Option dM
 |[],s=>some s
 |i::r,s =>
  match mR E call ops a i s with
  |some b=>k2 E call ops a r b
  |none=>none
inductive bW where
 |normal|exit (id:Nat)|goto (l:Nat)|ret
 deriving DecidableEq
inductive q9 where
 |pure|load|alloc|store|call|fu|other
 deriving DecidableEq
def cA:Op->q9
 |.move _|.assign _|.pick _ _ _|.build _ _|.nilCheck _|.binOp _ _ _ _ _|.unOp _ _ _|.convert _ _ _|.makeFunc _ _ _|.slice _ _ _ _ _
 |.fieldAddr _ _ _|.field _ _ _|.indexAddr _ _ _|.index _ _ _|.extract _ _|.makeInterface _ _=> .pure
 |.load _ _=> .load
 |.store _ _ _=> .store
 |.alloc _|.box _ _|.buildSlice _ _ _|.makeSlice _ _ _=> .alloc
 |.call c =>
  match c.callee with
  |.value _=> .call
  |.builtin .len|.builtin .max|.builtin .min|.builtin .unsafeSliceData=> .pure
  |.builtin .append=> .fu
  |_=> .other
 |_=> .other
def gA(e:Edge):Bool:=Region.binds .any e
def cO(ops:Array Oper):Array Nat :=
 ops.toList.foldl (λacc o=>acc.push (o.after.toList.foldl (λs e=>if gA e then s ||| 2^e.on ||| acc.getD e.on 0 else s) 0)) #[]
def ordered(a:Array Nat)(i j:Nat):Bool:=(a.getD j 0).testBit i
def tmpsOf(xs:List Operand):List Tmp:=xs.filterMap fun|.tmp t=>some t|_=>none
def oi(ops:Array Oper)(o:Oper):List Tmp :=
 tmpsOf o.op.operands.toList++(match o.guard with|some (g,_)=>((ops[g]?).bind (·.dst)).toList|none=> [])
def q'(ops:Array Oper)(x y:Oper):Bool :=
 (match x.dst with|some d=> !(oi ops y).contains d&&!(y.dst == some d)|none=>true) &&
 (match y.dst with|some d=> !(oi ops x).contains d|none=>true)
def xl:q9->q9->Bool
 |.pure,_|_,.pure=>true
 |.load,.load|.load,.alloc|.alloc,.load|.alloc,.alloc|.call,.load|.load,.call|.load,.store|.store,.load|.fu,.alloc|.alloc,.fu=>true
 |_,_=>false
def lQ(ops:Array Oper):Bool :=
 let a:=cO ops
 (List.range ops.size).all λj =>
  match ops[j]? with
  |none=>true
  |some y =>
   (y.after.toList.all λe=> !gA e || decide (e.on<j)) &&
   (List.range j).all λi =>
    ordered a i j ||
    match ops[i]? with
    |none=>true
    |some x=>xl (cA x.op) (cA y.op)&&q' ops x y
mutual
def J.same:J->J->Bool
 |.undef,.undef=>true
 |.bool a,.bool b=>a == b
 |.int k a,.int l b=>decide (k=l)&&a == b
 |.str a,.str b=>a == b
 |.ptr a,.ptr b=>decide (a=b)
 |.slice a n c,.slice b m d=>decide (a=b)&&n == m&&c == d
 |.func f a b,.func g c d=>decide (f=g)&&J.iW a c&&J.iW b d
 |.nilFunc,.nilFunc=>true
 |.iface t a,.iface u b=>t == u&&J.same a b
 |.nilIface,.nilIface=>true
 |.agg a,.agg b=>J.iW a b
 |.tuple a,.tuple b=>J.iW a b
 |_,_=>false
def J.iW:List J->List J->Bool
 |[],[]=>true
 |a::x,b::y=>J.same a b&&J.iW x y
 |_,_=>false
end
def ac.same(a b:ac):Bool :=
 J.iW a.aQ b.aQ&&a.es == b.es&&a.exact == b.exact&&a.ro == b.ro&&a.ab == b.ab&&a.eb == b.eb&&a.eS == b.eS&&a.ty == b.ty
def mS(b0:Nat)(h ad:T):Bool:=aF.km ac.same b0 ad.ay h.ay 0 1
def iX(ops:Array Oper)(a:Array Nat)(j:Nat):Bool :=
 (List.range ops.size).any λi =>
  match ops[i]? with
  |some x=>decide (cA x.op=.load)&&!ordered a i j&&!ordered a j i
  |none=>false
def lR(ops:Array Oper)(a:Array Nat)(j:Nat):Bool :=
 (List.range ops.size).any λi =>
  match ops[i]? with
  |some x=>decide (cA x.op=.store)&&!ordered a i j&&!ordered a j i
  |none=>false
def kq(ρ:Operand->J):Op->Option Nat
 |.store _ x _=>match ρ x with|.ptr (some a)=>some a.id|_=>none
 |_=>none
def hL(ρ:Operand->J):Op->Option Nat
 |.load _ x=>match ρ x with|.ptr (some a)=>some a.id|_=>none
 |_=>none
def fK:J->List Nat
 |.slice (some a) _ _=> [a.id]
 |_=> []
def fX(ρ:Operand->J):Op->List Nat
 |.call c=>(c.args.toList.map ρ).flatMap fK
 |_=> []
def fL:Op->Bool
 |.convert _ _ _=>true
 |_=>false
def im(ops:Array Oper)(j:Nat):Bool :=
 let a:=cO ops
 (List.range ops.size).all λi =>
  (i == j) || ordered a i j || ordered a j i ||
   match ops[i]? with
   |some x=>decide (cA x.op=.pure)&&!(fL x.op)
   |none=>true
def kr(ρ:Operand->J):Op->Option J
 |.convert _ _ x=>match ρ x with|.slice a n c=>some (.slice a n c)|_=>none
 |_=>none
def gl(ops:Array Oper)(a j:Nat)(ρ:Operand->J)(o:Op):Bool :=
 match kr ρ o with
 |some x =>
  ((fK x).all λb=>decide (b<a) || (decide (b<a+ops.size)&&ordered (cO ops) (b-a) j)) &&
  ((List.range ops.size).all λi=>(i == j) || ordered (cO ops) i j || ordered (cO ops) j i ||
    match ops[i]? with
    |some y=>decide (cA y.op=.pure) || decide (cA y.op=.load) || decide (cA y.op=.alloc)
    |none=>true)
 |none=>false
def lS(ops:Array Oper)(a j:Nat)(ids:List Nat):Bool :=
 ids.all λb=>decide (b<a) || (decide (b<a+ops.size)&&ordered (cO ops) (b-a) j) || decide (a+ops.size<=b)
def mT(ops:Array Oper)(j:Nat):Bool :=
 (List.range ops.size).all λi=>(i == j) || ordered (cO ops) i j || ordered (cO ops) j i ||
  match ops[i]? with
  |some y=>decide (cA y.op=.pure) || decide (cA y.op=.load)
  |none=>true
def dU(E:a')(call:cJ)(ops:Array Oper)(a j:Nat)(ρ:Operand->J)(h:T)(o:Op):Option (J×T) :=
 match cA o with
 |.load =>
  match hL ρ o with
  |some b=>if mT ops j=true\/b<a\/(b<a+ops.size/\ordered (cO ops) (b-a) j=true/\lR ops (cO ops) j=false)then bd E call (a+j) ρ h o else none
  |none=>none
 |.store =>
  match kq ρ o with
  |some b=>if iX ops (cO ops) j=true/\b<a then none else bd E call (a+j) ρ h o
  |none=>none
 |.call =>
  match bd E call (a+j) ρ h o with
  |some (v,ad)=>if iX ops (cO ops) j then(if mS (a+ops.size) h ad then some (v,ad)else none)else some (v,ad)
  |none=>none
 |.fu=>if lS ops a j (fX ρ o)=true then bd E call (a+j) ρ h o else none
 |.pure =>
  match bd E call (a+j) ρ h o with
  |some r=>some r
  |none=>if fL o=true/\(im ops j=true\/gl ops a j ρ o=true)then er E (a+j) ρ h o else none
 |_=>bd E call (a+j) ρ h o
def iY(E:a')(call:cJ)(ops:Array Oper)(a i:Nat)(s:dM):Option dM :=
 match ops[i]? with
 |none=>some s
 |some o =>
  match gZ ops s.dA o with
  |some true =>
   match dU E call ops a i (cp s.dA) s.heap o.op with
   |some (v,h)=>some ⟨fJ s.dA o.dst v,h⟩
   |none=>none
  |some false=>some ⟨fJ s.dA o.dst eN,s.heap⟩
  |none=>none
def hl(E:a')(call:cJ)(ops:Array Oper)(a:Nat):List Nat->dM->Option dM
 |[],s=>some s
 |i::r,s =>
  match iY E call ops a i s with
  |some b=>hl E call ops a r b
  |none=>none
def oj(E:a')(call:cJ)(ops:Array Oper)(draw:Bool)(s:dM):Option dM :=
 if draw then
  (if lQ ops then hl E call ops s.heap.Y (List.range ops.size) ⟨s.dA,{s.heap with Y:=s.heap.Y+ops.size}⟩else none)
 else k2 E call ops s.heap.Y (List.range ops.size) ⟨s.dA,{s.heap with Y:=s.heap.Y+ops.size}⟩
def dD(E:a')(call:cJ):Nat->Option Code->Code->dM->Option (bW×dM)
 |0,_,_,_=>none
 |n +1,some body,c,s =>
  match dD E call n none c s with
  |some (.goto l,d) =>
   match findLabel body l with
   |some rest=>dD E call n (some body) rest d
   |none=>some (.goto l,d)
  |r=>r
 |n +1,none,c,s =>
  match c with
  |.skip=>some (.normal,s)
  |.label _=>some (.normal,s)
  |.region _ ops draw=>(oj E call ops draw s).map λd=>(.normal,d)
  |.seq a b =>
   match dD E call n none a s with
   |some (.normal,d)=>dD E call n none b d
   |r=>r
  |.cond x a b =>
   match cp s.dA x with
   |.bool true=>dD E call n none a s
   |.bool false=>dD E call n none b s
   |_=>none
  |.block id c =>
   match dD E call n none c s with
   |some (.exit j,d)=>some (if j=id then .normal else .exit j,d)
   |r=>r
  |.loop c =>
   match dD E call n none c s with
   |some (.normal,d)=>dD E call n none (.loop c) d
   |r=>r
  |.scope c=>dD E call n (some c) c s
  |.goto l=>some (.goto l,s)
  |.exit id=>some (.exit id,s)
  |.ret=>some (.ret,s)
  |_=>none
def g'(D:cN)(cW:List ResultVar)(s:dM):Option (List J) :=
 match cW with
 |[]=>some []
 |.tmp t::r=>(g' D r s).map λl=>s.dA.getD t .undef::l
 |.cell a t::r =>
  match s.dA.getD a .undef with
  |.ptr (some p) =>
   match a1 D t p s.heap,g' D r s with
   |some v,some l=>some (v::l)
   |_,_=>none
  |_=>none
def jJ:List J->J
 |[v]=>v
 |l=> .tuple l
def iZ(P:Program)(E:a'):Nat->cJ
 |0,_,_,_=>none
 |n + 1,f,args,h =>
  match E.pD f with
  |some g=>g args h
  |none =>
  match P.funcs[f]? with
  |some fn =>
   match fn.body with
   |some c =>
    match dD E (iZ P E n) n none c ⟨args++List.replicate (fn.ntmps-args.length) eN,h⟩with
    |some (.exit _,_)=>none
    |some (.goto _,_)=>none
    |some (_,s)=>(g' E.D fn.results.toList s).map λl=>(jJ l,s.heap)
    |none=>none
   |none=>none
  |none=>none
end
noncomputable section
structure Place where
 bH:Nat
 off:Nat
 aD:Nat
 es:Nat
 dY:Nat
 exact:Bool
 ro:Bool
abbrev Map:=Nat->Nat->Option Place
def Map.le(φ cc:Map):Prop:= ∀i v p,φ i v=some p->cc i v=some p
theorem Map.le_refl(φ:Map):φ.le φ:=λ_ _ _ h=>h
theorem Map.le_trans{φ cc a:Map}(h:φ.le cc)(k:cc.le a):φ.le a:=λi v p e=>k i v p (h i v p e)
def Place.at(p:Place)(idx fld:Nat):Addr:=⟨p.bH,p.off+(idx-p.aD)*p.es+fld,none⟩
def pE(φ:Map)(a:aT)(x:Addr):Prop :=
 ∃p,φ a.id a.ab=some p/\a.es=p.es/\p.aD<=a.idx/\x=p.at a.idx a.fld
def ra(φ:Map)(a:aT)(x:Addr)(cap b:Nat):Prop :=
 ∃p,φ a.id a.ab=some p/\a.es=p.es/\(b=0\/(p.aD<=a.idx/\x=p.at a.idx 0/\(a.idx-p.aD)+b<=p.dY))/\(p.exact=true->b=cap)
def pF(φ:Map)(a:aT)(x:Addr)(cap b:Nat):Prop :=
 (a.fld=0/\ra φ a x cap b)\/(∃f,a.fld=f+1/\pE φ {a with fld:=f} x)
theorem pF.plain{φ:Map}{a:aT}{x:Addr}{cap b:Nat}(h:pF φ a x cap b)(c:a.fld=0):ra φ a x cap b:=by
 rcases h with h|⟨f,h,_⟩
 .exact h.2
 .omega
mutual
def aB(φ:Map):J->Value->Prop
 |.undef,_=>True
 |.bool b,v=>v=.bool b
 |.int k n,v=>v=.int k n
 |.str s,v=> ∃t:ByteArray,v=.string t/\t.data.toList=s
 |.ptr none,v=>v=.pointer none
 |.ptr (some a),v=> ∃x,v=.pointer (some x)/\pE φ a x
 |.slice none len cap,v=>v=.slice none 0 0/\len=0/\cap=0
 |.slice (some a) len cap,v=> ∃x d,v=.slice (some x) len d/\len<=cap/\cap<=d/\pF φ a x cap d
 |.func fn f c,v=> ∃g e,v=.func fn g e/\bc φ f g.toList/\bc φ c e.toList
 |.nilFunc,v=>v=.nilFunc
 |.iface t a,v=> ∃x,v=.iface t x/\aB φ a x
 |.nilIface,v=>v=.nilIface
 |.agg aX,v=> ∃xs,v=.agg xs/\bc φ aX xs.toList
 |.tuple vs,v=> ∃xs,v=.tuple xs/\bc φ vs xs.toList
def bc(φ:Map):List J->List Value->Prop
 |[],l=>l=[]
 |a::r,l=> ∃v t,l=v::t/\aB φ a v/\bc φ r t
end
theorem pE.mono{φ cc:Map}(h:φ.le cc){a:aT}{x:Addr}(k:pE φ a x):pE cc a x :=
 let ⟨p,e,r⟩:=k;⟨p,h _ _ _ e,r⟩
theorem ra.mono{φ cc:Map}(h:φ.le cc){a:aT}{x:Addr}{c b:Nat}(k:ra φ a x c b):ra cc a x c b:=by obtain⟨p,e,r⟩:=k;exact⟨p,h _ _ _ e,r⟩
theorem pF.mono{φ cc:Map}(h:φ.le cc){a:aT}{x:Addr}{c b:Nat}(k:pF φ a x c b):pF cc a x c b:=by
 rcases k with ⟨aa,h2⟩|⟨f,aa,h2⟩
 .exact .inl ⟨aa,h2.mono h⟩
 .exact .inr ⟨f,aa,h2.mono h⟩
mutual
theorem aB.mono{φ cc:Map}(h:φ.le cc):∀{a:J}{v:Value},aB φ a v->aB cc a v
 |.undef,_,_=>by simp [aB]
 |.bool b,v,k=>by simpa [aB]using k
 |.int _ n,v,k=>by simpa [aB]using k
 |.str s,v,k=>by simpa [aB]using k
 |.ptr none,v,k=>by simpa [aB]using k
 |.ptr (some a),v,k=>by simp only [aB]at k⊢;obtain⟨x,e,r⟩:=k;exact⟨x,e,r.mono h⟩
 |.slice none len cap,v,k=>by simpa [aB]using k
 |.slice (some a) len cap,v,k=>by simp only [aB]at k⊢;obtain⟨x,c,e,i,l2,r⟩:=k;exact⟨x,c,e,i,l2,r.mono h⟩
 |.func fn f c,v,k=>by simp only [aB]at k⊢;obtain⟨g,d,e,j,l⟩:=k;exact⟨g,d,e,bc.mono h j,bc.mono h l⟩
 |.nilFunc,v,k=>by simpa [aB]using k
 |.iface t a,v,k=>by simp only [aB]at k⊢;obtain⟨x,e,r⟩:=k;exact⟨x,e,aB.mono h r⟩
 |.nilIface,v,k=>by simpa [aB]using k
 |.agg aX,v,k=>by simp only [aB]at k⊢;obtain⟨x,e,r⟩:=k;exact⟨x,e,bc.mono h r⟩
 |.tuple aX,v,k=>by simp only [aB]at k⊢;obtain⟨x,e,r⟩:=k;exact⟨x,e,bc.mono h r⟩
theorem bc.mono{φ cc:Map}(h:φ.le cc):∀{l:List J}{t:List Value},bc φ l t->bc cc l t
 |[],t,k=>by simpa [bc]using k
 |a::r,t,k=>by simp only [bc]at k⊢;obtain⟨v,d,e,b,c⟩:=k;exact⟨v,d,e,aB.mono h b,bc.mono h c⟩
end
theorem bc.length{φ:Map} :∀{l:List J}{t:List Value},bc φ l t->t.length=l.length
 |[],t,k=>by simp only [bc]at k;simp [k]
 |a::r,t,k=>by simp only [bc]at k;obtain⟨v,d,e,c,b⟩:=k;simp [e,bc.length b]
theorem bc.get{φ:Map} :∀{l:List J}{t:List Value}{i:Nat}{a:J},bc φ l t->l[i]? =some a-> ∃v,t[i]? =some v/\aB φ a v
 |[],t,i,a,k,h=>by simp at h
 |b::r,t,i,a,k,h=>by
  simp only [bc]at k;obtain⟨v,g,e,c,d⟩:=k;subst e;cases i with
  |zero=>simp at h;subst h;exact⟨v,an,c⟩
  |succ i=>simp at h;obtain⟨u,hu,f⟩:=bc.get d h;exact⟨u,by simpa using hu,f⟩
theorem bc.dG{φ:Map} :∀{l:List J}{t:List Value},t.length=l.length->(∀(i:Nat)(a:J)(v:Value),l[i]? =some a->t[i]? =some v->aB φ a v)->bc φ l t
 |[],t,b,h=>by simp at b;simp [bc,b]
 |a::r,[],b,h=>by simp at b
 |a::r,v::t,b,h=>by simp only [bc];refine⟨v,t,rfl,h 0 a v an an,bc.dG (by simpa using b) λi bK e c d=>h (i+1) bK e (by simpa using c) (by simpa using d)⟩
theorem bc.append{φ:Map}{l m:List J}{t u:List Value}(h:bc φ l t)(k:bc φ m u):bc φ (l++m) (t++u):=by
 induction l generalizing t with
 |nil=>simp only [bc]at h;simpa [h]using k
 |cons a r ih =>
  simp only [bc]at h;obtain⟨v,d,e,b,c⟩:=h;simp only [hA,bc];exact⟨v,d++u,by simp [e],b,ih c⟩
theorem bc.set{φ:Map}{l:List J}{t:List Value}(h:bc φ l t)(i:Nat){a:J}{v:Value}(k:aB φ a v):bc φ (l.set i a) (t.set i v):=by
 refine bc.dG (by simp [h.length]) λj b u c hu=> ?_
 by_cases e:i=j
 .subst e
  have ah:i<l.length:=by have:=(dT.1 c).1;simpa using this
  rw [qU (by simpa using ah)]at c;rw [qU (by rw [h.length];exact ah)]at hu;simp at c hu;subst c hu;exact k
 .rw [ph e]at c hu;obtain⟨x,d,rx⟩:=h.get c;rw [hu]at d;simp at d;subst d;exact rx
theorem bc.drop{φ:Map}{l:List J}{t:List Value}(h:bc φ l t)(n:Nat):bc φ (l.drop n) (t.drop n):=by
 refine bc.dG (by simp [h.length]) λj b u c hu=> ?_
 rw [n7]at c hu;obtain⟨x,a,rx⟩:=h.get c;rw [hu]at a;simp at a;subst a;exact rx
theorem bc.take{φ:Map}{l:List J}{t:List Value}(h:bc φ l t)(n:Nat):bc φ (l.take n) (t.take n):=by
 refine bc.dG (by simp [h.length]) λj b u a hu=> ?_
 rw [lH]at a hu;split at a
 .rename_i d;rw [aE d]at hu;obtain⟨x,c,rx⟩:=h.get a;rw [hu]at c;simp at c;subst c;exact rx
 .simp at a
theorem bc.map{φ:Map}{α:Type}(l:List α)(f:α->J)(g:α->Value)(h:∀x∈l,aB φ (f x) (g x)):bc φ (l.map f) (l.map g):=by
 induction l with
 |nil=>simp [bc]
 |cons x r ih =>
  simp only [eF,bc];exact⟨_,_,rfl,h x an,ih λy a=>h y (by simp [a])⟩
theorem bc.getD{φ:Map}{l:List J}{t:List Value}(h:bc φ l t)(i:Nat):aB φ (l.getD i .undef) (t.getD i undef):=by
 by_cases ah:i<l.length
 .obtain⟨v,b,c⟩:=h.get (i:=i) (a:=l[i]) (c7 ah);rw [gf,gf,c7 ah,b];simpa using c
 .rw [gf,hV V];simp [aB]
theorem aB.eN(φ:Map):aB φ eN undef:=by simp only [aB];exact⟨#[],rfl,by simp [bc]⟩
theorem bc.replicate{φ:Map}{a:J}{v:Value}(h:aB φ a v)(n:Nat):bc φ (List.replicate n a) (List.replicate n v):=by
 induction n with
 |zero=>simp [bc]
 |succ n ih=>simp only [List.replicate_succ,bc];exact⟨_,_,rfl,h,ih⟩
theorem xm(φ:Map)(v:Value):aB φ (pA v) v:=by unfold pA;split<;>simp [aB]
theorem Bp(φ:Map)(v:Value):aB φ (mM v) v:=by
 unfold mM;split
 .rename_i aX;simp only [aB];refine⟨aX,rfl,?_⟩;have:=bc.map (φ:=φ) aX.toList pA id (λx _=>xm φ x);simpa using this
 .simp only [aB];exact⟨_,rfl,xm φ _⟩
 .exact xm φ v
theorem aB.cells{φ:Map}{a:J}{v:Value}(h:aB φ a v)(hu:a≠ .undef):bc φ a.cells v.cells.toList:=by
 cases a with
 |undef=>exact absurd rfl hu
 |agg aX=>simp only [aB]at h;obtain⟨xs,rfl,r⟩:=h;simpa [J.cells,Value.cells]using r
 |bool b=>have ad:=h;simp only [aB]at h;subst h;simp only [J.cells,Value.cells,bc];exact⟨_,_,rfl,ad,rfl⟩
 |int k n=>have ad:=h;simp only [aB]at h;subst h;simp only [J.cells,Value.cells,bc];exact⟨_,_,rfl,ad,rfl⟩
 |str s=>have ad:=h;simp only [aB]at h;obtain⟨t,rfl,e⟩:=h;simp only [J.cells,Value.cells,bc];exact⟨_,_,rfl,ad,rfl⟩
 |ptr o =>
  have ad:=h;cases o with
  |none=>simp only [aB]at h;subst h;simp only [J.cells,Value.cells,bc];exact⟨_,_,rfl,ad,rfl⟩
  |some x=>simp only [aB]at h;obtain⟨t,rfl,e⟩:=h;simp only [J.cells,Value.cells,bc];exact⟨_,_,rfl,ad,rfl⟩
 |slice o l c =>
  have ad:=h;cases o with
  |none=>simp only [aB]at h;obtain⟨rfl,_⟩:=h;simp only [J.cells,Value.cells,bc];exact⟨_,_,rfl,ad,rfl⟩
  |some x=>simp only [aB]at h;obtain⟨t,d,rfl,e⟩:=h;simp only [J.cells,Value.cells,bc];exact⟨_,_,rfl,ad,rfl⟩
 |func fn f c=>have ad:=h;simp only [aB]at h;obtain⟨t,d,rfl,e⟩:=h;simp only [J.cells,Value.cells,bc];exact⟨_,_,rfl,ad,rfl⟩
 |nilFunc=>have ad:=h;simp only [aB]at h;subst h;simp only [J.cells,Value.cells,bc];exact⟨_,_,rfl,ad,rfl⟩
 |iface t x=>have ad:=h;simp only [aB]at h;obtain⟨t,rfl,e⟩:=h;simp only [J.cells,Value.cells,bc];exact⟨_,_,rfl,ad,rfl⟩
 |nilIface=>have ad:=h;simp only [aB]at h;subst h;simp only [J.cells,Value.cells,bc];exact⟨_,_,rfl,ad,rfl⟩
 |tuple vs=>have ad:=h;simp only [aB]at h;obtain⟨t,rfl,e⟩:=h;simp only [J.cells,Value.cells,bc];exact⟨_,_,rfl,ad,rfl⟩
structure Safe(S:Nat->Prop)(w aZ:World):Prop where
 os:aZ.os=w.os
 tape:aZ.tape=w.tape
 output:aZ.output=w.output
 size:w.heap.size<=aZ.heap.size
 block:∀k,S k->aZ.heap[k]? =w.heap[k]?
def dN(S:Nat->Prop)(n:Nat):Prop:= ∀k,S k->k<n
theorem dN.le{S:Nat->Prop}{n m:Nat}(h:dN S n)(k:n<=m):dN S m:=λi ah=>iN (h i ah) k
theorem dN.no{S:Nat->Prop}{n:Nat}(h:dN S n):¬S n:=λk=>Nat.lt_irrefl _ (h n k)
theorem Safe.refl(S:Nat->Prop)(w:World):Safe S w w:=⟨rfl,rfl,rfl,Nat.le_refl _,λ_ _=>rfl⟩
theorem Safe.trans{S:Nat->Prop}{a b c:World}(h:Safe S a b)(k:Safe S b c):Safe S a c :=
 ⟨k.os.trans h.os,k.tape.trans h.tape,k.output.trans h.output,Nat.le_trans h.size k.size,λi ah=>(k.block i ah).trans (h.block i ah)⟩
theorem Safe.less{S a:Nat->Prop}{w aZ:World}(h:Safe S w aZ)(k:∀i,a i->S i):Safe a w aZ:=⟨h.os,h.tape,h.output,h.size,λi ah=>h.block i (k i ah)⟩
theorem Safe.drew{S:Nat->Prop}{a w:World}(h:Safe S a w):Safe S a w.drew:=⟨h.os,h.tape,h.output,h.size,h.block⟩
theorem Safe.alloc{S:Nat->Prop}{a w:World}(h:Safe S a w)(b:dN S w.heap.size)(o:Obj):Safe S a (w.alloc o) :=
 h.trans ⟨rfl,rfl,rfl,an,λk c=>Go.RowKit.Below.heap_alloc _ _ _ (b k c)⟩
theorem Safe.setCell{S:Nat->Prop}{a w:World}(h:Safe S a w){p:Addr}(ae:¬S p.block)(u:Value):Safe S a (w.setCell p u) :=
 h.trans ⟨rfl,rfl,rfl,by simp [World.setCell],λk b=>Go.RowKit.Below.heap_setCell _ _ _ _ (λe=>ae (e▸b))⟩
theorem Safe.below{n:Nat}{w aZ:World}(h:Safe (λk=>k<n) w aZ):Go.RowKit.Below n w aZ:=⟨h.os,h.tape,h.output,h.size,h.block⟩
def ed(w:World)(b:Nat):Option (TypeId×Nat×Nat×Nat) :=
 match w.heap[b]? with
 |some (.cells c t (aD,ah))=>some (t,c.size,aD,ah)
 |_=>none
def h6(w:World)(b:Nat):Prop:= ∃t n aD ah,ed w b=some (t,n,aD,ah)/\(aD=ah\/n<=aD)
theorem h6.of_eq{w aZ:World}{b:Nat}(h:h6 w b)(e:ed aZ b=ed w b):h6 aZ b:=by unfold h6;rw [e];exact h
theorem ol{w aZ:World}{b:Nat}(e:aZ.heap[b]? =w.heap[b]?):ed aZ b=ed w b:=by unfold ed;rw [e]
structure Row(φ:Map)(aM:Nat->Prop)(b:ac)(v:Nat)(p:Place)(w:World):Prop where
 bH:p.bH<w.heap.size
 base:p.ro=false-> ¬aM p.bH
 cells:∀o,o<p.dY*p.es->(w.cell? ⟨p.bH,p.off+o,none⟩).isSome=true
 free:b.ro=false-> ∀o,o<p.dY*p.es->w.frozen? ⟨p.bH,p.off+o,none⟩=false
 mark:b.ro=false->h6 w p.bH
 ha:∀q,b.ty=some q-> ∃n aD ah,ed w p.bH=some (q.1,n,aD,ah)/\(q.2≠0->n=q.2)/\p.off=0
 cont:∀i e,p.aD<=i->i<b.b0 v->b.aQ[i]? =some e ->
  e.cells.length=p.es/\i-p.aD<p.dY/\∀j bt,e.cells[j]? =some bt-> ∃x,w.cell? (p.at i j)=some x/\aB φ bt x/\x.oneCell'=true
structure cg(φ:Map)(aM:Nat->Prop)(h:T)(w:World):Prop where
 cI:∀i v p,φ i v=some p->i<h.Y/\∃b,h.get i=some b/\v<=b.ab/\p.es=b.es/\p.exact=b.exact/\(b.ro=false->p.ro=false)/\0<p.es/\Row φ aM b v p w
 apart:∀i v p j u q,φ i v=some p->φ j u=some q->p.bH=q.bH->i≠j->p.ro=true/\q.ro=true
 same:∀i v p u q,φ i v=some p->φ i u=some q->p.bH=q.bH->p.off=q.off/\p.aD=q.aD
structure fv(φ cc:Map)(n nid:Nat):Prop where
 le:φ.le cc
 new:∀i,i<n->i≠nid->(∀v,φ i v=none)-> ∀v,cc i v=none
 ro:∀i v p,cc i v=some p->p.ro=true->φ i v=some p
theorem fv.refl(φ:Map)(n nid:Nat):fv φ φ n nid:=⟨φ.le_refl,λ_ _ _ h=>h,λ_ _ _ h _=>h⟩
structure dH(φ cc:Map)(n:Nat):Prop where
 le:φ.le cc
 new:∀i,i<n->(∀u,φ i u=none)-> ∀u,cc i u=none
 ro:∀i v p,cc i v=some p->p.ro=true->φ i v=some p
theorem dH.refl(φ:Map)(n:Nat):dH φ φ n:=⟨φ.le_refl,λ_ _ h=>h,λ_ _ _ h _=>h⟩
theorem dH.trans{φ cc b:Map}{n:Nat}(h:dH φ cc n)(k:dH cc b n):dH φ b n:=⟨Map.le_trans h.le k.le,λi ah az=>k.new i ah (h.new i ah az),λi v p ae a=>h.ro i v p (k.ro i v p ae a) a⟩
theorem dH.mono{φ cc:Map}{n m:Nat}(h:dH φ cc n)(hm:m<=n):dH φ cc m:=⟨h.le,λi ah az=>h.new i V az,h.ro⟩
theorem T.h4(h:T)(id:Nat)(b:ac)(j:Nat):(h.set id b).get j=if id=j then some b else h.get j:=aF.h4 b h.ay id j
@[simp] theorem T.IQ(h:T)(id:Nat)(b:ac) : (h.set id b).Y = h.Y := rfl
theorem T.eT(h:T)(id:Nat)(b:ac):(h.set id b).get id=some b:=by simp [T.h4]
theorem T.eO(h:T){id j:Nat}(b:ac)(e:id≠j):(h.set id b).get j=h.get j:=by simp [T.h4,e]
@[simp] theorem T.TV(h:T)(n j:Nat) : ({ h with Y := n } : T).get j = h.get j := rfl
theorem ac.Bq(l:List J)(es:Nat)(e:Bool)(ty:Option (TypeId×Nat))(v:Nat):(ac.aj l es e ty).b0 v=if v=0 then l.length else 0:=by
 by_cases a:v=0
 .subst a;simp [ac.b0,ac.aj]
 .simp [ac.b0,ac.aj,a]
structure Alike(w aZ:World):Prop where
 size:w.heap.size<=aZ.heap.size
 cell:∀a,a.block<w.heap.size->aZ.cell? a=w.cell? a
 frozen:∀a,a.block<w.heap.size->aZ.frozen? a=w.frozen? a
 mark:∀b,b<w.heap.size->ed aZ b=ed w b
theorem Row.alike{φ:Map}{aM:Nat->Prop}{b:ac}{v:Nat}{p:Place}{w aZ:World}(r:Row φ aM b v p w)(k:Alike w aZ):Row φ aM b v p aZ where
 bH:=iN r.bH k.size
 base:=r.base
 cells o a:=by rw [k.cell _ r.bH];exact r.cells o a
 free c o a:=by rw [k.frozen _ r.bH];exact r.free c o a
 mark c:=(r.mark c).of_eq (k.mark _ r.bH)
 ha t l:=by rw [k.mark _ r.bH];exact r.ha t l
 cont i e aa h2 d:=by obtain⟨f,g,h⟩:=r.cont i e aa h2 d;refine⟨f,g,λj bt m=> ?_⟩;obtain⟨x,n,q⟩:=h j bt m;exact⟨x,by rw [k.cell _ (by exact r.bH)];exact n,q⟩
theorem Row.mono{φ cc:Map}(h:φ.le cc){aM:Nat->Prop}{b:ac}{v:Nat}{p:Place}{w:World}(r:Row φ aM b v p w):Row cc aM b v p w :=
 ⟨r.bH,r.base,r.cells,r.free,r.mark,r.ha,λi e aa h2 c=>by
  obtain⟨d,f,g⟩:=r.cont i e aa h2 c;refine⟨d,f,λj bt k=> ?_⟩;obtain⟨x,l,a⟩:=g j bt k
  exact⟨x,l,a.1.mono h,a.2⟩⟩
theorem cg.alike{φ:Map}{aM:Nat->Prop}{h:T}{w aZ:World}(r:cg φ aM h w)(k:Alike w aZ):cg φ aM h aZ where
 cI i v p ae:=by obtain⟨aa,b,h2,a,c,d,e,f,g⟩:=r.cI i v p ae;exact⟨aa,b,h2,a,c,d,e,f,g.alike k⟩
 apart:=r.apart
 same:=r.same
theorem cg.Y{φ:Map}{aM:Nat->Prop}{h:T}{w:World}(r:cg φ aM h w){n:Nat}(az:h.Y<=n):cg φ aM {h with Y:=n} w where
 cI i v p ae:=by obtain⟨aa,b,h2,a,c,d,e,f,g⟩:=r.cI i v p ae;exact⟨iN aa az,b,h2,a,c,d,e,f,g⟩
 apart:=r.apart
 same:=r.same
theorem Alike.drew(w:World)(n:Nat):Alike w {w with drawn:=n} :=⟨Nat.le_refl _,λ_ _=>rfl,λ_ _=>rfl,λ_ _=>rfl⟩
theorem heap_alloc(w:World)(o:Obj):(w.alloc o).heap=w.heap.push o:=rfl
theorem size_alloc(w:World)(o:Obj):(w.alloc o).heap.size=w.heap.size+1:=by rw [heap_alloc];simp
theorem Alike.alloc(w:World)(o:Obj):Alike w (w.alloc o) where
 size:=by rw [size_alloc];omega
 cell a c:=by
  have:(w.heap.push o)[a.block]? =w.heap[a.block]? :=by rw [qV];simp;omega
  simp only [World.cell?,heap_alloc,this]
 frozen a c:=by
  have:(w.heap.push o)[a.block]? =w.heap[a.block]? :=by rw [qV];simp;omega
  simp only [World.frozen?,heap_alloc,this]
 mark b d:=ol (by rw [heap_alloc,qV];simp;omega)
def Map.add(φ:Map)(id v:Nat)(p:Place):Map:=λi u=>if i=id/\u=v then some p else φ i u
theorem Map.tS(φ:Map)(id v:Nat)(p:Place):φ.add id v p id v=some p:=by simp [Map.add]
theorem Map.om(φ:Map){id v:Nat}(p:Place)(h:φ id v=none):φ.le (φ.add id v p):=by
 intro i u q a;simp only [Map.add];split
 .rename_i e;obtain⟨rfl,rfl⟩:=e;rw [h]at a;cases a
 .exact a
theorem Map.xn(φ:Map){id v:Nat}(p:Place)(c:p.ro=false):∀i u q,(φ.add id v p) i u=some q->q.ro=true->φ i u=some q:=by
 intro i u q a b;unfold Map.add at a;split at a
 .simp only [a6]at a;subst a;rw [c]at b;cases b
 .exact a
theorem fv.add(φ:Map){id v:Nat}(p:Place)(h:φ id v=none)(n:Nat)(b:p.ro=false:=by rfl):fv φ (φ.add id v p) n id where
 le:=φ.om p h
 new i ah a az u:=by simp [Map.add,a,az u]
 ro:=φ.xn p b
def flat(l:List J):List J:=l.flatMap J.cells
theorem k3{es:Nat} :∀{l:List J}(b:∀e∈l,e.cells.length=es){i j:Nat}{e x:J},l[i]? =some e->e.cells[j]? =some x->(flat l)[i*es+j]? =some x
 |[],b,i,j,e,x,h,k=>by simp at h
 |a ::r,b,i,j,e,x,h,k=>by
  have c:a.cells.length=es:=b a an;cases i with
  |zero =>
   simp at h;subst h;simp only [flat,kW,Nat.zero_mul,eM];rw [hW (dT.1 k).1];exact k
  |succ i =>
   simp at h;have ih:=k3 (l:=r) (λe he=>b e (by simp [he])) h k;simp only [flat,kW]at ih⊢;rw [hX (by rw [c,pi];omega),c,show(i+1)*es+j-es=i*es+j by rw [pi];omega];exact ih
theorem io{es:Nat} :∀{l:List J}(b:∀e∈l,e.cells.length=es),(flat l).length=l.length*es
 |[],_=>by simp [flat]
 |a::r,b=>by have c:a.cells.length=es:=b a an;have ih:=io (l:=r) (λe he=>b e (by simp [he]));simp only [flat,kW,dt,b']at ih⊢;rw [ih,c,pi];omega
theorem pG(w:World)(c:Array Value)(t:TypeId)(f:Nat×Nat)(o:Nat):(w.alloc (.cells c t f)).cell? ⟨w.heap.size,o,none⟩=c[o]? :=by simp [World.cell?,heap_alloc]
theorem Br(w:World)(c:Array Value)(t:TypeId)(o:Nat):(w.alloc (.cells c t)).frozen? ⟨w.heap.size,o,none⟩=false:=by simp [World.frozen?,heap_alloc]
theorem cg.aj{φ:Map}{aM:Nat->Prop}{h:T}{w:World}(r:cg φ aM h w){nid:Nat}(hid:∀v,φ nid v=none)(az:nid<h.Y)(G:dN aM w.heap.size)
 {l:List J} {es:Nat} (H:0<es) (n:∀e∈l,e.cells.length=es) {c:Array Value} {t:TypeId} {dY:Nat} {ex:Bool}
 (al:bc φ (flat l) (c.toList.take (l.length*es))) (O:dY*es<=c.size) (P:l.length<=dY) (L:∀x∈c.toList.take (l.length*es),x.oneCell'=true) {ty:Option (TypeId×Nat)} (z:∀q,ty=some q->q.1=t/\(q.2≠0->c.size=q.2)) :
 cg (φ.add nid 0 ⟨w.heap.size,0,0,es,dY,ex,false⟩) aM (h.set nid (.aj l es ex ty)) (w.alloc (.cells c t)):=by
 have hle:=φ.om (id:=nid) (v:=0) ⟨w.heap.size,0,0,es,dY,ex,false⟩ (hid 0);constructor
 .intro i v p ae;simp only [Map.add]at ae;split at ae
  .rename_i e;obtain⟨rfl,rfl⟩:=e;simp at ae;subst ae;refine⟨az,.aj l es ex ty,T.eT _ _ _,Nat.le_refl _,rfl,rfl,λ_=>rfl,H,?_⟩;constructor
   .rw [size_alloc];simp
   .intro _;exact G.no
   .intro o s;simp only at s⊢;rw [pG,eM,jD V];rfl
   .intro _ o s;exact Br _ _ _ _
   .intro _;exact⟨t,c.size,0,0,by simp [ed,heap_alloc],.inl rfl⟩
   .intro A y;exact⟨c.size,0,0,by rw [(z A y).1];simp [ed,heap_alloc],(z A y).2,rfl⟩
   .intro i e _ ah he;rw [ac.Bq]at ah;simp at ah;have k:l[i]? =some e:=he;have hm:e∈l:=fR k;refine⟨n e hm,by simp only;omega,λj bt M=> ?_⟩;have I:=k3 n k M;obtain⟨x,g,N⟩:=al.get I;refine⟨x,?_,N.mono hle,L x (fR g)⟩;simp only [Place.at,n8,eM];rw [pG];rw [lH]at g;split at g
    .simpa using g
    .simp at g
  .obtain⟨aa,b,h2,B,C,D,E,F,d⟩:=r.cI i v p ae;have K:nid≠i:=by intro e;subst e;rw [hid v]at ae;cases ae
   exact⟨aa,b,by rw [T.eO _ _ K];exact h2,B,C,D,E,F,(d.alike (Alike.alloc _ _)).mono hle⟩
 .intro i v p j u q ae a f m;simp only [Map.add]at ae a;split at ae<;>split at a
  .rename_i aI aO;exact absurd (aI.1.trans aO.1.symm) m
  .simp at ae;subst ae;obtain⟨_,b,_,_,_,_,_,_,d⟩:=r.cI j u q a;have:=d.bH;simp only at f;omega
  .simp at a;subst a;obtain⟨_,b,_,_,_,_,_,_,d⟩:=r.cI i v p ae;have:=d.bH;simp only at f;omega
  .exact r.apart i v p j u q ae a f m
 .intro i v p u q ae a f;simp only [Map.add]at ae a;split at ae<;>split at a
  .simp at ae a;subst ae a;exact⟨rfl,rfl⟩
  .simp at ae;subst ae;obtain⟨_,b,_,_,_,_,_,_,d⟩:=r.cI i u q a;have:=d.bH;simp only at f;omega
  .simp at a;subst a;obtain⟨_,b,_,_,_,_,_,_,d⟩:=r.cI i v p ae;have:=d.bH;simp only at f;omega
  .exact r.same i v p u q ae a f
theorem cg.IR{φ:Map}{aM:Nat->Prop}{h:T}{w:World}(r:cg φ aM h w){nid:Nat}(hid:∀v,φ nid v=none)(az:nid<h.Y)(H:dN aM w.heap.size)
 {l:List J} {es:Nat} (I:0<es) (s:∀e∈l,e.cells.length=es) {c:Array Value} {t:TypeId} {b6:Nat×Nat} {dY:Nat} {ex:Bool}
 (al:bc φ (flat l) (c.toList.take (l.length*es))) (P:dY*es<=c.size) (Q:l.length<=dY) (M:∀x∈c.toList.take (l.length*es),x.oneCell'=true) (y:b6.1=b6.2\/c.size<=b6.1) {ty:Option (TypeId×Nat)} (A:∀q,ty=some q->q.1=t/\(q.2≠0->c.size=q.2)) :
 cg (φ.add nid 0 ⟨w.heap.size,0,0,es,dY,ex,false⟩) aM (h.set nid (.aj l es ex ty)) (w.alloc (.cells c t b6)):=by
 have hle:=φ.om (id:=nid) (v:=0) ⟨w.heap.size,0,0,es,dY,ex,false⟩ (hid 0);constructor
 .intro i v p ae;simp only [Map.add]at ae;split at ae
  .rename_i e;obtain⟨rfl,rfl⟩:=e;simp at ae;subst ae;refine⟨az,.aj l es ex ty,T.eT _ _ _,Nat.le_refl _,rfl,rfl,λ_=>rfl,I,?_⟩;constructor
   .rw [size_alloc];simp
   .intro _;exact H.no
   .intro o k;simp only at k⊢;rw [pG,eM,jD V];rfl
   .intro _ o k;simp only at k⊢;rw [eM];simp only [World.frozen?,heap_alloc,Array.getElem?_push_size];obtain⟨f1,f2⟩:=b6;simp only at y⊢;simp;omega
   .intro _;exact⟨t,c.size,b6.1,b6.2,by simp [ed,heap_alloc],y⟩
   .intro B z;exact⟨c.size,b6.1,b6.2,by rw [(A B z).1];simp [ed,heap_alloc],(A B z).2,rfl⟩
   .intro i e _ ah he;rw [ac.Bq]at ah;simp at ah;have m:l[i]? =some e:=he;have hm:e∈l:=fR m;refine⟨s e hm,by simp only;omega,λj bt N=> ?_⟩;have K:=k3 s m N;obtain⟨x,g,O⟩:=al.get K;refine⟨x,?_,O.mono hle,M x (fR g)⟩;simp only [Place.at,n8,eM];rw [pG];rw [lH]at g;split at g
    .simpa using g
    .simp at g
  .obtain⟨aa,b,h2,C,D,E,F,G,d⟩:=r.cI i v p ae;have L:nid≠i:=by intro e;subst e;rw [hid v]at ae;cases ae
   exact⟨aa,b,by rw [T.eO _ _ L];exact h2,C,D,E,F,G,(d.alike (Alike.alloc _ _)).mono hle⟩
 .intro i v p j u q ae a f n;simp only [Map.add]at ae a;split at ae<;>split at a
  .rename_i aI aO;exact absurd (aI.1.trans aO.1.symm) n
  .simp at ae;subst ae;obtain⟨_,b,_,_,_,_,_,_,d⟩:=r.cI j u q a;have:=d.bH;simp only at f;omega
  .simp at a;subst a;obtain⟨_,b,_,_,_,_,_,_,d⟩:=r.cI i v p ae;have:=d.bH;simp only at f;omega
  .exact r.apart i v p j u q ae a f n
 .intro i v p u q ae a f;simp only [Map.add]at ae a;split at ae<;>split at a
  .simp at ae a;subst ae a;exact⟨rfl,rfl⟩
  .simp at ae;subst ae;obtain⟨_,b,_,_,_,_,_,_,d⟩:=r.cI i u q a;have:=d.bH;simp only at f;omega
  .simp at a;subst a;obtain⟨_,b,_,_,_,_,_,_,d⟩:=r.cI i v p ae;have:=d.bH;simp only at f;omega
  .exact r.same i v p u q ae a f
end
noncomputable section
theorem xo:∀(vs l:List J)(i:Nat),(gk l i vs).length=l.length
 |[],l,i=>rfl
 |v::vs,l,i=>by simp [gk,xo vs]
theorem tT:∀(vs l:List J)(i k:Nat),(gk l i vs)[k]? =if i<=k/\k<i+vs.length/\k<l.length then vs[k-i]? else l[k]?
 |[],l,i,k=>by simp only [gk,dx,lI];rw [ap V]
 |v ::vs,l,i,k=>by
  simp only [gk,b'];rw [tT vs (l.set i v) (i+1) k,List.length_set];by_cases a:i=k
  .subst a;rw [ap V];by_cases b:i<l.length
   .rw [aE V,qU b];simp
   .rw [ap V,hV (by simpa using b),hV V]
  .rw [ph a];by_cases h:i+1<=k/\k<i+1+vs.length/\k<l.length
   .rw [aE h,aE V,show k-i=k- (i+1)+1 by omega];simp
   .rw [ap h,ap V]
theorem World.xp(b:Nat):∀(vs:List Value)(o:Nat)(w:World),(w.setCells b o vs).heap.size=w.heap.size
 |[],_,_=>rfl
 |v::r,o,w=>by rw [World.setCells,World.xp b r];exact World.size_setCell _ _ _
theorem Bs(w:World)(a:Addr)(v:Value)(k:Nat):ed (w.setCell a v) k=ed w k:=by
 unfold ed World.setCell;simp only [Array.getElem?_modify];by_cases h:a.block=k
 .subst h;simp only [dy];cases b:w.heap[a.block]? with
  |none=>rfl
  |some o =>
   cases o
   case cells c t f =>
    obtain⟨aD,ah⟩:=f;simp only [ev];split<;>simp
   all_goals rfl
 .rw [ap h]
theorem h6.setCells{w:World}{k:Nat}(h:h6 w k)(b o:Nat):∀(vs:List Value),h6 (w.setCells b o vs) k:=by
 intro vs;induction vs generalizing w o with
 |nil=>exact h
 |cons v r ih=>exact ih (h.of_eq (Bs _ _ _ _)) _
theorem rb{w:World}(k b o:Nat):∀(vs:List Value),ed (w.setCells b o vs) k=ed w k:=by
 intro vs;induction vs generalizing w o with
 |nil=>rfl
 |cons v r ih=>exact(ih _).trans (Bs _ _ _ _)
theorem pH{i j es dY:Nat}(ah:i<dY)(a:j<es):i*es+j<dY*es:=by have h:(i+1)*es<=dY*es:=mF es ah;rw [pi]at h;omega
theorem pI{i k j es:Nat}(ah:i<k)(a:j<es):i*es+j<k*es:=pH ah a
theorem cg.wrote{φ:Map}{aM:Nat->Prop}{h:T}{w:World}(r:cg φ aM h w){id:Nat}{b:ac}{p:Place}(ae:φ id b.ab=some p)(E:h.get id=some b)
 (S:b.ro=false) {l:List J} (G:l.length=b.aQ.length) {o:Nat} {vs:List Value}
 (al:∀i e,p.aD<=i->l[i]? =some e->e.cells.length=p.es/\∀j bt,e.cells[j]? =some bt-> ∃x,(w.setCells p.bH o vs).cell? (p.at i j)=some x/\aB φ bt x/\x.oneCell'=true) :
 cg φ aM (h.set id {b with aQ:=l,eb:=b.ab}) (w.setCells p.bH o vs):=by
 constructor
 .intro i v q t;obtain⟨aa,c,h2,z,A,B,C,D,d⟩:=r.cI i v q t;have H:=World.xp p.bH vs o w;by_cases ah:i=id
  .subst ah;rw [E]at h2;simp at h2;subst h2;refine⟨aa,_,T.eT _ _ _,z,A,B,C,D,⟨by rw [H];exact d.bH,d.base,λn m=>World.isSome_setCells _ _ _ _ _ (d.cells n m),λf n m=>by rw [World.frozen?_setCells];exact d.free f n m,λf=>(d.mark f).setCells _ _ _,λt9 f=>by rw [rb];exact d.ha t9 f,?_⟩⟩;intro k e s g u;simp only [ac.b0]at g;by_cases I:v=b.ab
   .subst I;rw [ae]at t;simp at t;subst t;rw [aE rfl]at g;obtain⟨e',P⟩:∃e',b.aQ[k]? =some e':=⟨_,c7 (by simpa [G]using g)⟩
    have:=d.cont k e' s (by simpa [ac.b0,G]using g) P;exact⟨(al k e s u).1,this.2.1,(al k e s u).2⟩
   .exfalso;rw [ap I]at g;rw [ap V]at g;omega
  .have R:p.bH≠q.bH:=by intro e;have:=r.apart id b.ab p i v q ae t e (λe=>ah e.symm);obtain⟨_,Z,y,_,_,_,N,_,_⟩:=r.cI id b.ab p ae;rw [E]at y;simp at y;subst y;rw [N S]at this;simp at this
   refine⟨aa,c,by rw [T.eO _ _ (λe=>ah e.symm)];exact h2,z,A,B,C,D,?_⟩;have F:∀a:Addr,a.block=q.bH->(w.setCells p.bH o vs).cell? a=w.cell? a:=λa O=>World.cell?_setCells_out _ _ _ _ _ (λQ _=>absurd (Q.symm.trans O) R)
   refine⟨by rw [H];exact d.bH,d.base,λn m=>by rw [F _ rfl];exact d.cells n m,λf n m=>by rw [World.frozen?_setCells];exact d.free f n m,λf=>(d.mark f).setCells _ _ _,λt9 f=>by rw [rb];exact d.ha t9 f,?_⟩;intro k e s g u;obtain⟨K,L,M⟩:=d.cont k e s g u;refine⟨K,L,λj bt U=> ?_⟩;obtain⟨x,W,X⟩:=M j bt U;exact⟨x,by rw [F _ rfl];exact W,X⟩
 .exact r.apart
 .exact r.same
theorem cg.store{φ:Map}{aM:Nat->Prop}{h:T}{w:World}(r:cg φ aM h w){id:Nat}{b:ac}{p:Place}(ae:φ id b.ab=some p)(l:h.get id=some b)
 (y:b.ro=false) {idx fld:Nat} {e e':J} {aX:List J} {vs:List Value} (C:p.aD<=idx) (he:b.aQ[idx]? =some e)
 (o:bc φ aX vs) (D:∀x∈vs,x.oneCell'=true) (M:fld+aX.length<=p.es) (hlen:e'.cells=gk e.cells fld aX) :
 cg φ aM (h.set id {b with aQ:=b.aQ.set idx e',eb:=b.ab}) (w.setCells p.bH (p.off+(idx-p.aD)*p.es+fld) vs)
 /\w.there p.bH (p.off+(idx-p.aD)*p.es+fld) vs.length:=by
 obtain⟨aa,c,h2,G,H,I,K,L,n⟩:=r.cI id b.ab p ae;rw [l]at h2;simp at h2;subst h2;have q:idx<b.aQ.length:=(dT.1 he).1;have v:b.b0 b.ab=b.aQ.length:=by simp [ac.b0]
 obtain⟨cs,c2,c3⟩:=n.cont idx e C (by rw [v];exact q) he;have P:vs.length=aX.length:=o.length
 have z:w.there p.bH (p.off+(idx-p.aD)*p.es+fld) vs.length:=by intro j t;have l:(idx-p.aD)*p.es+(fld+j)<p.dY*p.es:=pH c2 V;have E:=n.cells _ l;have F:=n.free y _ l;have aI:p.off+(idx-p.aD)*p.es+fld+j=p.off+((idx-p.aD)*p.es+(fld+j)):= V;rw [aI];exact⟨E,F⟩
 refine⟨?_,z⟩;refine r.wrote ae l y an λi f ah g=> ?_
 by_cases s:idx=i
 .subst s;rw [qU q]at g;simp at g;subst g;refine⟨by rw [hlen,xo];exact cs,λj bt a=> ?_⟩;rw [hlen,tT]at a;split at a
  .rename_i al;obtain⟨x,d,m⟩:=o.get a;have u:j-fld<vs.length:= V;have:=World.cell?_setCells_in p.bH vs (p.off+(idx-p.aD)*p.es+fld) w (λk B=>(z k B).1) (j-fld) u;refine⟨x,?_,m,D x (fR d)⟩;rw [c7 u]at d;simp at d;rw [Place.at,show p.off+(idx-p.aD)*p.es+j=p.off+(idx-p.aD)*p.es+fld+(j-fld)by omega,this,d]
  .rename_i al;obtain⟨x,d,m⟩:=c3 j bt a;refine⟨x,?_,m⟩;have t:j<e.cells.length:=(dT.1 a).1;rw [World.cell?_setCells_out _ _ _ _ _ (λ_ _=> ?_)]
   .exact d
   .simp only [Place.at];omega
 .rw [ph s]at g;have A:i<b.aQ.length:=(dT.1 g).1;obtain⟨d1,d2,d3⟩:=n.cont i f ah (by rw [v];exact A) g;refine⟨d1,λj bt a=> ?_⟩;obtain⟨x,d,m⟩:=d3 j bt a;refine⟨x,?_,m⟩;have t:j<f.cells.length:=(dT.1 a).1;rw [World.cell?_setCells_out _ _ _ _ _ (λ_ _=> ?_)]
  .exact d
  .simp only [Place.at];rcases gg i idx with O|N
   .left;have:=pI (i:=i-p.aD) (k:=idx-p.aD) (j:=j) (es:=p.es) V V;omega
   .right;have:=pI (i:=idx-p.aD) (k:=i-p.aD) (j:=fld+vs.length-1) (es:=p.es) V V;omega
theorem tU{es:Nat} :∀{l:List J}(b:∀e∈l,e.cells.length=es)(k:Nat),k<(flat l).length-> ∃i j e,k=i*es+j/\l[i]? =some e/\j<es
 |[],b,k,h=>by simp [flat]at h
 |a ::r,b,k,h=>by
  have f:a.cells.length=es:=b a an;by_cases d:k<es
  .exact⟨0,k,a,an,an,d⟩
  .obtain⟨i,j,e,aa,h2,c⟩:=tU (l:=r) (λe he=>b e (by simp [he])) (k-es) (by simp only [flat,kW,dt]at h⊢; omega);exact⟨i+1,j,e,by rw [pi];omega,by simpa using h2,c⟩
theorem cg.IS{φ:Map}{aM:Nat->Prop}{h:T}{w:World}(r:cg φ aM h w){id:Nat}{b:ac}{p:Place}(ae:φ id b.ab=some p)(g:h.get id=some b)
 (y:b.ro=false) {idx:Nat} {l:List J} {vs:List Value} (Q:p.aD<=idx) (D:idx+l.length<=b.aQ.length) (E:l≠[])
 (o:∀e∈l,e.cells.length=p.es) (A:bc φ (flat l) vs) (F:∀x∈vs,x.oneCell'=true) :
 cg φ aM (h.set id (b.put idx l)) (w.setCells p.bH (p.off+(idx-p.aD)*p.es) vs)
 /\w.there p.bH (p.off+(idx-p.aD)*p.es) vs.length:=by
 obtain⟨aa,c,h2,H,I,K,L,M,n⟩:=r.cI id b.ab p ae;rw [g]at h2;simp at h2;subst h2;have u:b.b0 b.ab=b.aQ.length:=by simp [ac.b0]
 have G:vs.length=l.length*p.es:=by rw [A.length,io o]
 have O:0<l.length:=fS.2 E
 have P:idx+l.length-1-p.aD<p.dY:=by have v:idx+l.length-1<b.aQ.length:= V;exact(n.cont (idx+l.length-1) _ V (by rw [u];exact v) (c7 v)).2.1
 have hmul:(idx-p.aD+l.length)*p.es<=p.dY*p.es:=mF _ V;rw [iO]at hmul
 have z:w.there p.bH (p.off+(idx-p.aD)*p.es) vs.length:=by intro j q;have g:(idx-p.aD)*p.es+j<p.dY*p.es:= V;have aI:p.off+(idx-p.aD)*p.es+j=p.off+((idx-p.aD)*p.es+j):= V;rw [aI];exact⟨n.cells _ g,n.free y _ g⟩
 refine⟨?_,z⟩;refine r.wrote ae g y (by simp [xo]) λi f ah a=> ?_
 rw [tT]at a;split at a
 .rename_i al;have hm:f∈l:=fR a;refine⟨o f hm,λj bt m=> ?_⟩;have q:j<p.es:=by rw [<-o f hm];exact(dT.1 m).1
  have ag:=k3 o a m;obtain⟨x,d,s⟩:=A.get ag;refine⟨x,?_,s,F x (fR d)⟩;have t:(i-idx)*p.es+j<vs.length:=by rw [G];exact pH V q
  have:=World.cell?_setCells_in p.bH vs (p.off+(idx-p.aD)*p.es) w (λk C=>(z k C).1) _ t;rw [c7 t]at d;simp at d;have aO:(i-p.aD)*p.es=(idx-p.aD)*p.es+(i-idx)*p.es:=by rw [<-iO];congr 1;omega
  rw [Place.at,show p.off+(i-p.aD)*p.es+j=p.off+(idx-p.aD)*p.es+((i-idx)*p.es+j)by omega,this,d]
 .rename_i al;have B:i<b.aQ.length:=(dT.1 a).1;obtain⟨d1,d2,d3⟩:=n.cont i f ah (by rw [u];exact B) a;refine⟨d1,λj bt m=> ?_⟩;obtain⟨x,d,s⟩:=d3 j bt m;refine⟨x,?_,s⟩;have q:j<f.cells.length:=(dT.1 m).1;rw [World.cell?_setCells_out _ _ _ _ _ (λ_ _=> ?_)]
  .exact d
  .simp only [Place.at];rcases gg i idx with D|N
   .left;have:=pI (i:=i-p.aD) (k:=idx-p.aD) (j:=j) (es:=p.es) V V;omega
   .right;have:=mF p.es (show idx-p.aD+l.length<=i-p.aD by omega);rw [iO]at this;omega
theorem ac.Bt(b:ac)(new:List J)(v:Nat):(b.grow new).b0 v =
 if v=b.ab+1 then b.aQ.length+new.length else if b.eb<=v/\v<b.ab+1 then(if b.eb=b.ab then b.aQ.length else min b.eS b.aQ.length)else 0:=by
 rw [<-dt];rfl
theorem ac.Bu(b:ac)(new:List J)(v:Nat)(h:v<=b.ab):(b.grow new).b0 v<=b.b0 v/\(b.grow new).b0 v<=b.aQ.length:=by rw [ac.Bt];unfold ac.b0;rw [ap V];constructor<;>(repeat' split)<;>omega
theorem ac.Bv(b:ac)(new:List J):(b.grow new).b0 (b.ab+1)=b.aQ.length+new.length:=by rw [ac.Bt,aE rfl]
theorem cg.IT{φ:Map}{aM:Nat->Prop}{h:T}{w:World}(r:cg φ aM h w){id:Nat}{b:ac}{p:Place}(ae:φ id b.ab=some p)(A:h.get id=some b)
 (a3:b.ro=false) (hex:b.exact=false) (R:dN aM w.heap.size) {idx:Nat} {new:List J} (a0:idx<=b.aQ.length)
 (ax:∀e∈b.aQ.drop idx,e.cells.length=b.es) (W:∀e∈new,e.cells.length=b.es)
 {c:Array Value} {t:TypeId} {dY:Nat} (al:bc φ (flat (b.aQ.drop idx++new)) (c.toList.take ((b.aQ.drop idx++new).length*b.es)))
 (a4:dY*b.es<=c.size) (a5:(b.aQ.drop idx++new).length<=dY)
 (Z:∀x∈c.toList.take ((b.aQ.drop idx++new).length*b.es),x.oneCell'=true) (N:∀q,b.ty=some q->q.1=t/\(q.2≠0->c.size=q.2)) :
 cg (φ.add id (b.ab+1) ⟨w.heap.size,0,idx,b.es,dY,false,false⟩) aM (h.set id (b.grow new)) (w.alloc (.cells c t)):=by
 have X:φ id (b.ab+1)=none:=by
  cases a:φ id (b.ab+1)with
  |none=>rfl
  |some q=>obtain⟨_,P,h2,z,_⟩:=r.cI _ _ _ a;rw [A]at h2;simp at h2;subst h2;omega
 have hle:=φ.om (id:=id) (v:=b.ab+1) ⟨w.heap.size,0,idx,b.es,dY,false,false⟩ X;obtain⟨g1,P,g2,g3,g4,g5,g6,g7,g8⟩:=r.cI id b.ab p ae;rw [A]at g2;simp at g2;subst g2;constructor
 .intro i v q a;simp only [Map.add]at a;split at a
  .rename_i e;obtain⟨rfl,rfl⟩:=e;simp at a;subst a;refine⟨g1,b.grow new,T.eT _ _ _,Nat.le_refl _,rfl,hex.symm,λ_=>rfl,by rw [<-g4];exact g7,?_⟩;constructor
   .rw [size_alloc];simp
   .intro _;exact R.no
   .intro o L;simp only at L⊢;rw [pG,eM,jD V];rfl
   .intro _ o L;exact Br _ _ _ _
   .intro _;exact⟨t,c.size,0,0,by simp [ed,heap_alloc],.inl rfl⟩
   .intro O M;exact⟨c.size,0,0,by rw [(N O M).1];simp [ed,heap_alloc],(N O M).2,rfl⟩
   .intro k e y I B;rw [ac.Bv]at I;have hlen:(b.aQ.drop idx++new).length=b.aQ.length-idx+new.length:= an
    have G:∀e∈b.aQ.drop idx++new,e.cells.length=b.es:=λe he=>by
     rcases eG.1 he with he|he
     .exact ax e he
     .exact W e he
    have m:(b.aQ++new)[k]? =some e:=B
    have K:(b.aQ.drop idx++new)[k-idx]? =some e:=by
     simp only at y;by_cases U:k<b.aQ.length
     .rw [hW U]at m;rw [hW (by simp;omega),n7,show idx+(k-idx)=k by omega];exact m
     .rw [hX V]at m;rw [hX (by simp;omega),ep,show k-idx- (b.aQ.length-idx)=k-b.aQ.length by omega];exact m
    have hm:=fR K;refine⟨G e hm,by simp only at y⊢; omega,λj bt am=> ?_⟩;have S:=k3 G K am;obtain⟨x,n,av⟩:=al.get S;refine⟨x,?_,av.mono hle,Z x (fR n)⟩;simp only [Place.at,eM];rw [pG];rw [lH]at n;split at n
    .simpa using n
    .simp at n
  .obtain⟨aa,Q,h2,z,C,D,E,F,f⟩:=r.cI i v q a;by_cases ah:i=id
   .subst ah;rw [A]at h2;simp at h2;subst h2;have g:=(f.alike (Alike.alloc w (.cells c t))).mono hle;have a2:=ac.Bu b new v z;refine⟨aa,b.grow new,T.eT _ _ _,by simp only [ac.grow];omega,C,D,E,F,⟨g.bH,g.base,g.cells,g.free,g.mark,g.ha,λk e y I B=>g.cont k e y V ?_⟩⟩;have m:(b.aQ++new)[k]? =some e:=B
    rwa [hW V]at m
   .exact⟨aa,Q,by rw [T.eO _ _ (λe=>ah e.symm)];exact h2,z,C,D,E,F,(f.alike (Alike.alloc _ _)).mono hle⟩
 .intro i v q j u s a d l H;simp only [Map.add]at a d;split at a<;>split at d
  .rename_i aI aO;exact absurd (aI.1.trans aO.1.symm) H
  .simp at a;subst a;obtain⟨_,_,_,_,_,_,_,_,f⟩:=r.cI j u s d;have:=f.bH;simp only at l;omega
  .simp at d;subst d;obtain⟨_,_,_,_,_,_,_,_,f⟩:=r.cI i v q a;have:=f.bH;simp only at l;omega
  .exact r.apart i v q j u s a d l H
 .intro i v q u s a d l;simp only [Map.add]at a d;split at a<;>split at d
  .simp at a d;subst a d;exact⟨rfl,rfl⟩
  .simp at a;subst a;obtain⟨_,_,_,_,_,_,_,_,f⟩:=r.cI i u s d;have:=f.bH;simp only at l;omega
  .simp at d;subst d;obtain⟨_,_,_,_,_,_,_,_,f⟩:=r.cI i v q a;have:=f.bH;simp only at l;omega
  .exact r.same i v q u s a d l
theorem cg.IU{φ:Map}{aM:Nat->Prop}{h:T}{w:World}(r:cg φ aM h w){id:Nat}{b:ac}{p:Place}(ae:φ id b.ab=some p)(A:h.get id=some b)
 (W:b.ro=false) {new:List J} {vs:List Value} (c4:p.aD<=b.aQ.length) (c0:b.aQ.length-p.aD+new.length<=p.dY)
 (G:∀e∈new,e.cells.length=p.es) (Z:bc φ (flat new) vs) (b2:∀x∈vs,x.oneCell'=true) :
 cg (φ.add id (b.ab+1) p) aM (h.set id (b.grow new)) (w.setCells p.bH (p.off+(b.aQ.length-p.aD)*p.es) vs)
 /\w.there p.bH (p.off+(b.aQ.length-p.aD)*p.es) vs.length:=by
 have bv:φ id (b.ab+1)=none:=by
  cases c:φ id (b.ab+1)with
  |none=>rfl
  |some q=>obtain⟨_,am,h2,H,_⟩:=r.cI _ _ _ c;rw [A]at h2;simp at h2;subst h2;omega
 have hle:=φ.om (id:=id) (v:=b.ab+1) p bv;obtain⟨g1,am,g2,g3,g4,g5,g6,g7,g8⟩:=r.cI id b.ab p ae;rw [A]at g2;simp at g2;subst g2;have c2:vs.length=new.length*p.es:=by rw [Z.length,io G]
 have hmul:(b.aQ.length-p.aD+new.length)*p.es<=p.dY*p.es:=mF _ c0;rw [iO]at hmul
 have X:w.there p.bH (p.off+(b.aQ.length-p.aD)*p.es) vs.length:=by intro j B;have A:(b.aQ.length-p.aD)*p.es+j<p.dY*p.es:= V;have aI:p.off+(b.aQ.length-p.aD)*p.es+j=p.off+((b.aQ.length-p.aD)*p.es+j):= V;rw [aI];exact⟨g8.cells _ A,g8.free W _ A⟩
 refine⟨?_,X⟩;have N:=World.xp p.bH vs (p.off+(b.aQ.length-p.aD)*p.es) w
 have U:∀(q:Place)(k j:Nat),q.bH=p.bH->q.off=p.off->q.aD=p.aD->q.es=p.es->k<b.aQ.length->q.aD<=k->j<q.es ->
  (w.setCells p.bH (p.off+(b.aQ.length-p.aD)*p.es) vs).cell? (q.at k j)=w.cell? (q.at k j):=by
  intro q k j c5 ce co ct y C B;refine World.cell?_setCells_out _ _ _ _ _ (λ_ _=> .inl ?_);simp only [Place.at,ce,co,ct];have:=pI (i:=k-p.aD) (k:=b.aQ.length-p.aD) (j:=j) (es:=p.es) V V;omega
 have a9:b.b0 b.ab=b.aQ.length:=by simp [ac.b0]
 constructor
 .intro i v q c;simp only [Map.add]at c;split at c
  .rename_i e;obtain⟨rfl,rfl⟩:=e;simp at c;subst c;refine⟨g1,b.grow new,T.eT _ _ _,Nat.le_refl _,g4,g5,g6,g7,⟨by rw [N];exact g8.bH,g8.base,λn l=>World.isSome_setCells _ _ _ _ _ (g8.cells n l),λd n l=>by rw [World.frozen?_setCells];exact g8.free d n l,λd=>(g8.mark d).setCells _ _ _,λt9 d=>by rw [rb];exact g8.ha t9 d,?_⟩⟩;intro k e y C D;rw [ac.Bv]at C;have t:(b.aQ++new)[k]? =some e:=D;by_cases M:k<b.aQ.length
   .rw [hW M]at t;obtain⟨d1,d2,d3⟩:=g8.cont k e y (by rw [a9];exact M) t;refine⟨d1,d2,λj bt o=> ?_⟩;obtain⟨x,m,s⟩:=d3 j bt o;have B:j<e.cells.length:=(dT.1 o).1;exact⟨x,by rw [U p k j rfl rfl rfl rfl M y V];exact m,s.1.mono hle,s.2⟩
   .rw [hX V]at t;have hm:=fR t;refine⟨G e hm,V,λj bt o=> ?_⟩;have B:j<p.es:=by rw [<-G e hm];exact(dT.1 o).1
    have ag:=k3 G t o;obtain⟨x,m,s⟩:=Z.get ag;refine⟨x,?_,s.mono hle,b2 x (fR m)⟩;have S:(k-b.aQ.length)*p.es+j<vs.length:=by rw [c2];exact pH (by have:=(dT.1 t).1;omega) B
    have:=World.cell?_setCells_in p.bH vs (p.off+(b.aQ.length-p.aD)*p.es) w (λk a5=>(X k a5).1) _ S;rw [c7 S]at m;simp at m;have aO:(k-p.aD)*p.es=(b.aQ.length-p.aD)*p.es+(k-b.aQ.length)*p.es:=by rw [<-iO];congr 1;omega
    rw [Place.at,show p.off+(k-p.aD)*p.es+j=p.off+(b.aQ.length-p.aD)*p.es+((k-b.aQ.length)*p.es+j)by omega,this,m]
  .obtain⟨aa,av,h2,H,I,O,P,Q,g⟩:=r.cI i v q c;by_cases ah:i=id
   .subst ah;rw [A]at h2;simp at h2;subst h2;have c3:=ac.Bu b new v H;refine⟨aa,b.grow new,T.eT _ _ _,by simp only [ac.grow];omega,I,O,P,Q,⟨by rw [N];exact g.bH,g.base,λn l=>World.isSome_setCells _ _ _ _ _ (g.cells n l),λd n l=>by rw [World.frozen?_setCells];exact g.free d n l,λd=>(g.mark d).setCells _ _ _,λt9 d=>by rw [rb];exact g.ha t9 d,λk e y C D=> ?_⟩⟩;have t:(b.aQ++new)[k]? =some e:=D;rw [hW V]at t;obtain⟨d1,d2,d3⟩:=g.cont k e y V t;refine⟨d1,d2,λj bt o=> ?_⟩;obtain⟨x,m,s⟩:=d3 j bt o;have B:j<e.cells.length:=(dT.1 o).1;refine⟨x,?_,s.1.mono hle,s.2⟩;by_cases K:q.bH=p.bH
    .obtain⟨s1,s2⟩:=r.same i v q b.ab p c ae K;rw [U q k j K s1 s2 (by rw [I,g4]) V y V];exact m
    .rw [World.cell?_setCells_out _ _ _ _ _ (λL _=>absurd L (by simp only [Place.at];exact K))];exact m
   .have bn:p.bH≠q.bH:=by intro e;have:=r.apart id b.ab p i v q ae c e (λe=>ah e.symm);rw [g6 W]at this;simp at this
    have R:∀a:Addr,a.block=q.bH->(w.setCells p.bH (p.off+(b.aQ.length-p.aD)*p.es) vs).cell? a=w.cell? a:=λa a4=>World.cell?_setCells_out _ _ _ _ _ (λL _=>absurd (L.symm.trans a4) bn)
    refine⟨aa,av,by rw [T.eO _ _ (λe=>ah e.symm)];exact h2,H,I,O,P,Q,?_⟩;refine⟨by rw [N];exact g.bH,g.base,λn l=>by rw [R _ rfl];exact g.cells n l,λd n l=>by rw [World.frozen?_setCells];exact g.free d n l,λd=>(g.mark d).setCells _ _ _,λt9 d=>by rw [rb];exact g.ha t9 d,?_⟩;intro k e y C D;obtain⟨a0,a2,a3⟩:=g.cont k e y C D;refine⟨a0,a2,λj bt o=> ?_⟩;obtain⟨x,m,s⟩:=a3 j bt o;exact⟨x,by rw [R _ rfl];exact m,s.1.mono hle,s.2⟩
 .intro i v q j u E c f z F;simp only [Map.add]at c f;split at c<;>split at f
  .rename_i aI aO;exact absurd (aI.1.trans aO.1.symm) F
  .rename_i aI aO;simp at c;subst c;exact r.apart id b.ab p j u E ae f z (by rw [<-aI.1];exact F)
  .rename_i aI aO;simp at f;subst f;exact r.apart i v q id b.ab p c ae z (by rw [<-aO.1];exact F)
  .exact r.apart i v q j u E c f z F
 .intro i v q u E c f z;simp only [Map.add]at c f;split at c<;>split at f
  .simp at c f;subst c f;exact⟨rfl,rfl⟩
  .rename_i aI aO;simp at c;subst c;exact r.same id b.ab p u E ae (by rw [<-aI.1];exact f) z
  .rename_i aI aO;simp at f;subst f;exact r.same id v q b.ab p (by rw [<-aO.1];exact c) ae z
  .exact r.same i v q u E c f z
open Go.RowKit in
theorem rc{B:Nat->Prop}{a:World}(b:Nat)(c:¬B b):∀(vs:List Value)(o:Nat){w:World},Safe B a w->Safe B a (w.setCells b o vs)
 |[],_,_,h=>h
 |v::r,o,w,h=>rc b c r (o+1) (h.setCell (p:=⟨b,o,none⟩) c v)
end
noncomputable section
open Go.RowKit
theorem cN.cx.get{D:cN}{P:Program}(h:D.cx P){t:TypeId}{d:mN}(a:D t=some d) :
 ∃i u,P.info? t=some i/\P.underlying t=some u/\d.kind=fg u/\d.size=i.size/\d.bytes=i.bytes/\d.zero=i.zero.map mM:=by
 have:=h t d a;unfold tN at this;split at this
 .rename_i i u ah hu;simp at this;subst this;exact⟨i,u,ah,hu,rfl,rfl,rfl,rfl⟩
 .cases this
theorem iq{u:TypeDesc}{e:TypeId}(h:fg u=.slice e):u=.slice e:=by cases u<;>simp [fg]at h⊢; exact h
theorem pJ{u:TypeDesc}{n:Nat}{e:TypeId}(h:fg u=.array n e):u=.array n e:=by cases u<;>simp [fg]at h⊢; exact h
theorem mU{u:TypeDesc}(h:fg u=.string):u=.string:=by cases u<;>simp [fg]at h⊢
theorem Bw{u:TypeDesc}(h:fg u=.bool):u=.bool:=by cases u<;>simp [fg]at h⊢
theorem re{u:TypeDesc}{k:IntKind}(h:fg u=.int k):u=.int k:=by cases u<;>simp [fg]at h⊢; exact h
theorem tV{u:TypeDesc}{e:TypeId}(h:fg u=.ptr e):u=.pointer e:=by cases u<;>simp [fg]at h⊢; exact h
theorem xq{u:TypeDesc}(h:fg u=.func):∃a b c,u=.func a b c:=by cases u<;>simp [fg]at h⊢
theorem xr{u:TypeDesc}{o:Bool}(h:fg u=.iface o):∃a,u=.interface a/\o= !a.isEmpty:=by cases u<;>simp [fg]at h⊢; rw [h];simp
theorem tW{u:TypeDesc}{l:List (Nat×TypeId)}(h:fg u=.struct l):∃fs,u=.struct fs/\l=fs.toList.map λf=>(f.offset,f.type):=by cases u<;>simp [fg]at h⊢; exact h.symm
theorem oo{P:Program}{t:TypeId}{u:TypeDesc}(h:P.underlying t=some u)(w:World):(isAgg t).run P w=.ok (fg u).isAgg w:=by unfold isAgg;rw [Sem.run_bind,run_underlying h];cases u<;>rfl
theorem ir{P:Program}{t:TypeId}{i:TypeInfo}(h:P.info? t=some i)(w:World):(sizeOf t).run P w=.ok i.size w:=by simp [sizeOf,typeInfo,h]
theorem IV{P:Program}{t:TypeId}{i:TypeInfo}(h:P.info? t=some i)(w:World):(typeInfo t).run P w=.ok i w:=by simp [typeInfo,h]
theorem rf{P:Program}{t:TypeId}{i:TypeInfo}{z:Value}(h:P.info? t=some i)(a:i.zero=some z)(w:World):(zeroValue t).run P w=.ok z w:=by simp [zeroValue,typeInfo,h,a]
section
variable {P:Program}{φ:Map}
theorem IW{op:BinOp}{k:IntKind}{x y:Int}{v:J}(t:TypeId)(h:hK op k x y=some v)(w:World) :
 ∃a,(binOp op t (.int k x) (.int k y)).run P w=.ok a w/\aB φ v a:=by
 cases op<;>simp only [hK]at h <;>
  first
   |(cases h;done)
   |(split at h<;>first|(cases h;done)|(rename_i b;simp at h;subst h;exact⟨_,by simp [binOp,Op.intDiv,b];rfl,by simp only [aB]⟩))
   |(simp at h;subst h;exact⟨_,by simp [binOp,Op.intArith,Op.intBits,Op.intCmp];rfl,by simp only [aB]⟩)
theorem Bx{op:BinOp}{k k':IntKind}{x y:Int}{v:J}(t:TypeId)(c:op=.shl\/op=.shr)(h:q4 op k x y=some v)(w:World) :
 ∃b,(binOp op t (.int k x) (.int k' y)).run P w=.ok b w/\aB φ v b:=by
 unfold q4 at h;split at h
 .cases h
 .rename_i a;rcases c with rfl|rfl
  .simp at h;subst h;exact⟨_,by simp [binOp,Op.shift,a];rfl,by simp only [aB]⟩
  .simp at h;subst h;exact⟨_,by simp [binOp,Op.shift,a];rfl,by simp only [aB]⟩
theorem IX:IntKind.i64.max=9223372036854775807:=rfl
theorem IY{op:BinOp}{a b:ByteArray}{v:J}(t:TypeId)(h:q5 op a.data.toList b.data.toList=some v)(w:World) :
 ∃c,(binOp op t (.string a) (.string b)).run P w=.ok c w/\aB φ v c:=by
 cases op <;> simp only [q5]at h <;>
  first
   |(cases h;done)
   |(split at h<;>first
    |(cases h;done)
    |(rename_i d
      simp at h;subst h;refine⟨.string (a++b),?_,?_⟩
      .simp only [binOp,Op.stringOp];rw [ap]
       .rfl
       .simp only [gh]at d;rw [IX];simp only [ByteArray.size];omega
      .simp [aB]))
   |(simp at h;subst h;exact⟨_,by simp [binOp,Op.stringOp,ByteArray.toList_eq];rfl,by simp only [aB]⟩)
def xt(P:Program)(t:TypeId):Bool :=
 !P.eqGuardType P.depth t&&!P.stoodInHeld t &&
 (match P.underlying t with
 |some (.struct fs)=>fs.toList.zipIdx.all fun(f,i)=>f.name != "_" && f.offset == i
 |some (.array _ _)=>true
 |_=>false)
def mV(P:Program)(t:TypeId):Prop:=xt P t=true
theorem mV.spec{t:TypeId}(h:mV P t):P.eqGuardType P.depth t=false/\P.stoodInHeld t=false/\∀fs,P.underlying t=some (.struct fs)-> ∀(i:Nat)(f:Field),fs.toList[i]? =some f->f.name≠ "_" /\f.offset=i:=by unfold mV xt at h;simp only [cS,hi]at h;obtain⟨⟨aa,h2⟩,a⟩:=h;refine⟨aa,h2,λfs c i f b=> ?_⟩;rw [c]at a;simp only [dV]at a;have:=a (f,i) (by rw [List.mem_zipIdx_iff_getElem?];exact b);simpa using this
theorem By{k:lP}{a b:J}{x y:Value}(c:aB φ a x)(f:aB φ b y){r:Bool}(h:tO k a b=some r){t:TypeId}{u:TypeDesc}(hu:P.underlying t=some u)(g:k=fg u)(d:Nat)(w:World) :
 (Op.equalIn (d+1) t x y).run P w=.ok r w/\(fg u).isAgg=false:=by
 unfold tO at h;split at h
 .rename_i j l a m b;have:=re g.symm;subst this;split at h
  .rename_i e;subst e;simp at h;subst h;simp only [aB]at c f;subst c f;refine⟨?_,rfl⟩;simp only [Op.equalIn,Sem.run_bind,run_underlying hu,Result.andThen_ok,dy,Sem.run_pure]
  .cases h
 .have:=Bw g.symm;subst this;simp at h;subst h;simp only [aB]at c f;subst c f;refine⟨?_,rfl⟩;simp only [Op.equalIn,Sem.run_bind,run_underlying hu,Result.andThen_ok,Sem.run_pure]
 .have:=mU g.symm;subst this;simp at h;subst h;simp only [aB]at c f;obtain⟨s,rfl,rfl⟩:=c;obtain⟨i,rfl,rfl⟩:=f;refine⟨?_,rfl⟩;rw [run_equalIn_string w d t s i hu,ByteArray.toList_eq,ByteArray.toList_eq]
 .cases h
theorem Bz{D:cN}(n:D.cx P){xs ys:Array Value}(d:Nat)(w:World):∀{fs:List Field}{i:Nat}{x y:List J}{b:Bool},(∀(j:Nat)(f:Field),fs[j]? =some f->f.name≠ "_" /\f.offset=i+j) ->
 bc φ x (xs.toList.drop i)->bc φ y (ys.toList.drop i)->og D (fs.map λf=>(f.offset,f.type)) x y=some b->(Op.eqFields (d+1) xs ys fs).run P w=.ok b w
 |[],i,x,y,b,_,_,_,h=>by simp only [jE]at h;cases x<;>cases y<;>simp [og]at h;subst h;rfl
 |f ::fs,i,x,y,b,o,e,k,h=>by
  simp only [eF]at h;cases x with
  |nil=>cases y<;>simp [og]at h
  |cons a x =>
   cases y with
   |nil=>simp [og]at h
   |cons c y =>
    simp only [og]at h;split at h
    .rename_i M F;obtain⟨N,u,L,hu,C, -⟩:=n.get F;split at h
     .rename_i p q ae E;simp at h;subst h;obtain⟨az,r⟩:=o 0 f an;simp only [bc]at e k;obtain⟨s,tx,ex,G,e⟩:=e;obtain⟨t,ty,m,H,k⟩:=k;obtain⟨g1,g2⟩:=By (P:=P) G H ae hu C d w
      have A:xs[f.offset]? =some s:=by have:=dW (λl=>l[0]?) ex;simpa [r]using this
      have B:ys[f.offset]? =some t:=by have:=dW (λl=>l[0]?) m;simpa [r]using this
      have v:xs.toList.drop (i+1)=tx:=by rw [<-pj,ex];rfl
      have z:ys.toList.drop (i+1)=ty:=by rw [<-pj,m];rfl
      have I:(part f.type xs f.offset).run P w=.ok s w:=by simp only [part,Sem.run_bind,oo hu,Result.andThen_ok,g2];simp [A]
      have K:(part f.type ys f.offset).run P w=.ok t w:=by simp only [part,Sem.run_bind,oo hu,Result.andThen_ok,g2];simp [B]
      have ih:=Bz n (xs:=xs) (ys:=ys) d w (fs:=fs) (i:=i+1) (λj g ag=>by
       have:=o (j+1) g (by simpa using ag)
       exact⟨this.1,V⟩) (by rw [v];exact e) (by rw [z];exact k) E
      simp only [Op.eqFields];rw [aE az];simp only [Sem.run_bind,I,K,Result.andThen_ok,g1];cases p
      .rfl
      .simp only [Bool.not_true,ew,ey,Bool.true_and];exact ih
     .cases h
    .cases h
theorem BA{D:cN}{e:TypeId}{u:TypeDesc}(hu:P.underlying e=some u){xs ys:Array Value}(d:Nat)(w:World):∀{n i:Nat}{x y:List J}{b:Bool},x.length=n ->
 bc φ x (xs.toList.drop i)->bc φ y (ys.toList.drop i)->pB (fg u) x y=some b->(Op.eqItems (d+1) e 1 xs ys (List.range' i n)).run P w=.ok b w
 |n,i,[],y,b,az,_,_,h=>by simp at az;subst az;cases y<;>simp [pB]at h;subst h;rfl
 |n,i,a::x,[],b,az,_,_,h=>by simp [pB]at h
 |n,i,a::x,c::y,b,az,f,g,h=>by
  obtain⟨m,rfl⟩:∃m,n=m+1:=⟨x.length,by simpa using az.symm⟩
  simp only [pB]at h;split at h
  .rename_i p q ae z;simp at h;subst h;simp only [bc]at f g;obtain⟨k,tx,ex,A,f⟩:=f;obtain⟨o,ty,j,B,g⟩:=g;obtain⟨g1,g2⟩:=By (P:=P) A B ae hu rfl d w
   have t:xs[i]? =some k:=by have:=dW (λl=>l[0]?) ex;simpa using this
   have v:ys[i]? =some o:=by have:=dW (λl=>l[0]?) j;simpa using this
   have r:xs.toList.drop (i+1)=tx:=by rw [<-pj,ex];rfl
   have s:ys.toList.drop (i+1)=ty:=by rw [<-pj,j];rfl
   have C:(part e xs (i*1)).run P w=.ok k w:=by simp only [part,Sem.run_bind,oo hu,Result.andThen_ok,g2];simp [t]
   have E:(part e ys (i*1)).run P w=.ok o w:=by simp only [part,Sem.run_bind,oo hu,Result.andThen_ok,g2];simp [v]
   have ih:=BA (D:=D) hu (xs:=xs) (ys:=ys) d w (n:=m) (i:=i+1) (by simpa using az) (by rw [r];exact f) (by rw [s];exact g) z;rw [qW];simp only [Op.eqItems];simp only [Sem.run_bind,C,E,Result.andThen_ok,g1];cases p
   .rfl
   .simp only [Bool.not_true,ew,ey,Bool.true_and];exact ih
  .cases h
theorem md:Op.maxDepth=9999+1:=rfl
theorem BB{D:cN}(l:D.cx P){fC:TypeId->Bool}(A:∀t,fC t=true->mV P t){lit:Bool}{t:TypeId}{x y:J}{bt r:Value}{b:Bool}
 (a:aB φ x bt) (g:aB φ y r) (h:mO D fC lit t x y=some b) (w:World):(Op.equalIn Op.maxDepth t bt r).run P w=.ok b w:=by
 unfold mO at h;split at h
 .cases h
 .rename_i d C;obtain⟨i,u,ah,hu,K, -⟩:=l.get C;rw [K]at h;split at h
  .rename_i e;have:=Bw e;subst this;simp only [aB]at a g;subst a g;simp at h;subst h;rw [md];generalize 9999=k;simp only [Op.equalIn,Sem.run_bind,run_underlying hu,Result.andThen_ok,Sem.run_pure,iP,iQ]
  .rename_i e;have:=tV e;subst this;simp only [aB]at a g;subst a g;simp at h;subst h;rw [md];generalize 9999=k;simp only [Op.equalIn,Sem.run_bind,run_underlying hu,Result.andThen_ok,Sem.run_pure,iP,iQ]
  .rename_i e;have:=tV e;subst this;simp only [aB]at a g;obtain⟨z,rfl,_⟩:=g;subst a;simp at h;subst h;rw [md];generalize 9999=k;simp only [Op.equalIn,Sem.run_bind,run_underlying hu,Result.andThen_ok,Sem.run_pure,iP,iQ]
  .rename_i e;have:=tV e;subst this;simp only [aB]at a g;obtain⟨z,rfl,_⟩:=a;subst g;simp at h;subst h;rw [md];generalize 9999=k;simp only [Op.equalIn,Sem.run_bind,run_underlying hu,Result.andThen_ok,Sem.run_pure,iP,iQ]
  .rename_i e;have:=iq e;subst this;simp only [aB]at a g;obtain⟨rfl,_⟩:=a;obtain⟨rfl,_⟩:=g;simp at h;subst h;rw [md];generalize 9999=k;simp only [Op.equalIn,Sem.run_bind,run_underlying hu,Result.andThen_ok,Sem.run_pure,iP,iQ]
  .rename_i e;have:=iq e;subst this;simp only [aB]at a g;obtain⟨rfl,_⟩:=a;obtain⟨z,c,rfl,_⟩:=g;simp at h;subst h;rw [md];generalize 9999=k;simp only [Op.equalIn,Sem.run_bind,run_underlying hu,Result.andThen_ok,Sem.run_pure,iP,iQ]
  .rename_i e;have:=iq e;subst this;simp only [aB]at a g;obtain⟨rfl,_⟩:=g;obtain⟨z,c,rfl,_⟩:=a;simp at h;subst h;rw [md];generalize 9999=k;simp only [Op.equalIn,Sem.run_bind,run_underlying hu,Result.andThen_ok,Sem.run_pure,iP,iQ]
  .rename_i e;obtain⟨_,_,_,rfl⟩:=xq e;simp only [aB]at a g;subst a g;simp at h;subst h;rw [md];generalize 9999=k;simp only [Op.equalIn,Sem.run_bind,run_underlying hu,Result.andThen_ok,Sem.run_pure,iP,iQ]
  .rename_i e;obtain⟨_,_,_,rfl⟩:=xq e;simp only [aB]at a g;obtain⟨_,_,rfl,_⟩:=g;subst a;simp at h;subst h;rw [md];generalize 9999=k;simp only [Op.equalIn,Sem.run_bind,run_underlying hu,Result.andThen_ok,Sem.run_pure,iP,iQ]
  .rename_i e;obtain⟨_,_,_,rfl⟩:=xq e;simp only [aB]at a g;obtain⟨_,_,rfl,_⟩:=a;subst g;simp at h;subst h;rw [md];generalize 9999=k;simp only [Op.equalIn,Sem.run_bind,run_underlying hu,Result.andThen_ok,Sem.run_pure,iP,iQ]
  .rename_i e;obtain⟨_,rfl,_⟩:=xr e;simp only [aB]at a g;subst a g;split at h<;>simp at h;subst h;rw [md];generalize 9999=k;simp only [Op.equalIn,Sem.run_bind,run_underlying hu,Result.andThen_ok,Sem.run_pure,iP,iQ]
  .rename_i e;obtain⟨_,rfl,_⟩:=xr e;simp only [aB]at a g;obtain⟨_,rfl,_⟩:=g;subst a;simp at h;subst h;rw [md];generalize 9999=k;simp only [Op.equalIn,Sem.run_bind,run_underlying hu,Result.andThen_ok,Sem.run_pure,iP,iQ]
  .rename_i e;obtain⟨_,rfl,_⟩:=xr e;simp only [aB]at a g;obtain⟨_,rfl,_⟩:=a;subst g;simp at h;subst h;rw [md];generalize 9999=k;simp only [Op.equalIn,Sem.run_bind,run_underlying hu,Result.andThen_ok,Sem.run_pure,iP,iQ]
  .rename_i fs x y e;obtain⟨o,rfl,I⟩:=tW e;simp only [aB]at a g;obtain⟨xs,rfl,rx⟩:=a;obtain⟨ys,rfl,m⟩:=g;split at h
   .rename_i he;obtain⟨aa,h2,v⟩:=(A t he).spec;have q:P.fieldsOf t=o:=by simp [Program.fieldsOf,hu]
    rw [md,run_equalIn_struct w 9999 t xs ys (by rw [q];exact hu) h2,q];rw [I]at h;exact Bz l 9998 w (i:=0) (λj f H=>by have:=v o hu j f H;exact⟨this.1,V⟩) (by simpa using rx) (by simpa using m) h
   .cases h
  .rename_i n e x y s;have:=pJ s;subst this;simp only [aB]at a g;obtain⟨xs,rfl,rx⟩:=a;obtain⟨ys,rfl,m⟩:=g;split at h
   .split at h
    .rename_i L E;obtain⟨M,N,p,G,F,O, -⟩:=l.get E;split at h
     .rename_i al
      have B:P.cellsOf e=1:=by unfold Program.cellsOf;rw [p];simp;omega
      rw [md,run_equalIn_array w 9999 xs ys hu p,B,qX];rw [F]at h;exact BA (D:=D) G 9998 w al.2 (by simpa using rx) (by simpa using m) h
     .cases h
    .cases h
   .cases h
  .cases h
theorem BC{D:cN}{fC:TypeId->Bool}(j:∀t,fC t=true->mV P t){op:BinOp}{t:TypeId}{f g:Operand}{x y:J}{bt i:Value}{b:Bool}
 (a:aB φ x bt) (c:aB φ y i) (h:mO D fC (jI f || jI g) t x y=some b) (w:World):(eqGuard op t f g bt i).run P w=.ok () w:=by
 have key :op=.eql\/op=.neq->(eqGuard op t f g bt i).run P w=.ok () w:=by
  intro d;unfold mO at h;split at h
  .cases h
  .split at h
   all_goals first
    |(cases h;done)
    |(simp only [aB]at a c;subst a c;rcases d with rfl|rfl<;>rfl)
    |(simp only [aB]at a c;obtain⟨rfl,_⟩:=a;obtain⟨rfl,_⟩:=c;rcases d with rfl|rfl<;>rfl)
    |(simp only [aB]at a c;subst a;obtain⟨_,rfl,_⟩:=c;rcases d with rfl|rfl<;>rfl)
    |(simp only [aB]at a c;subst c;obtain⟨_,rfl,_⟩:=a;rcases d with rfl|rfl<;>rfl)
    |(simp only [aB]at a c;obtain⟨rfl,_⟩:=a;obtain⟨_,_,rfl,_⟩:=c;rcases d with rfl|rfl<;>rfl)
    |(simp only [aB]at a c;obtain⟨rfl,_⟩:=c;obtain⟨_,_,rfl,_⟩:=a;rcases d with rfl|rfl<;>rfl)
    |(simp only [aB]at a c;subst a;obtain⟨_,_,rfl,_⟩:=c;rcases d with rfl|rfl<;>rfl)
    |(simp only [aB]at a c;subst c;obtain⟨_,_,rfl,_⟩:=a;rcases d with rfl|rfl<;>rfl)
    |(simp only [aB]at a c;subst a c;split at h<;>first|(cases h;done)|skip
      rename_i e;simp only [fI]at e;rcases e with e|e
      .cases f<;>first|(simp [jI]at e;done)|(rcases d with rfl|rfl<;>rfl)
      .cases g<;>first|(simp [jI]at e;done)|(rcases d with rfl|rfl<;>simp [eqGuard]))
    |(simp only [aB]at a c;obtain⟨_,rfl,rx⟩:=a;obtain⟨_,rfl,k⟩:=c;split at h<;>first|(cases h;done)|skip
      rename_i he
      exact run_eqGuard_agg w op t f g _ _ (j t he).spec.1)
 cases op<;>first|exact key (.inl rfl)|exact key (.inr rfl)|rfl
def rh:Value->Bool
 |.bool _|.pointer _|.slice _ _ _|.func _ _ _|.nilFunc|.nilIface|.iface _ _|.agg _=>true
 |_=>false
theorem IZ(t:TypeId)(x y:Value)(h:rh x=true):binOp .eql t x y=(do pure (.bool (<-Op.equal t x y))):=by cases x<;>first|(simp [rh]at h;done)|(cases y<;>rfl)
theorem I0(t:TypeId)(x y:Value)(h:rh x=true):binOp .neq t x y=(do pure (.bool (!(<-Op.equal t x y)))):=by cases x<;>first|(simp [rh]at h;done)|(cases y<;>rfl)
theorem BD{D:cN}{fC:TypeId->Bool}{lit:Bool}{t:TypeId}{x y:J}{bt:Value}{b:Bool}(a:aB φ x bt)(h:mO D fC lit t x y=some b):rh bt=true:=by
 unfold mO at h;split at h
 .cases h
 .split at h
  all_goals first
   |(cases h;done)
   |(simp only [aB]at a;subst a;rfl)
   |(simp only [aB]at a;obtain⟨rfl,_⟩:=a;rfl)
   |(simp only [aB]at a;obtain⟨_,rfl,_⟩:=a;rfl)
   |(simp only [aB]at a;obtain⟨_,_,rfl,_⟩:=a;rfl)
theorem I1{D:cN}(m:D.cx P){fC:TypeId->Bool}(i:∀t,fC t=true->mV P t){op:BinOp}{t:TypeId}{j l:Operand}{x y v:J}{bt g:Value}
 (c:aB φ x bt) (e:aB φ y g) (h:iV D fC (jI j || jI l) op t x y=some v) (w:World) :
 ∃d,(eqGuard op t j l bt g).run P w=.ok () w/\(binOp op t bt g).run P w=.ok d w/\aB φ v d:=by
 unfold iV at h;split at h
 .rename_i k a k' b;simp only [aB]at c e;subst c e
  have ag:(eqGuard op t j l (.int k a) (.int k' b)).run P w=.ok () w:=by unfold eqGuard;split<;>rfl
  split at h
  .obtain⟨d,aa,h2⟩:=Bx (P:=P) (φ:=φ) (k':=k') t (.inl rfl) h w;exact⟨d,ag,aa,h2⟩
  .obtain⟨d,aa,h2⟩:=Bx (P:=P) (φ:=φ) (k':=k') t (.inr rfl) h w;exact⟨d,ag,aa,h2⟩
  .split at h
   .rename_i n;subst n;obtain⟨d,aa,h2⟩:=IW (P:=P) (φ:=φ) t h w;exact⟨d,ag,aa,h2⟩
   .cases h
 .rename_i a b;simp only [aB]at c e;obtain⟨s,rfl,rfl⟩:=c;obtain⟨u,rfl,rfl⟩:=e
  have ag:(eqGuard op t j l (.string s) (.string u)).run P w=.ok () w:=by unfold eqGuard;split<;>rfl
  obtain⟨d,aa,h2⟩:=IY (P:=P) (φ:=φ) t h w;exact⟨d,ag,aa,h2⟩
 .rename_i o n2;split at h
  .simp only [b4]at h;obtain⟨b,f,rfl⟩:=h;refine⟨.bool b,BC (D:=D) i c e f w,?_,by simp [aB]⟩;have he:=BB m i c e f w;rw [IZ t bt g (BD c f)];simp [Op.equal,he]
  .simp only [b4]at h;obtain⟨b,f,rfl⟩:=h;refine⟨.bool (!b),BC (D:=D) i c e f w,?_,by simp [aB]⟩;have he:=BB m i c e f w;rw [I0 t bt g (BD c f)];simp [Op.equal,he]
  .cases h
end
end
noncomputable section
open Go.RowKit
section
variable {P:Program}{φ:Map}
theorem I2{op:UnOp}{x v:J}{bt:Value}(a:aB φ x bt)(h:q6 op x=some v)(w:World):∃b,(Op.unary op bt).run P w=.ok b w/\aB φ v b:=by
 unfold q6 at h;split at h
 .simp only [aB]at a;subst a;simp at h;subst h;exact⟨_,by simp [Op.unary,Op.intArith];rfl,by simp only [aB]⟩
 .simp only [aB]at a;subst a;simp at h;subst h;exact⟨_,by simp [Op.unary];rfl,by simp only [aB]⟩
 .simp only [aB]at a;subst a;simp [hK]at h;subst h;exact⟨_,by simp [Op.unary,Op.intBits];rfl,by simp only [aB]⟩
 .cases h
theorem I3{D:cN}(a:D.cx P){s t:TypeId}{x v:J}{bt:Value}(d:aB φ x bt)(h:q8 D s t x=some v)(w:World) :
 ∃j,(convert s t bt).run P w=.ok j w/\aB φ v j:=by
 unfold q8 at h;split at h
 .rename_i m o k n hs g;simp only [aB]at d;subst d;obtain⟨_,gB,_,b,_⟩:=a.get hs;obtain⟨_,ut,_,c,f,_⟩:=a.get g;rw [f]at h;split at h
  .rename_i i e;have:=re e;subst this;simp at h;subst h;refine⟨.int i (i.wrap n),?_,by simp only [aB]⟩;simp only [convert,Sem.run_bind,run_underlying b,run_underlying c,Result.andThen_ok];cases gB<;>simp [Conv.intToInt]
  .rename_i e;have:=mU e;subst this;simp at h;subst h;exact⟨.string (Utf8.encode n),run_convert_int_string w s t k n (by rw [b];rfl) c,by simp only [aB];exact⟨_,rfl,rfl⟩⟩
  .cases h
 .rename_i m o l hs g;simp only [aB]at d;obtain⟨p,rfl,rfl⟩:=d;obtain⟨_,gB,_,b,_⟩:=a.get hs;obtain⟨_,ut,_,c,f,_⟩:=a.get g;rw [f]at h;split at h
  .rename_i e;have:=mU e;subst this;simp at h;subst h;refine⟨.string p,?_,by simp [aB]⟩;simp only [convert,Sem.run_bind,run_underlying b,run_underlying c,Result.andThen_ok];cases gB<;>rfl
  .cases h
 .cases h
theorem I4{x y v:J}{bt d:Value}(a:aB φ x bt)(b:aB φ y d)(h:tP x y=some v)(w:World):∃c,(Builtin.max2 bt d).run P w=.ok c w/\aB φ v c:=by
 unfold tP at h;split at h
 .simp only [aB]at a b;subst a b;split at h
  .rename_i e;subst e;simp at h;subst h;exact⟨_,by simp only [Builtin.max2];rfl,by simp only [aB]⟩
  .cases h
 .cases h
theorem I5{x y v:J}{bt d:Value}(a:aB φ x bt)(b:aB φ y d)(h:tQ x y=some v)(w:World):∃c,(Builtin.min2 bt d).run P w=.ok c w/\aB φ v c:=by
 unfold tQ at h;split at h
 .simp only [aB]at a b;subst a b;split at h
  .rename_i e;subst e;simp at h;subst h;exact⟨_,by simp only [Builtin.min2];rfl,by simp only [aB]⟩
  .cases h
 .cases h
theorem xu{f:J->J->Option J}{g:Value->Value->Sem Value}(w:World)
 (e:∀x y v bt i,aB φ x bt->aB φ y i->f x y=some v-> ∃b,(g bt i).run P w=.ok b w/\aB φ v b) :
 ∀{l:List J}{t:List Value}{x v:J}{bt:Value},aB φ x bt->bc φ l t->mP f x l=some v-> ∃b,(t.foldlM g bt).run P w=.ok b w/\aB φ v b
 |[],t,x,v,bt,d,c,h=>by simp only [bc]at c;subst c;simp [mP]at h;subst h;exact⟨bt,rfl,d⟩
 |a ::r,t,x,v,bt,d,c,h=>by
  simp only [bc]at c;obtain⟨u,n,rfl,aa,h2⟩:=c;simp only [mP]at h;split at h
  .rename_i z m;obtain⟨o,aI,aO⟩:=e _ _ _ _ _ d aa m;obtain⟨b,j,k⟩:=xu w e aO h2 h;exact⟨b,by rw [List.foldlM_cons,Sem.run_bind,aI];exact j,k⟩
  .cases h
theorem I6{x v:J}{l:List J}{xs:Array Value}(ts:Array TypeId)(ty:TypeId)(d:bc φ (x::l) xs.toList)(h:mP tP x l=some v)(w:World) :
 ∃f,(Builtin.max_ ts ty xs).run P w=.ok f w/\aB φ v f:=by
 simp only [bc]at d;obtain⟨bt,t,e,aa,h2⟩:=d;unfold Builtin.max_;rw [e];exact xu w (λ_ _ _ _ _ a b c=>I4 a b c w) aa h2 h
theorem I7{x v:J}{l:List J}{xs:Array Value}(ts:Array TypeId)(ty:TypeId)(d:bc φ (x::l) xs.toList)(h:mP tQ x l=some v)(w:World) :
 ∃f,(Builtin.min_ ts ty xs).run P w=.ok f w/\aB φ v f:=by
 simp only [bc]at d;obtain⟨bt,t,e,aa,h2⟩:=d;unfold Builtin.min_;rw [e];exact xu w (λ_ _ _ _ _ a b c=>I5 a b c w) aa h2 h
theorem BE{D:cN}(g:D.cx P){t:TypeId}{aX:List J}{xs:Array Value}{off:Nat}{v:J}(c:bc φ aX xs.toList)(h:apart D t aX off=some v)(w:World) :
 ∃a,(part t xs off).run P w=.ok a w/\aB φ v a:=by
 unfold apart at h;split at h
 .rename_i d j;obtain⟨i,u,ah,hu,k,hs, -⟩:=g.get j;rw [k]at h;split at h
  .rename_i b;split at h
   .rename_i hle;simp at h;subst h;refine⟨.agg (xs.extract off (off+i.size)),?_,?_⟩
    .simp only [part,Sem.run_bind,oo hu,Result.andThen_ok,b,dy,ir ah,Sem.run_pure]
    .simp only [aB];refine⟨_,rfl,?_⟩
     have e:(xs.extract off (off+i.size)).toList=(xs.toList.drop off).take i.size:=by simp [List.extract]
     rw [e,hs];exact(c.drop off).take i.size
   .cases h
  .rename_i b;obtain⟨a,aa,h2⟩:=c.get h;refine⟨a,?_,h2⟩;have f:xs[off]? =some a:=by simpa using aa
   simp only [part,Sem.run_bind,oo hu,Result.andThen_ok];simp only [b];simp [f]
 .cases h
theorem I8{D:cN}(c:D.cx P){t:TypeId}{x:J}{bt:Value}{f:Nat}{v:J}(g:aB φ x bt)(h:xe D t x f=some v)(w:World) :
 ∃a,(Instr.field t bt f).run P w=.ok a w/\aB φ v a:=by
 unfold xe at h;split at h
 .rename_i d aX l;obtain⟨i,u,ah,hu,p,hs, -⟩:=c.get l;rw [p]at h;split at h
  .rename_i fs e;obtain⟨k,rfl,o⟩:=tW e;split at h
   .rename_i off r b;simp only [aB]at g;obtain⟨xs,rfl,q⟩:=g;rw [o]at b;simp only [fc,b4]at b;obtain⟨j,m,he⟩:=b;simp at he;obtain⟨rfl,rfl⟩:=he;obtain⟨a,aa,h2⟩:=BE c q h w;refine⟨a,?_,h2⟩;have n:k[f]? =some j:=by simpa using m
    simp [Instr.field,run_underlying hu,n,asAgg,aa]
   .cases h
  .cases h
 .cases h
theorem I9{D:cN}(a:D.cx P){t:TypeId}{x i:J}{bt p:Value}{v:J}(f:aB φ x bt)(ah:aB φ i p)(h:c8 D t x i=some v)(w:World) :
 ∃g,(Instr.index t bt p).run P w=.ok g w/\aB φ v g:=by
 unfold c8 at h;split at h
 .rename_i d aX k n j;obtain⟨E,u,y,hu,l,hs, -⟩:=a.get j;rw [l]at h;split at h
  .rename_i len e he;have:=pJ he;subst this;split at h
   .rename_i b9 z;obtain⟨H,I,A,G,F,B, -⟩:=a.get z;split at h
    .rename_i c;simp only [aB]at f ah;obtain⟨xs,rfl,C⟩:=f;subst ah;obtain⟨g,aa,h2⟩:=BE a C h w;refine⟨g,?_,h2⟩;rw [B]at aa;simp [Instr.index,asIntOf,run_underlying hu,c,ir A,aa]
    .cases h
   .cases h
  .cases h
 .rename_i d s k n j;obtain⟨E,u,y,hu,l,hs, -⟩:=a.get j;rw [l]at h;split at h
  .rename_i e;have:=mU e;subst this;split at h
   .rename_i az;simp only [aB]at f ah;obtain⟨m,rfl,rfl⟩:=f;subst ah;simp only [b4]at h;obtain⟨b,c,rfl⟩:=h;refine⟨.int .u8 b.toNat,?_,by simp only [aB]⟩
    have q:m[n.toNat]? =some b:=by
     have o:=(dT.1 c).1;have he:=(dT.1 c).2;have r:n.toNat<m.size:=by rw [gh]at o;exact o
     rw [getElem?_pos m n.toNat r];rw [<-he];rfl
    simp [Instr.index,asIntOf,run_underlying hu,az,q]
   .cases h
  .cases h
 .cases h
theorem I'{vs:List J}{bt:Value}{i:Nat}{v:J}(b:aB φ (.tuple vs) bt)(h:vs[i]? =some v)(w:World) :
 ∃a,(Instr.extract bt i).run P w=.ok a w/\aB φ v a:=by
 simp only [aB]at b;obtain⟨xs,rfl,d⟩:=b;obtain⟨a,aa,h2⟩:=d.get h;have c:xs[i]? =some a:=by simpa using aa
 exact⟨a,by simp [Instr.extract,c],h2⟩
theorem Place.mW(p:Place)(i f n:Nat):(p.at i f).add n=p.at i (f+n):=by unfold Place.at;rw [Addr.add_mid];rw [lJ]
theorem Ja{D:cN}(g:D.cx P){t:TypeId}{x:J}{bt:Value}{f:Nat}{v:J}(j:aB φ x bt)(h:xd D t x f=some v)(w:World) :
 ∃k,(Instr.fieldAt t bt f).run P w=.ok k w/\aB φ v k:=by
 unfold xd at h;split at h
 .rename_i d a n;obtain⟨i,u,ah,hu,A,hs, -⟩:=g.get n;rw [A]at h;split at h
  .rename_i fs e;obtain⟨m,rfl,z⟩:=tW e;split at h
   .rename_i off E b;split at h
    .rename_i fd q;obtain⟨l,F,y,I,G,H, -⟩:=g.get q;split at h
     .rename_i K;simp at h;subst h;rw [z]at b;simp only [fc,b4]at b;obtain⟨c,r,he⟩:=b;simp at he;obtain⟨rfl,rfl⟩:=he;simp only [aB]at j;obtain⟨L,rfl,p,ae,o,B,rfl⟩:=j;have s:m[f]? =some c:=by simpa using r
      refine⟨.pointer (some (p.at a.idx (a.fld+c.offset))),?_,?_⟩
      .have C:¬l.size=0:= V;simp [Instr.fieldAt,run_underlying hu,s,Instr.sureAddr,fieldPlace,ir y,C,Place.mW]
      .simp only [aB];exact⟨_,rfl,p,ae,o,B,rfl⟩
     .cases h
    .cases h
   .cases h
  .cases h
 .cases h
theorem Jb{D:cN}(r:D.cx P){t:TypeId}{x i:J}{bt E:Value}{v:J}(g:aB φ x bt)(ah:aB φ i E)(h:dL D t x i=some v)(w:World) :
 ∃F,(Instr.indexAt t bt E).run P w=.ok F w/\aB φ v F:=by
 unfold dL at h;split at h
 .rename_i d a len cap k n y;obtain⟨Q,u,K,hu,z,hs, -⟩:=r.get y;rw [z]at h;split at h
  .rename_i e he;have:=iq he;subst this;split at h
   .rename_i b9 B;obtain⟨q,R,s,N,M,C, -⟩:=r.get B;split at h
    .rename_i b;simp at h;subst h;simp only [aB]at g ah;obtain⟨G,H,rfl,O,l2,A⟩:=g;have m:=b.2.2.2;obtain⟨p,ae,c,I,hex⟩:=A.plain m;subst ah;rcases I with aN|⟨o,rfl,S⟩
     .omega
     .refine⟨.pointer (some (p.at (a.idx+n.toNat) 0)),?_,?_⟩
      .have aI:(p.at a.idx 0).add (n.toNat*q.size)=p.at (a.idx+n.toNat) 0:=by
        rw [Place.mW];unfold Place.at;have:a.idx+n.toNat-p.aD=(a.idx-p.aD)+n.toNat:= V;rw [this,iO,<-C,<-b.2.2.1,c]
        congr 1;omega
       have j:=b.1;have l:=b.2.1;simp [Instr.indexAt,asIntOf,run_underlying hu,j,l,ir s,aI]
      .simp only [aB];exact⟨_,rfl,p,ae,c,by show p.aD<=a.idx+n.toNat;omega,by simp only [m]⟩
    .split at h
     .rename_i b;simp at h;subst h;simp only [aB]at g ah;obtain⟨G,H,rfl,O,l2,A⟩:=g;subst ah;rcases A with ⟨m,_⟩|⟨f,m,p,ae,c,o,rfl⟩
      .omega
      .simp only at ae c o;have L:q.size=1:= V;have j:=b.1;have l:=b.2.1;refine⟨.pointer (some (p.at a.idx (f+n.toNat))),?_,?_⟩
       .have aI:(p.at a.idx f).add (n.toNat*q.size)=p.at a.idx (f+n.toNat):=by rw [Place.mW,L,lG]
        simp [Instr.indexAt,asIntOf,run_underlying hu,j,l,ir s,aI]
       .simp only [aB];exact⟨_,rfl,p,ae,c,o,by show p.at a.idx (f+n.toNat)=p.at a.idx (a.fld-1+n.toNat);rw [m];rfl⟩
     .cases h
   .cases h
  .cases h
 .rename_i d a k n y;obtain⟨Q,u,K,hu,z,hs, -⟩:=r.get y;rw [z]at h;split at h
  .rename_i len e he;have:=pJ he;subst this;split at h
   .rename_i b9 B;obtain⟨q,R,s,N,M,C, -⟩:=r.get B;split at h
    .rename_i b;simp at h;subst h;simp only [aB]at g ah;obtain⟨G,rfl,p,ae,c,o,rfl⟩:=g;subst ah;refine⟨.pointer (some (p.at a.idx (a.fld+n.toNat*q.size))),?_,?_⟩
     .have j:=b.1;have l:=b.2;simp [Instr.indexAt,asIntOf,run_underlying hu,j,l,ir s,Instr.sureAddr,Place.mW]
     .simp only [aB];exact⟨_,rfl,p,ae,c,o,by simp only [C]⟩
    .cases h
   .cases h
  .cases h
 .cases h
end
end
noncomputable section
open Go.RowKit
section
variable {P:Program}{φ:Map}
def i'(φ:Map):Option J->Option Value->Prop
 |none,none=>True
 |some a,some b=>aB φ a b
 |_,_=>False
theorem ri{v:Option J}{f:Option Value}(b:i' φ v f){g c r:Nat}(h:eh v g c=some r)(hs:v.isSome=true)
 {d:Nat} (hm:c<=d) (w:World) (code:BoundsCode):∃x,f=some x/\(Instr.sliceBound x d code).run P w=.ok r w/\r<=c:=by
 cases v with
 |none=>cases hs
 |some a =>
  cases f with
  |none=>exact b.elim
  |some x =>
   refine⟨x,rfl,?_⟩;unfold eh at h;split at h
   .rename_i e;cases e
   .rename_i k i e;simp at e;subst e;split at h
    .rename_i j;simp at h;subst h;simp only [i',aB]at b;subst b;have hle:i<=(d:Int):= V;exact⟨by simp [Instr.sliceBound,asIntOf,j.1,hle],V⟩
    .cases h
   .cases h
theorem tX{aD ah mx:Option J}{d n mx':Option Value}(p:i' φ aD d)(j:i' φ ah n)(q:i' φ mx mx'){len cap f m c l:Nat}(s:len<=cap)(i:cap<=f)
 (hm:eh mx cap cap=some m) (e:eh ah len m=some c) (o:eh aD 0 c=some l) (r:¬(mx.isSome=true/\ah.isNone=true)) (isSlice:Bool) (w:World) :
 ∃k,(Instr.sliceBounds isSlice len f d n mx').run P w=.ok (l,c,k) w/\m<=k/\k<=f/\(f=cap->k=m)/\c<=m/\l<=c:=by
 have g:∀code,(match d with|some v=>Instr.sliceBound v c code|none=>pure 0:Sem Nat).run P w=.ok l w/\l<=c:=by
  intro code;cases aD with
  |none=>cases d with
   |none=>simp [eh]at o;subst o;exact⟨rfl,n6 _⟩
   |some _=>exact p.elim
  |some a =>
   obtain⟨x,rfl,aa,h2⟩:=ri (P:=P) p o rfl (Nat.le_refl _) w code;exact⟨aa,h2⟩
 cases mx with
 |none =>
  cases mx' with
  |some _=>exact q.elim
  |none =>
   simp [eh]at hm;subst hm;refine⟨f,?_,i,Nat.le_refl _,λh=>h,?_⟩
   .cases ah with
    |none=>cases n with
     |some _=>exact j.elim
     |none =>
      simp [eh]at e;subst e;have:=(g .sliceB).1;cases d<;>simp_all [Instr.sliceBounds]
    |some b =>
     obtain⟨x,rfl,aa,h2⟩:=ri (P:=P) j e rfl i w (if isSlice then .sliceAcap else .sliceAlen);have:=(g .sliceB).1;cases d<;>simp_all [Instr.sliceBounds]
   .refine⟨?_,(g .sliceB).2⟩;cases ah with
    |none=>simp [eh]at e;omega
    |some b=>obtain⟨x,rfl,aa,h2⟩:=ri (P:=P) j e rfl i w .sliceB;exact h2
 |some a =>
  obtain⟨y,rfl,g1,g2⟩:=ri (P:=P) q hm rfl i w (if isSlice then .slice3Acap else .slice3Alen);cases ah with
  |none=>simp at r
  |some b =>
   obtain⟨x,rfl,aa,h2⟩:=ri (P:=P) j e rfl (Nat.le_refl _) w .slice3B;refine⟨m,?_,Nat.le_refl _,V,λ_=>rfl,h2,(g .sliceB).2⟩;have:=(g .slice3C).1;cases d<;>simp_all [Instr.sliceBounds]
theorem Jc(s:ByteArray)(l h:Nat):(s.extract l h).data.toList=(s.data.toList.take h).drop l:=by have:(s.extract l h).data=s.data.extract l h:= an;rw [this];simp [List.extract,List.drop_take]
theorem Jd{D:cN}(o:D.cx P){t:TypeId}{x v:J}{bt:Value}{aD ah mx:Option J}{Z S mx':Option Value}(f:aB φ x bt)
 (A:i' φ aD Z) (z:i' φ ah S) (B:i' φ mx mx') (h:ec D t x aD ah mx=some v) (w:World) :
 ∃av,(Instr.sliceAt t bt Z S mx').run P w=.ok av w/\aB φ v av:=by
 unfold ec at h;split at h
 .rename_i d a len cap q;obtain⟨am,u,W,hu,y,hs, -⟩:=o.get q;rw [y]at h;split at h
  .rename_i e he;have:=iq he;subst this;split at h
   .rename_i b9 m M hm;obtain⟨H,c3,E,c0,ct,X, -⟩:=o.get M;split at h
    .rename_i c g;split at h
     .rename_i l j;split at h
      .cases h
      .rename_i C;split at h
       .simp at h;subst h;simp only [aB]at f;obtain⟨rfl,rfl,rfl⟩:=f;obtain⟨b,i,N,O,k,Q,R⟩:=tX (P:=P) A z B (Nat.le_refl _) (Nat.le_refl 0) hm g j C true w;have aI:b=0:= V;have aO:m=0:= V;have a0:c=0:= V;have a2:l=0:= V;subst aI aO a0 a2;refine⟨.slice none 0 0,?_,by simp [aB]⟩;simp [Instr.sliceAt,run_underlying hu,Instr.slice,i,ir E]
       .rename_i a;split at h
        .rename_i a5;obtain⟨a4,I⟩:=a5;simp at h;subst h;simp only [aB]at f;obtain⟨G,c4,rfl,c2,l2,ce⟩:=f;obtain⟨p,ae,r,b2,hex⟩:=ce.plain I;obtain⟨b,i,N,O,k,Q,R⟩:=tX (P:=P) A z B c2 l2 hm g j C true w;refine⟨.slice (if b=l then some G else some (G.add (l*H.size))) (c-l) (b-l),?_,?_⟩
         .simp [Instr.sliceAt,run_underlying hu,Instr.slice,i,ir E]
         .simp only [aB];by_cases U:b=l
          .rw [aE U];exact⟨G,b-l,rfl,V,V,.inl ⟨I,p,ae,r,.inl V,λc=>by have:=k (hex c);omega⟩⟩
          .rw [ap U];refine⟨_,b-l,rfl,V,V,.inl ⟨I,p,ae,r,?_,λc=>by have:=k (hex c);omega⟩⟩;rcases b2 with aN|⟨g1,rfl,g3⟩
           .left;omega
           .right;refine⟨by show p.aD<=a.idx+l;omega,?_,by show a.idx+l-p.aD+(b-l)<=p.dY;omega⟩;rw [Place.mW];unfold Place.at;have:a.idx+l-p.aD=(a.idx-p.aD)+l:= V;simp only [this,iO,<-X,<-a4,r]
            congr 1;omega
        .cases h
     .cases h
    .cases h
   .cases h
  .cases h
 .rename_i d a q;obtain⟨am,u,W,hu,y,hs, -⟩:=o.get q;rw [y]at h;split at h
  .rename_i n el a3;have:=pJ a3;subst this;split at h
   .rename_i b9 M;obtain⟨H,c3,E,c0,ct,X, -⟩:=o.get M;split at h
    .cases h
    .rename_i C;split at h
     .rename_i c g;split at h
      .rename_i l j;split at h
       .rename_i al;obtain⟨c5,c9⟩:=al;simp at h;subst h;simp only [aB]at f;obtain⟨G,rfl,p,ae,r,a9,rfl⟩:=f;have K:mx=none:=by cases mx<;>simp_all
        subst K;have L:mx'=none:=by cases mx' with|none=>rfl|some _=>exact B.elim
        subst L;obtain⟨b,i,N,O,k,Q,R⟩:=tX (P:=P) (mx:=none) (mx':=none) A z trivial (Nat.le_refl n) (Nat.le_refl n) (m:=n) (by simp [eh]) g j an false w;have bn:=k rfl;subst bn;have co:H.size=1:= V;refine⟨.slice (some ((p.at a.idx a.fld).add (l*H.size))) (c-l) (b-l),?_,?_⟩
        .have bv:¬b=l:= V;simp [Instr.sliceAt,run_underlying hu,i,ir E,Instr.sureAddr,bv]
        .simp only [aB];refine⟨_,b-l,rfl,V,Nat.le_refl _,.inr ⟨a.fld+l,rfl,p,ae,r,a9,?_⟩⟩;rw [Place.mW,co,lG]
       .cases h
      .cases h
     .cases h
   .cases h
  .cases h
 .rename_i d s q;obtain⟨am,u,W,hu,y,hs, -⟩:=o.get q;rw [y]at h;split at h
  .rename_i e;have:=mU e;subst this;split at h
   .cases h
   .rename_i C;split at h
    .rename_i c g;split at h
     .rename_i l j;simp at h;subst h;simp only [aB]at f;obtain⟨F,rfl,rfl⟩:=f;rw [gh]at g;have K:mx=none:=by cases mx<;>simp_all
      subst K;have L:mx'=none:=by cases mx' with|none=>rfl|some _=>exact B.elim
      subst L;obtain⟨b,i,N,O,k,Q,R⟩:=tX (P:=P) (mx:=none) (mx':=none) A z trivial (Nat.le_refl F.size) (Nat.le_refl F.size) (m:=F.size) (by simp [eh]) g j an false w;refine⟨.string (F.extract l c),?_,by simp only [aB];exact⟨_,rfl,Jc _ _ _⟩⟩;simp [Instr.sliceAt,run_underlying hu,Instr.slice,i]
     .cases h
    .cases h
  .cases h
 .cases h
theorem tY{w:World}{b o:Nat} :∀{l:List J},(∀j bt,l[j]? =some bt-> ∃x,w.cell? ⟨b,o+j,none⟩=some x/\aB φ bt x/\x.oneCell'=true) ->
 ∃vs,bc φ l vs/\w.rangeAt b o vs/\∀x∈vs,x.oneCell'=true
 |[],_=>⟨[],by simp [bc],by intro j v c;simp at c,an⟩
 |a ::r,h=>by
  obtain⟨x,g,e⟩:=h 0 a an
  have ih:=tY (w:=w) (b:=b) (o:=o+1) (l:=r) (λj bt f=>by
   obtain⟨x,g1,g2⟩:=h (j+1) bt (by simpa using f)
   exact⟨x,by rw [show o+1+j=o+(j+1)by omega];exact g1,g2⟩)
  obtain⟨vs,i1,i2,i3⟩:=ih;refine⟨x::vs,by simp only [bc];exact⟨_,_,rfl,e.1,i1⟩,?_,?_⟩
  .intro j v c;cases j with
   |zero=>simp at c;subst c;exact g
   |succ j=>simp at c;have:=i2 j v c;rw [show o+(j+1)=o+1+j by omega];exact this
  .intro y d;rcases cM.1 d with rfl|d
   .exact e.2
   .exact i3 y d
theorem cg.Je{aM:Nat->Prop}{h:T}{w:World}(r:cg φ aM h w){a:aT}{f:Addr}(i:pE φ a f){b:ac}(k:h.get a.id=some b){e:J}(he:b.elem? a.ab a.idx=some e) :
 ∃p,φ a.id a.ab=some p/\f=p.at a.idx a.fld/\p.aD<=a.idx/\e.cells.length=p.es/\∀j bt,e.cells[j]? =some bt-> ∃x,w.cell? (p.at a.idx j)=some x/\aB φ bt x/\x.oneCell'=true:=by
 obtain⟨p,ae,t,d,rfl⟩:=i;obtain⟨aa,c,h2,m,n,o,q,s,g⟩:=r.cI _ _ _ ae;rw [k]at h2;simp at h2;subst h2;unfold ac.elem? at he;split at he
 .rename_i l;obtain⟨cs,c2,c3⟩:=g.cont _ _ d l he;exact⟨p,ae,rfl,d,cs,c3⟩
 .cases he
theorem BF{D:cN}(q:D.cx P){aM:Nat->Prop}{h:T}{w:World}(r:cg φ aM h w){t:TypeId}{a:aT}{bt:Value}{v:J}(n:aB φ (.ptr (some a)) bt)(c:a1 D t a h=some v) :
 ∃g,(Instr.loadAt t bt).run P w=.ok g w/\aB φ v g:=by
 unfold a1 at c;split at c
 .rename_i d b A z;obtain⟨K,u,G,hu,C,hs, -⟩:=q.get A;split at c
  .rename_i e he;simp only [aB]at n;obtain⟨M,rfl,s⟩:=n;obtain⟨p,ae,rfl,L,hlen,k⟩:=r.Je s z he;rw [C,hs]at c;cases i:(fg u).isAgg with
   |true =>
    rw [i]at c;simp only [ft,dy]at c;split at c
    .rename_i aX
     have key:∀(l:List J),(∀(j:Nat)(bt:J),l[j]? =some bt->aX[a.fld+j]? =some bt)->l.length=K.size-> ∃g,(Instr.loadAt t (.pointer (some (p.at a.idx a.fld)))).run P w=.ok g w/\aB φ (.agg l) g:=by
      intro l E F
      obtain⟨vs,m,H, -⟩:=tY (φ:=φ) (w:=w) (b:=p.bH) (o:=p.off+(a.idx-p.aD)*p.es+a.fld) (l:=l) (λj bt f=>by
       obtain⟨x,g1,g2⟩:=k (a.fld+j) bt (E j bt f)
       exact⟨x,by rw [Place.at,<-lJ]at g1;exact g1,g2⟩)
      refine⟨.agg vs.toArray,?_,by simp only [aB];exact⟨_,rfl,by simpa using m⟩⟩;exact run_loadAt_mid w p.bH _ t vs u H hu (by cases u<;>simp [fg,lP.isAgg]at i⊢) (by rw [G];simp [m.length,F])
     split at c
     .rename_i al;simp at c;subst c;exact key aX (λj bt f=>by rw [al.1,eM];exact f) al.2.symm
     .split at c
      .rename_i al;simp at c;subst c;refine key _ (λj bt f=> ?_) (by simp;omega);rw [lH]at f;split at f
       .rw [n7]at f;exact f
       .simp at f
      .cases c
    .cases c
   |false =>
    rw [i]at c
    have key:∀(j:Nat)(y:J),e.cells[j]? =some y->a.fld=j-> ∃g,(Instr.loadAt t (.pointer (some (p.at a.idx a.fld)))).run P w=.ok g w/\aB φ y g:=by intro j y I f;subst f;obtain⟨x,g1,g2⟩:=k a.fld y I;refine⟨x,?_,g2.1⟩;simp only [Instr.loadAt,Instr.sureAddr,Sem.run_bind,Sem.run_pure,Result.andThen_ok,loadVar,oo hu,i];simp [g1]
    simp only [ft]at c;cases e with
    |agg aX=>exact key a.fld v c rfl
    |_ =>
     simp at c;obtain⟨B,rfl⟩:=c;exact key 0 _ (by simp [J.cells]) B
  .cases c
 .cases c
theorem aB.Jf{a:J}{v:Value}(h:aB φ a v)(hs:a.hD=true):v.oneCell'=true:=by
 cases a with
 |undef=>cases hs
 |agg aX=>cases hs
 |tuple aX=>cases hs
 |bool b=>simp only [aB]at h;subst h;rfl
 |int k n=>simp only [aB]at h;subst h;rfl
 |str s=>simp only [aB]at h;obtain⟨_,rfl,_⟩:=h;rfl
 |ptr o=>cases o with
  |none=>simp only [aB]at h;subst h;rfl
  |some x=>simp only [aB]at h;obtain⟨_,rfl,_⟩:=h;rfl
 |slice o l c=>cases o with
  |none=>simp only [aB]at h;obtain⟨rfl,_⟩:=h;rfl
  |some x=>simp only [aB]at h;obtain⟨_,_,rfl,_⟩:=h;rfl
 |func fn f c=>simp only [aB]at h;obtain⟨_,_,rfl,_⟩:=h;rfl
 |nilFunc=>simp only [aB]at h;subst h;rfl
 |iface t x=>simp only [aB]at h;obtain⟨_,rfl,_⟩:=h;rfl
 |nilIface=>simp only [aB]at h;subst h;rfl
end
end
noncomputable section
open Go.RowKit
section
variable {P:Program}{φ:Map}
theorem xv{v:J}(h:v.hD=true):v.cells=[v]:=by cases v<;>first|rfl|(simp [J.hD]at h)
theorem oq{v:J}{a:Bool}{size:Nat}(h:v.fits a size=true):v.cells.length=size/\v≠ .undef/\∀c∈v.cells,c.hD=true:=by cases v<;>simp [J.fits,J.cells,J.hD]at h⊢ <;>first|exact h.2.symm|exact⟨h.1.2,h.2⟩|skip
theorem bc.one{l:List J}{t:List Value}(h:bc φ l t)(hs:∀c∈l,c.hD=true):∀x∈t,x.oneCell'=true:=by
 intro x d;obtain⟨i,ah,rfl⟩:=lK.1 d;have b:i<l.length:=by rw [<-h.length];exact ah
 obtain⟨v,a,e⟩:=h.get (c7 b);rw [c7 ah]at a;simp at a;subst a;exact e.Jf (hs _ (gw _))
theorem Jg{D:cN}(C:D.cx P){aM:Nat->Prop}{h ad:T}{aS w:World}(r:cg φ aM h w)(E:Safe aM aS w){t:TypeId}{a:aT}{v:J}{bt i:Value}
 (z:aB φ (.ptr (some a)) bt) (M:aB φ v i) (f:eA D t a v h=some ad) :
 ∃aZ,(Instr.storeAt t bt i).run P w=.ok () aZ/\cg φ aM ad aZ/\Safe aM aS aZ/\ad.Y=h.Y:=by
 unfold eA at f;split at f
 .rename_i d b F n;obtain⟨Q,u,L,hu,Z,hs, -⟩:=C.get F;split at f
  .rename_i al;simp only [cS,hi,kh]at al;obtain⟨⟨G,x⟩,N⟩:=al;split at f
   .rename_i e he;split at f
    .rename_i e' g;simp at f;subst f;simp only [aB]at z;obtain⟨am,rfl,p,ae,X,q,rfl⟩:=z;rw [N]at ae;obtain⟨f1,f2,f3⟩:=oq G;have k:=M.cells f2;have s:=k.one f3;obtain⟨aa,c,h2,R,S,U,B,W,m⟩:=r.cI _ _ _ ae;rw [n]at h2;simp at h2;subst h2;have H:a.idx<b.aQ.length:=(dT.1 he).1;obtain⟨cs,c2,c3⟩:=m.cont a.idx e q (by simp [ac.b0];exact H) he
     have o:a.fld+v.cells.length<=p.es/\e'.cells=gk e.cells a.fld v.cells:=by
      unfold kn at g;split at g
      .rename_i aX;split at g
       .rename_i hle;simp at g;subst g;simp only [J.cells]at cs;exact⟨V,rfl⟩
       .cases g
      .rename_i I;split at g
       .rename_i al;simp at g;subst g;have aI:e.cells=[e]:=by cases e<;>first|rfl|exact absurd rfl (I _)
        rw [aI]at cs⊢;have aO:=xv al.2;rw [al.1,aO];simp at cs;exact⟨by simp;omega,rfl⟩
       .cases g
     obtain⟨O,A⟩:=r.store ae n x q he k s o.1 o.2;refine⟨_,?_,O,?_,rfl⟩
     .have K:i.cells.size=Q.size:=by have:=k.length;rw [gh]at this;omega
      have y:=run_storeCells_cells (P:=P) p.bH (p.off+(a.idx-p.aD)*p.es+a.fld) i.cells.toList 0 w (λj l=>by simpa using (A j l).1) (λj l=>by simpa using (A j l).2) s;simp only [lI]at y;simp only [Instr.storeAt,Instr.sureAddr,Sem.run_bind,Sem.run_pure,Result.andThen_ok,storeVar,ir L,K,Place.at];simp only [ne_eq,not_true_eq_false,ey];exact y
     .exact rc _ (m.base (B x)) _ _ E
    .cases f
   .cases f
  .cases f
 .cases f
theorem Jh(v:J):flat [v]=v.cells:=by simp [flat]
theorem BG{D:cN}{aM:Nat->Prop}{h:T}{aS w:World}(r:cg φ aM h w)(f:Safe aM aS w)(g:dN aM aS.heap.size){nid:Nat}(hid:∀v,φ nid v=none)(az:nid<h.Y)(t:TypeId){v:J}{a:Value}{n:Bool}{size:Nat}
 (l:aB φ v a) (i:v.fits n size=true) (k:0<size) :
 ∃aZ c,(newVar t a).run P w=.ok ⟨w.heap.size,0,none⟩ aZ/\fv φ c h.Y nid/\aB c (.ptr (some ⟨nid,0,0,0,size⟩)) (.pointer (some ⟨w.heap.size,0,none⟩))
  /\cg c aM (h.set nid (.aj [v] size true (some (t,size)))) aZ/\Safe aM aS aZ:=by
 obtain⟨f1,f2,f3⟩:=oq i;have b:=l.cells f2;have j:=b.one f3;have hlen:a.cells.toList.length=size:=by rw [b.length,f1]
 have d:dN aM w.heap.size:=g.le f.size;refine⟨w.alloc (.cells a.cells t),φ.add nid 0 ⟨w.heap.size,0,0,size,1,true,false⟩,rfl,fv.add φ _ (hid 0) _,?_,?_,f.alloc d _⟩
 .simp only [aB];refine⟨_,rfl,_,Map.tS _ _ _ _,rfl,Nat.le_refl _,?_⟩;simp [Place.at]
 .refine r.aj hid az d k (by intro e he;simp at he;subst he;exact f1) ?_ ?_ an ?_ (λq h=>by cases h;exact⟨rfl,λ_=>by rw [<-gh,hlen]⟩)
  .rw [Jh,kX (by simp [hlen])];exact b
  .rw [<-gh,hlen];omega
  .intro x m;exact j x (List.mem_of_mem_take m)
def rj(l:List Value)(i:Nat):List Value->List Value
 |[]=>l
 |v::vs=>rj (l.set i v) (i+1) vs
theorem bc.put{l m:List J}{t u:List Value}(h:bc φ l t)(k:bc φ m u)(i:Nat):bc φ (bh.gk l i m) (rj t i u):=by
 induction m generalizing l t u i with
 |nil=>simp only [bc]at k;subst k;exact h
 |cons a r ih =>
  simp only [bc]at k;obtain⟨v,b,rfl,aa,h2⟩:=k;exact ih (h.set i aa) h2 (i+1)
theorem BH:∀(vs:List Value)(off k:Nat)(cells:Array Value),((vs.zipIdx k).foldl (λaX (x:Value×Nat)=>aX.setIfInBounds (off+x.2) x.1) cells).toList=rj cells.toList (off+k) vs
 |[],off,k,cells=>rfl
 |v::vs,off,k,cells=>by simp only [List.zipIdx_cons,hB,rj];rw [BH vs off (k+1),Array.toList_setIfInBounds,lJ]
theorem BI(vs:Array Value)(off:Nat)(cells:Array Value):(vs.zipIdx.foldl (λaX (x:Value×Nat)=>aX.setIfInBounds (off+x.2) x.1) cells).toList=rj cells.toList off vs.toList:=by rw [<-Array.foldl_toList,Array.toList_zipIdx];exact BH vs.toList off 0 cells
theorem xw{place place':Nat->Option (Nat×Nat)}(ae:∀i x,place i=some x->place' i=some x):∀{parts:List (Nat×J)} {d:List (Nat×Value)} {l c:List J} {cells:Array Value},
 (parts.map (·.1)=d.map (·.1))->bc φ (parts.map (·.2)) (d.map (·.2))->bc φ l cells.toList->pC place l parts=some c ->
 ∃a,Instr.fill place' cells d=some a/\bc φ c a.toList
 |[],[],l,c,cells,_,_,b,h=>by simp [pC]at h;subst h;exact⟨cells,rfl,b⟩
 |[],_::_,_,_,_,h,_,_,_=>by simp at h
 |_::_,[],_,_,_,h,_,_,_=>by simp at h
 |(i, v)::rest,(r,g)::s,l,c,cells,aa,h2,b,h=>by
  simp at aa;obtain⟨rfl,aa⟩:=aa;simp only [eF,bc]at h2;obtain⟨u,t,e,m,h2⟩:=h2;simp at e;obtain⟨rfl,rfl⟩:=e;simp only [pC]at h;split at h
  .cases h
  .rename_i off size k;split at h
   .rename_i al;have f:=m.cells (by rintro rfl;simp [J.known]at al);have q:g.cells.size=size:=by have:=f.length;rw [gh]at this;omega
    have p:cells.size=l.length:=by have:=b.length;rw [gh]at this;omega
    have key:=xw ae aa h2 (l:=gk l off v.cells) (cells:=g.cells.zipIdx.foldl (λaX (x:Value×Nat)=>aX.setIfInBounds (off+x.2) x.1) cells)
     (by rw [BI];exact b.put f off) h
    obtain⟨a,n,o⟩:=key;refine⟨a,?_,o⟩;simp only [Instr.fill,ae _ _ k];split
    .rename_i j;exfalso;simp only [ne_eq,fI,gx]at j;omega
    .exact n
   .cases h
theorem xx(parts:Array (Nat×Operand))(ρ:Operand->J)(ρ':Operand->Value) :
 (parts.toList.map λp=>(p.1,ρ p.2)).map (·.1)=((parts.map fun(i,x)=>(i,ρ' x)).toList).map (·.1):=by
 simp only [tp,n9];rfl
theorem xy{ρ:Operand->J}{ρ':Operand->Value}(a:∀x,aB φ (ρ x) (ρ' x))(parts:Array (Nat×Operand)) :
 bc φ ((parts.toList.map λp=>(p.1,ρ p.2)).map (·.2)) (((parts.map fun(i,x)=>(i,ρ' x)).toList).map (·.2)):=by
 simp only [tp,n9];exact bc.map _ _ _ λx _=>a x.2
theorem pK{D:cN}(c:D.cx P){t:TypeId}{d:mN}{i:TypeInfo}{z:J}(h:d.zero=i.zero.map mM)(b:d.zero=some z):∃a,i.zero=some a/\aB φ z a:=by
 rw [b]at h;cases ah:i.zero with
 |none=>rw [ah]at h;cases h
 |some a=>rw [ah]at h;simp at h;subst h;exact⟨a,rfl,Bp φ a⟩
theorem Ji{fs:Array Field}{w:World}{g:Field->Nat}(ag:∀f∈fs.toList,(sizeOf f.type).run P w=.ok (g f) w) :
 ((fs.mapM λf=>(do pure (f.offset,<-sizeOf f.type):Sem (Nat×Nat)))).run P w=.ok (fs.map λf=>(f.offset,g f)) w:=by
 have key:∀(l:List Field),(∀f∈l,(sizeOf f.type).run P w=.ok (g f) w)->(l.mapM λf=>(do pure (f.offset,<-sizeOf f.type):Sem (Nat×Nat))).run P w=.ok (l.map λf=>(f.offset,g f)) w:=by
  intro l;induction l with
  |nil=>intro _;rfl
  |cons f r ih =>
   intro h;simp only [List.mapM_cons,Sem.run_bind,h f an,Result.andThen_ok,Sem.run_pure,ih (λf a=>h f (by simp [a])),eF]
 have:=key fs.toList ag;rw [<-Array.toArray_toList (xs:=fs)];simp only [List.mapM_toArray,Sem.run_map,this,Result.andThen_ok,List.map_toArray]
theorem Jj{D:cN}(c:D.cx P){t:TypeId}{parts:Array (Nat×Operand)}{ρ:Operand->J}{ρ':Operand->Value}(M:∀x,aB φ (ρ x) (ρ' x)){v:J}
 (h:xc D t (parts.toList.map λp=>(p.1,ρ p.2))=some v) (w:World) :
 ∃N,(Instr.build t (parts.map fun(i,x)=>(i,ρ' x))).run P w=.ok N w/\aB φ v N:=by
 unfold xc at h;split at h
 .rename_i d Q;obtain⟨a2,u,K,hu,I,hs, -,L⟩:=c.get Q;split at h
  .rename_i fs z j s;split at h
   .rename_i l;rw [I]at j;obtain⟨k,rfl,H⟩:=tW j;obtain⟨av,A,B⟩:=pK (P:=P) (φ:=φ) (t:=t) c L s;simp only [b4]at h;obtain⟨cells,al,rfl⟩:=h
    have W:∀f∈k.toList,∃x,D f.type=some x:=by intro f b;have o:=l.2;unfold Bo at o;rw [H,dV]at o;have:=o (f.offset,f.type) (dz.2 ⟨f,b,rfl⟩);exact tq.1 this
    have U:=Ji (P:=P) (w:=w) (fs:=k) (g:=λf=>((D f.type).map (·.size)).getD 0) (λf b=>by
     obtain⟨x,a⟩:=W f b;obtain⟨G,am,q, -, -,r, -⟩:=c.get a
     rw [ir q,a];simp [r])
    have C:z≠ .undef:=by rintro rfl;simp [J.known]at l
    obtain⟨m,E,F⟩:=xw (φ:=φ) (place':=λi=>(k.map λf=>(f.offset,((D f.type).map (·.size)).getD 0))[i]?) (λi x a=>by
     split at a
     .rename_i off a0 b;simp only [b4]at a;obtain⟨y,Z,rfl⟩:=a;rw [H]at b;simp only [fc,b4]at b;obtain⟨O,R,he⟩:=b;simp at he;obtain⟨rfl,rfl⟩:=he;have S:k[i]? =some O:=by simpa using R
      simp [S,Z]
     .cases a) (xx parts ρ ρ') (xy M parts) (B.cells C) al
    refine⟨.agg m,?_,by simp only [aB];exact⟨_,rfl,F⟩⟩;simp only [Instr.build,Sem.run_bind,rf K A,Result.andThen_ok,run_underlying hu,U,E,Sem.run_pure]
   .cases h
  .rename_i n e z j s;split at h
   .rename_i b9 X;split at h
    .rename_i l;rw [I]at j;have:=pJ j;subst this;obtain⟨av,A,B⟩:=pK (P:=P) (φ:=φ) (t:=t) c L s;obtain⟨G,am,q, -, -,r, -⟩:=c.get X;simp only [b4]at h;obtain⟨cells,al,rfl⟩:=h;have C:z≠ .undef:=by rintro rfl;simp [J.known]at l
     obtain⟨m,E,F⟩:=xw (φ:=φ) (place':=λi=>some (i*G.size,G.size)) (λi x a=>by rw [<-r];exact a) (xx parts ρ ρ') (xy M parts) (B.cells C) al;refine⟨.agg m,?_,by simp only [aB];exact⟨_,rfl,F⟩⟩;simp only [Instr.build,Sem.run_bind,rf K A,Result.andThen_ok,run_underlying hu,ir q,E,Sem.run_pure]
    .cases h
   .cases h
  .cases h
 .cases h
end
end
noncomputable section
open Go.RowKit
section
variable {P:Program}{φ:Map}
def lT(P:Program)(φ:Map)(aM:Nat->Prop)(aS:World)(h:T)(nid:Nat)(v:J)(ad:T)(s:Sem Value)(w:World):Prop :=
 ∃b aZ a,s.run P w=.ok b aZ/\fv φ a h.Y nid/\aB a v b/\cg a aM ad aZ/\Safe aM aS aZ/\ad.Y=h.Y
theorem lT.pure{aM:Nat->Prop}{aS:World}{h:T}{nid:Nat}{v:J}{s:Sem Value}{w:World}(r:cg φ aM h w)(b:Safe aM aS w)(k:∃a,s.run P w=.ok a w/\aB φ v a):lT P φ aM aS h nid v h s w :=
 let ⟨a,aa,h2⟩:=k;⟨a,w,φ,aa,fv.refl _ _ _,h2,r,b,rfl⟩
theorem Jk(zs:Array Value)(i:Nat)(h:i<zs.size):zs[i]! =zs[i]:=by simp [getElem!_pos,h]
theorem BJ{z:J}{b:Value}{es:Nat}(t:aB φ z b)(m:z≠ .undef)(hlen:z.cells.length=es)(x:0<es)(n:Nat) :
 bc φ (flat (List.replicate n z)) ((Array.range (n*es)).map (λi=>b.cells[i%b.cells.size]!)).toList:=by
 have al:=t.cells m;have r:b.cells.size=es:=by have:=al.length;rw [gh]at this;omega
 have d:∀e∈List.replicate n z,e.cells.length=es:=by intro e he;rw [pk he];exact hlen
 refine bc.dG (by rw [io d];simp) λi a v c f=> ?_
 have ah:i<(flat (List.replicate n z)).length:=(dT.1 c).1;obtain⟨q,j,e,rfl,he,l⟩:=tU d i ah;have h:e=z:=pk (fR he);subst h;have g:e.cells[j]? =some (e.cells[j]' V):=c7 _;have k:=k3 d he g;rw [k]at c;simp at c;subst c;have p:(q*es+j)%es=j:=by rw [Nat.add_comm,Nat.add_mul_mod_self_right];exact qY l
 have o:q*es+j<n*es:=by rw [io d]at ah;simpa using ah
 obtain⟨u,hu,w⟩:=al.get g
 have s:b.cells[j]' V =u:=by have:=(dT.1 hu).2;simpa using this
 simp only [tp,Array.toList_range,fc,tr o,ev,a6]at f;rw [r,p,Jk _ _ V,s]at f;subst f;exact w
theorem BK:∀{parts:List (Nat×J)} {l a:List J},ko l parts=some a->a.length=l.length
 |[],l,a,h=>by simp [ko]at h;subst h;rfl
 |(i,v)::r,l,a,h=>by
  simp only [ko]at h;split at h
  .rw [BK h];simp
  .cases h
theorem Jl{es:Nat} :∀{l:List J}(a:∀e∈l,e.cells.length=es){i:Nat}{v:J},i<l.length->v.cells.length=es->flat (l.set i v)=gk (flat l) (i*es) v.cells:=by
 intro l a i v ah f
 have b:∀e∈l.set i v,e.cells.length=es:=by
  intro e he;rcases tt he with h|h
  .exact a e h
  .rw [h];exact f
 apply pn;intro k;rw [tT];by_cases c:k<(flat (l.set i v)).length
 .obtain⟨q,j,e,rfl,he,g⟩:=tU b k c;have o:e.cells.length=es:=b e (fR he);rw [k3 b he (c7 (by omega:j<e.cells.length))];have m:q*es+j<(flat l).length:=by rw [io a];rw [io b,List.length_set]at c;exact c
  by_cases d:i=q
  .subst d;rw [qU ah]at he;simp at he;subst he;rw [aE ⟨V,by rw [f];omega,m⟩,show i*es+j-i*es=j by omega,c7 V]
  .rw [ph d]at he;rw [ap]
   .rw [k3 a he (c7 (by omega:j<e.cells.length))]
   .intro al;rcases gg q i with n|p
    .have:=pI (i:=q) (k:=i) (j:=j) (es:=es) n g;omega
    .have:=pI (i:=i) (k:=q) (j:=es-1) (es:=es) V V ;omega
 .rw [hV V,ap (by rw [io b,List.length_set]at c;rw [io a];omega),hV (by rw [io a];rw [io b,List.length_set]at c;omega)]
theorem BL{es:Nat} :∀{parts:List (Nat×J)} {f:List (Nat×Value)} {l b:List J} {cells:Array Value},
 (parts.map (·.1)=f.map (·.1))->bc φ (parts.map (·.2)) (f.map (·.2))->(∀p∈parts,p.2≠ .undef/\p.2.cells.length=es)->(∀e∈l,e.cells.length=es)->bc φ (flat l) cells.toList->ko l parts=some b ->
 ∃c,Instr.fill (λi=>some (i*es,es)) cells f=some c/\bc φ (flat b) c.toList/\(∀e∈b,e.cells.length=es)
 |[],[],l,b,cells,_,_,_,a,d,h=>by simp [ko]at h;subst h;exact⟨cells,rfl,d,a⟩
 |[],_::_,_,_,_,h,_,_,_,_,_=>by simp at h
 |_::_,[],_,_,_,h,_,_,_,_,_=>by simp at h
 |(i, v)::rest,(B,m)::C,l,b,cells,aa,h2,g,a,d,h=>by
  simp at aa;obtain⟨rfl,aa⟩:=aa;simp only [eF,bc]at h2;obtain⟨u,t,e,q,h2⟩:=h2;simp at e;obtain⟨rfl,rfl⟩:=e;simp only [ko]at h;split at h
  .rename_i ah;obtain⟨r,k⟩:v≠ .undef/\v.cells.length=es:=g (i,v) an;have j:=q.cells r;have A:m.cells.size=es:=by have:=j.length;rw [gh]at this;omega
   have z:cells.size=l.length*es:=by have:=d.length;rw [gh,io a]at this;omega
   have hle:i*es+es<=l.length*es:=by have:=mF es (show i+1<=l.length by omega);rw [pi]at this;exact this
   have key:=BL aa h2 (λp o=>g p (by simp [o])) (l:=l.set i v) (cells:=m.cells.zipIdx.foldl (λaX (x:Value×Nat)=>aX.setIfInBounds (i*es+x.2) x.1) cells)
    (by
     intro e he;rcases tt he with h|h
     .exact a e h
     .rw [h];exact k)
    (by rw [BI,Jl a ah k];exact d.put j _) h
   obtain⟨c,s,w,y⟩:=key;refine⟨c,?_,w,y⟩;simp only [Instr.fill];split
   .rename_i n;exfalso;simp only [ne_eq,fI,gx]at n;omega
   .exact s
  .cases h
theorem BM{l:List J}{b:Bool}{es:Nat}(h:∀e∈l,e.fits b es=true):∀c∈flat l,c.hD=true:=by intro c al;obtain⟨e,he,a⟩:=List.mem_flatMap.1 al;exact(oq (h e he)).2.2 c a
theorem BN(t:TypeId)(c:Array Value)(w:World):(newRow t c).run P w=.ok ⟨w.heap.size,0,none⟩ (w.alloc (.cells c t)):=rfl
theorem aB.h5{φ:Map}{nid b es len cap dY:Nat}{ex:Bool}{a:Nat}(d:len<=cap)(c:cap<=a)(e:a<=dY)(hex:ex=true->a=cap) :
 aB (φ.add nid 0 ⟨b,0,0,es,dY,ex,false⟩) (h5 nid es len cap) (.slice (some ⟨b,0,none⟩) len a):=by
 simp only [bh.h5,aB];refine⟨_,_,rfl,d,c,.inl ⟨rfl,_,Map.tS _ _ _ _,rfl,.inr ⟨Nat.le_refl _,?_,by simpa using e⟩,hex⟩⟩;simp [Place.at]
theorem Jm{D:cN}(g:D.cx P){aM:Nat->Prop}{h ad:T}{aS w:World}(r:cg φ aM h w)(y:Safe aM aS w)(L:dN aM aS.heap.size){nid:Nat}(hid:∀v,φ nid v=none)(az:nid<h.Y)
 {t:TypeId} {n:Nat} {parts:Array (Nat×Operand)} {ρ:Operand->J} {ρ':Operand->Value} (a3:∀x,aB φ (ρ x) (ρ' x)) {v:J}
 (a:k1 D t n (parts.toList.map λp=>(p.1,ρ p.2)) nid h=some (v,ad)) :
 lT P φ aM aS h nid v ad (Instr.buildSlice t n (parts.map fun(i,x)=>(i,ρ' x))) w:=by
 unfold k1 at a;split at a
 .rename_i d N;obtain⟨bn,u,a9,hu,O,hs, -, -⟩:=g.get N;split at a
  .rename_i e E;rw [O]at E;have:=iq E;subst this;split at a
   .rename_i b9 Z;obtain⟨b,bv,H, -, -,f, -,am⟩:=g.get Z;split at a
    .rename_i z av;obtain⟨K,a0,a2⟩:=pK (P:=P) (φ:=φ) (t:=e) g am av;split at a
     .rename_i al;obtain⟨a4,M,A,B⟩:=al;split at a
      .rename_i l j;simp at a;obtain⟨rfl,rfl⟩:=a;obtain⟨f1,f2,f3⟩:=oq A;have U:0<b.size:= V;have W:∀e∈List.replicate n z,e.fits b9.kind.isAgg b9.size=true:=by intro e he;rw [pk he];exact A
       have Q:∀e∈l,e.fits b9.kind.isAgg b9.size=true:=by
        have key:∀(parts:List (Nat×J)) (m c:List J),(∀p∈parts,p.2.fits b9.kind.isAgg b9.size=true)->(∀e∈m,e.fits b9.kind.isAgg b9.size=true)->ko m parts=some c-> ∀e∈c,e.fits b9.kind.isAgg b9.size=true:=by
         intro parts;induction parts with
         |nil=>intro m c _ hm hs;simp [ko]at hs;subst hs;exact hm
         |cons p r ih =>
          obtain⟨i,v⟩:=p;intro m c ae hm hs;simp only [ko]at hs;split at hs
          .refine ih (m.set i v) c (λp S=>ae p (by simp [S])) ?_ hs;intro e he;rcases tt he with h|h
           .exact hm e h
           .rw [h];exact ae (i,v) an
          .cases hs
        exact key _ _ _ (λp ae=>dV.1 B p ae) W j
       obtain⟨q,k,o,I⟩:=BL (φ:=φ) (es:=b.size) (xx parts ρ ρ') (xy a3 parts)
        (λp ae=>by have:=oq (dV.1 B p ae);exact⟨this.2.1,V⟩)
        (by intro e he;rw [pk he];omega)
        (BJ a2 f2 (by omega:z.cells.length=b.size) U n) j
       have F:l.length=n:=by rw [BK j];simp
       have s:dN aM w.heap.size:=L.le y.size;have a5:(flat l).length=n*b.size:=by rw [io I,F]
       have C:q.size=n*b.size:=by have:=o.length;rw [gh]at this;omega
       refine⟨.slice (some ⟨w.heap.size,0,none⟩) n n,w.alloc (.cells q e),φ.add nid 0 ⟨w.heap.size,0,0,b9.size,n,true,false⟩,?_,fv.add φ _ (hid 0) _,aB.h5 (Nat.le_refl _) (Nat.le_refl _) (Nat.le_refl _) (λ_=>rfl),?_,y.alloc s _,rfl⟩
       .have hle:¬n*b.size>2^24:=by rw [<-f];omega
        simp only [Instr.buildSlice,Sem.run_bind,run_underlying hu,Result.andThen_ok,ir H];rw [ap hle];by_cases G:n*b.size=0
        .have R:n=0:=by rcases Nat.mul_eq_zero.1 G with h|h<;>omega
         subst R;simp only [Nat.zero_mul,dy,Sem.run_bind,Sem.run_pure,Result.andThen_ok]at k⊢;have e0:(Array.range 0).map (λi=>(#[]:Array Value)[i%(#[]:Array Value).size]!)=(Array.range 0).map (λi=>K.cells[i%K.cells.size]!):= an;rw [e0,k];rfl
        .rw [ap G];simp only [Sem.run_bind,rf H a0,Result.andThen_ok,Sem.run_pure,k];rfl
       .refine r.aj hid az s M (by intro e he;rw [I e he,f]) ?_ (by rw [C,f];exact Nat.le_refl _) V ?_ nofun
        .rw [kX (by rw [gh,C,F,f];exact Nat.le_refl _)];exact o
        .intro x X;exact o.one (BM Q) x (List.mem_of_mem_take X)
      .cases a
     .cases a
    .cases a
   .cases a
  .cases a
 .cases a
theorem xz{k:IntKind}{n:Int}(h:0<=n)(h2:n<2^62)(a:k=.i64):k.wrap n=n:=by subst a;have e:(2:Int)^62=4611686018427387904:= aA;exact IntWalk.i64_in _ V
theorem Jn{D:cN}(g:D.cx P){aM:Nat->Prop}{h ad:T}{aS w:World}(r:cg φ aM h w)(o:Safe aM aS w)(E:dN aM aS.heap.size){nid:Nat}(hid:∀v,φ nid v=none)(az:nid<h.Y)
 {t:TypeId} {x y v:J} {bt B:Value} (f:aB φ x bt) (s:aB φ y B) (a:q7 D t x y nid h=some (v,ad)) :
 lT P φ aM aS h nid v ad (Instr.makeSlice t bt B) w:=by
 unfold q7 at a;split at a
 .rename_i d a9 l bn c K;simp only [aB]at f s;subst f s;obtain⟨bv,u,a5,hu,L,hs, -, -⟩:=g.get K;split at a
  .rename_i e q;rw [L]at q;have:=iq q;subst this;split at a
   .rename_i b9 S;obtain⟨b,b2,k, -, -,m,R,U⟩:=g.get S;split at a
    .rename_i z W;obtain⟨C,X,Z⟩:=pK (P:=P) (φ:=φ) (t:=e) g U W;split at a
     .rename_i al;obtain⟨G,av,H,a0,I,p⟩:=al;simp at a;obtain⟨rfl,rfl⟩:=a;obtain⟨f1,f2,f3⟩:=oq p;have M:0<b.size:= V;have n:dN aM w.heap.size:=E.le o.size;have Q:IntKind.i64.wrap l=l:=xz G V rfl;have O:IntKind.i64.wrap c=c:=xz V H rfl;have A:=BJ Z f2 (by omega:z.cells.length=b.size) M c.toNat;have N:∀e∈List.replicate c.toNat z,e.fits b9.kind.isAgg b9.size=true:=by intro e he;rw [pk he];exact p
      have F:∀e∈List.replicate c.toNat z,e.cells.length=b.size:=by intro e he;rw [pk he];omega
      refine⟨.slice (some ⟨w.heap.size,0,none⟩) l.toNat c.toNat,w.alloc (.cells ((Array.range (c.toNat*b.size)).map (λi=>C.cells[i%C.cells.size]!)) e),
       φ.add nid 0 ⟨w.heap.size,0,0,b9.size,c.toNat,true,false⟩,?_,fv.add φ _ (hid 0) _,aB.h5 V (Nat.le_refl _) (Nat.le_refl _) (λ_=>rfl),?_,o.alloc n _,rfl⟩
      .have a2:¬c<0:= V;have a4:¬l<0:= V;have a3:¬l>c:= V;have am:¬((b.bytes:Int)*c>2^48):=by rw [<-R];omega
       simp only [Instr.makeSlice,Sem.run_bind,run_underlying hu,Result.andThen_ok,asInt,asIntOf,Sem.run_pure,IV k,Q,O];rw [ap (by simp only [fI,gx];omega)];simp only [Sem.run_bind,Sem.run_pure,run_askRoom,Result.andThen_ok,ir k];by_cases j:c.toNat*b.size=0
       .have e0:c.toNat*b.size=0:=j;rw [aE j];have aI:Array.range 0= #[]:=rfl;simp only [Sem.run_bind,Sem.run_pure,Result.andThen_ok,e0,BN,aI];simp
       .rw [ap j];simp only [Sem.run_bind,rf k X,Result.andThen_ok,Sem.run_pure,BN]
      .refine r.aj hid az n I (by intro e he;rw [F e he,m]) ?_ (by rw [m];simp) an ?_ nofun
       .rw [kX (by simp [m])];exact A
       .intro x f;exact A.one (BM N) x (List.mem_of_mem_take f)
     .cases a
    .cases a
   .cases a
  .cases a
 .cases a
theorem Jo{D:cN}(j:D.cx P){t:TypeId}{x v:J}{xs:Array Value}{ts:Array TypeId}(ty:TypeId)(b:bc φ [x] xs.toList)(k:ts[0]? =some t)(h:xf D t x=some v)(w:World) :
 ∃r,(Builtin.len_ ts ty xs).run P w=.ok r w/\aB φ v r:=by
 simp only [bc]at b;obtain⟨bt,l,e,b,z⟩:=b;have m:xs[0]? =some bt:=by rw [<-Array.getElem?_toList,e];rfl
 unfold xf at h;split at h
 .rename_i d a n c g;obtain⟨q,u,p,hu,i, -⟩:=j.get g;split at h
  .rename_i e f;rw [i]at f;have:=iq f;subst this;simp at h;subst h;refine⟨.int .i64 n,?_,by simp only [aB]⟩
   have:∃bK o,bt=.slice bK n o:=by
    cases a with
    |none=>simp only [aB]at b;obtain⟨rfl,rfl,rfl⟩:=b;exact⟨_,_,rfl⟩
    |some a=>simp only [aB]at b;obtain⟨_,_,rfl,_⟩:=b;exact⟨_,_,rfl⟩
   obtain⟨bK,o,rfl⟩:=this;simp [Builtin.len_,k,m,run_underlying hu,goInt]
  .cases h
 .rename_i d s g;obtain⟨q,u,p,hu,i, -⟩:=j.get g;split at h
  .rename_i f;rw [i]at f;have:=mU f;subst this;simp at h;subst h;simp only [aB]at b;obtain⟨y,rfl,rfl⟩:=b;refine⟨.int .i64 y.size,?_,by simp only [aB];rfl⟩;simp [Builtin.len_,k,m,run_underlying hu,goInt]
  .cases h
 .rename_i d g _ _;obtain⟨q,u,p,hu,i, -⟩:=j.get g;split at h
  .rename_i n e f;rw [i]at f;have:=pJ f;subst this;simp at h;subst h;refine⟨.int .i64 n,?_,by simp only [aB]⟩;simp [Builtin.len_,k,m,run_underlying hu,goInt]
  .cases h
 .cases h
end
end
noncomputable section
open Go.RowKit
section
variable {P:Program}{φ:Map}
theorem cg.xA{aM:Nat->Prop}{h:T}{w:World}(r:cg φ aM h w){id ab:Nat}{p:Place}(ae:φ id ab=some p){b:ac}(q:h.get id=some b){idx len:Nat}
 (G:p.aD<=idx) (F:idx+len<=b.b0 ab) (hle:idx+len<=b.aQ.length) :
 ∃news,bc φ (flat ((b.aQ.drop idx).take len)) news/\w.rangeAt p.bH (p.off+(idx-p.aD)*p.es) news/\(∀x∈news,x.oneCell'=true)/\(∀e∈(b.aQ.drop idx).take len,e.cells.length=p.es)/\news.length=len*p.es:=by
 obtain⟨aa,c,h2,y,z,A,B,C,f⟩:=r.cI _ _ _ ae;rw [q]at h2;simp at h2;subst h2
 have m:∀(i:Nat)(e:J),((b.aQ.drop idx).take len)[i]? =some e->i<len/\b.aQ[idx+i]? =some e:=by
  intro i e he;rw [lH]at he;split at he
  .rw [n7]at he;exact⟨by assumption,he⟩
  .simp at he
 have a:∀e∈(b.aQ.drop idx).take len,e.cells.length=p.es:=by intro e he;obtain⟨i,ah⟩:=List.getElem?_of_mem he;obtain⟨g1,g2⟩:=m i e ah;exact(f.cont (idx+i) e V V g2).1
 obtain⟨news,n,n2,t⟩:=tY (φ:=φ) (w:=w) (b:=p.bH) (o:=p.off+(idx-p.aD)*p.es) (l:=flat ((b.aQ.drop idx).take len)) (λk bt d=>by
  have s:=(dT.1 d).1;obtain⟨i,j,e,rfl,he,E⟩:=tU a k s;obtain⟨g1,g2⟩:=m i e he;have D:e.cells.length=p.es:=a e (fR he);obtain⟨cs,c2,c3⟩:=f.cont (idx+i) e V V g2;have g:e.cells[j]? =some (e.cells[j]' V):=c7 _;rw [k3 a he g]at d;simp at d;subst d;obtain⟨x,u,v⟩:=c3 j _ g;refine⟨x,?_,v⟩;have aO:(idx+i-p.aD)*p.es=(idx-p.aD)*p.es+i*p.es:=by rw [<-iO];congr 1;omega
  rw [show p.off+(idx-p.aD)*p.es+(i*p.es+j)=p.off+(idx+i-p.aD)*p.es+j by omega]
  exact u)
 exact⟨news,n,n2,t,a,by rw [n.length,io a];congr 1;simp;omega⟩
theorem tZ{aM:Nat->Prop}{h:T}{w:World}(r:cg φ aM h w){es:Nat}{x:J}{bt:Value}(d:aB φ x bt){l:List J}(he:dF es x h=some l)(Z:0<es){tx:TypeId}
 (k:(∃e',P.underlying tx=some (.slice e'))\/P.underlying tx=some .string) :
 ∃news,Src P es tx bt l.length news w/\bc φ (flat l) news/\(∀e∈l,e.cells.length=es):=by
 unfold dF at he;split at he
 .rename_i c;simp at he;subst he;simp only [aB]at d;obtain⟨rfl,_,_⟩:=d;refine⟨[],⟨k,λ_=>rfl,run_firstCells_none w es 0 0 0,run_firstCells_none w.drew es 0 0 0,an,an⟩,by simp [flat,bc],an⟩
 .rename_i a len cap;simp only [aB]at d;obtain⟨C,i,rfl,a3,l2,G⟩:=d
  have y:len=0->l=[]-> ∃news,Src P es tx (.slice (some C) len i) l.length news w/\bc φ (flat l) news/\(∀e∈l,e.cells.length=es):=by rintro rfl rfl;exact⟨[],⟨k,λ_=>rfl,run_firstCells_some w es 0 C 0 i [] an an,run_firstCells_some w.drew es 0 C 0 i [] an an,an,an⟩,by simp [flat,bc],an⟩
  split at he
  .rename_i z;obtain⟨p,ae,E,N,hex⟩:=G.plain z;split at he
   .rename_i X;split at he
    .rename_i b t;split at he
     .rename_i aN;simp at he;subst he;exact y aN rfl
     .rename_i aN;split at he
      .rename_i F;simp at he;subst he;rcases N with a2|⟨n,rfl,av⟩
       .omega
       .obtain⟨_,c,h2,_⟩:=r.cI _ _ _ ae;have hle:a.idx+len<=b.aQ.length:=F.2;obtain⟨news,O,n2,Q,R,B⟩:=r.xA ae t n F.1 hle;have hlen:((b.aQ.drop a.idx).take len).length=len:=by simp;omega
        have q:p.es=es:= V;refine⟨news,?_,O,by rw [<-q];exact R⟩;rw [hlen]
        have al:∀j v,news[j]? =some v->w.cell? ((p.at a.idx 0).add j)=some v:=by intro j v A;rw [Place.mW,eM];exact n2 j v A
        exact⟨k,λ_=>rfl,run_firstCells_some w es len _ len i news (by rw [B,q]) al,run_firstCells_some w.drew es len _ len i news (by rw [B,q]) (by simpa using al),by rw [B,q],Q⟩
      .cases he
    .split at he
     .rename_i aN;simp at he;subst he;exact y aN rfl
     .cases he
   .cases he
  .rename_i z;split at he
   .rename_i aN;simp at he;subst he;exact y aN rfl
   .rename_i aN;split at he
    .rename_i aa;subst aa;split at he
     .rename_i b t;split at he
      .rename_i aX m;split at he
       .rename_i al;simp only [a6]at he;subst he;rcases G with ⟨H,_⟩|⟨f,am,p,ae,E,n,rfl⟩
        .exact absurd H z
        .simp only at ae E n;obtain⟨g1,W,g2,g3,g4,g5,g6,g7,g8⟩:=r.cI _ _ _ ae;rw [t]at g2;simp at g2;subst g2;have I:a.fld-1=f:= V;rw [I]at al⊢;unfold ac.elem? at m;split at m
         .rename_i L;obtain⟨cq,cn,ei⟩:=g8.cont a.idx _ n L m;have M:((aX.drop f).take len).length=len:=by simp;omega
          obtain⟨vs,v1,v2,v3⟩:=tY (φ:=φ) (w:=w) (b:=p.bH) (o:=p.off+(a.idx-p.aD)*p.es+f) (l:=(aX.drop f).take len) (λj bt d=>by
           rw [lH]at d;split at d
           .rw [n7]at d;obtain⟨x,S,U⟩:=ei (f+j) bt d;refine⟨x,?_,U⟩;rw [<-S];unfold Place.at;congr 2;omega
           .cases d)
          have a0:vs.length=len:=by have:=v1.length;omega
          have K:flat ((aX.drop f).take len)=(aX.drop f).take len:=by
           have hs:=al.2;generalize (aX.drop f).take len=l at hs;induction l with
           |nil=>rfl
           |cons x r ih =>
            simp only [hY,cS]at hs;have ih:=ih hs.2;simp only [flat,kW]at ih⊢;rw [xv hs.1,ih];rfl
          refine⟨vs,?_,by rw [K];exact v1,λe he=>by rw [xv (dV.1 al.2 e he)];rfl⟩;rw [M]
          have D:∀j v,vs[j]? =some v->w.cell? ((p.at a.idx f).add j)=some v:=by intro j v A;rw [Place.mW];have:=v2 j v A;rw [<-this];unfold Place.at;congr 2;omega
          exact⟨k,λ_=>rfl,run_firstCells_some w 1 len _ len i vs V D,run_firstCells_some w.drew 1 len _ len i vs V (by simpa using D),V,v3⟩
         .cases m
       .cases he
      .cases he
     .cases he
    .cases he
 .rename_i s;split at he
  .rename_i aa;subst aa;simp at he;subst he;simp only [aB]at d;obtain⟨g,rfl,rfl⟩:=d;have hlen:(g.data.toList.map λb=>J.int .u8 b.toNat).length=g.size:=by rw [gy,gh];rfl
   refine⟨byteCells g,?_,?_,?_⟩
   .rw [hlen]
    exact⟨k,λ_=>rfl,firstCells_string g w,firstCells_string g w.drew,by rw [byteCells_length,lG],λu hu=>by
     obtain⟨_,_,rfl⟩:=dz.1 hu
     rfl⟩
   .have:flat (g.data.toList.map λb=>J.int .u8 b.toNat)=g.data.toList.map λb=>J.int .u8 b.toNat:=by
     generalize g.data.toList=l;induction l with
     |nil=>rfl
     |cons a r ih=>simp only [eF,flat,kW,J.cells]at ih⊢; rw [ih];rfl
    rw [this];exact bc.map _ _ _ λb _=>by simp only [aB]
   .intro e he;obtain⟨b,_,rfl⟩:=dz.1 he;rfl
  .cases he
 .cases he
theorem BO(n:Nat):∀(r c:Nat),c<=n+n/4+512->Builtin.growBy n r c<=n+n/4+512
 |0,c,h=>h
 |r+1,c,h=>by
  simp only [Builtin.growBy];split
  .exact h
  .exact BO n r _ V
theorem nextslicecap_le{a cap:Nat}(h:cap<a):Builtin.nextslicecap a cap<=a+a/4+512:=by
 unfold Builtin.nextslicecap;split
 .omega
 .split
  .omega
  .exact BO _ _ _ V
theorem Jp(zs:Array Value)(n:Nat):(Builtin.zeroCells zs n).size=n*zs.size:=by simp [Builtin.zeroCells]
theorem Alike.rk(w:World):Alike w w.drew:=Alike.drew w _
theorem xB{vs:List Value}{zs:Array Value}{n c es:Nat}(a:vs.length=n*es)(b:zs.size=es)(az:n<=c) :
 (vs.toArray++Builtin.zeroCells zs (c-n)).size=c*es/\(vs.toArray++Builtin.zeroCells zs (c-n)).toList.take (n*es)=vs:=by
 constructor
 .simp only [Array.size_append,List.size_toArray,Jp,a,b];rw [<-iO];congr 1;omega
 .simp only [lL];rw [List.take_left' (by simpa using a)]
theorem BP(l m:List J):flat (l++m)=flat l++flat m:=by simp [flat]
theorem Jq{D:cN}(b2:D.cx P){aM:Nat->Prop}{h ad:T}{aS w:World}(r:cg φ aM h w)(Q:Safe aM aS w)(fd:dN aM aS.heap.size){nid:Nat}(hid:∀v,φ nid v=none)(az:nid<h.Y)
 {t tx:TypeId} (ty:TypeId) {s x v:J} {eq bt:Value} (hs:aB φ s eq) (gc:aB φ x bt)
 (f6:(∃e',P.underlying tx=some (.slice e'))\/P.underlying tx=some .string) (f:gz D t s x nid h=some (v,ad)) :
 lT P φ aM aS h nid v ad (Builtin.append_ #[t,tx] ty #[eq,bt]) w:=by
 unfold gz at f;split at f
 .rename_i d base len cap f4;obtain⟨i4,u,i3,hu,f7,_, -, -⟩:=b2.get f4;split at f
  .rename_i e d8;rw [f7]at d8;have:=iq d8;subst this;split at f
   .rename_i b9 go;obtain⟨k,i5,av, -, -,B,ge,gs⟩:=b2.get go;split at f
    .rename_i new f8;simp only at f;split at f
     .rename_i al;obtain⟨S,f0,ip,a3⟩:=al;obtain⟨news,src,M,U⟩:=tZ (P:=P) (tx:=tx) r gc f8 S f6;rw [B]at src;have O:dN aM w.heap.size:=fd.le Q.size
      have g9:∃C,k.zero=some C/\C.cells.size=k.size:=by
       unfold mN.mQ at a3;cases d2:b9.zero with
       |none=>simp [d2]at a3
       |some z =>
        rw [d2]at a3;obtain⟨C,d0,g0⟩:=pK (P:=P) (φ:=φ) (t:=e) b2 gs d2;obtain⟨f1,f2,f3⟩:=oq a3;have:=(g0.cells f2).length;rw [gh]at this;exact⟨C,d0,V⟩
      obtain⟨C,d0,d1⟩:=g9;have hw:(2:Nat)^62=4611686018427387904:= aA;have hm:(2:Nat)^48=281474976710656:= aA
      have grow:∀(a2:Option Addr)(g:Nat)(olds:List Value),(Builtin.firstCells k.size len (.slice a2 len g)).run P w.drew=.ok olds.toArray w.drew->g<len+new.length ->
       (Builtin.append_ #[t,tx] ty #[.slice a2 len g,bt]).run P w =
        .ok (.slice (some ⟨w.heap.size,0,none⟩) (len+new.length) (grownCap w (len+new.length) g e))
         (w.drew.alloc (.cells ((olds++news).toArray++Builtin.zeroCells C.cells (grownCap w (len+new.length) g e- (len+new.length))) e)):=by
       intro a2 g olds ax d9;refine run_append_grow_src w t tx ty e k C hu av d0 a2 len g olds ax bt new.length news src d9 V ?_;have aa:=nextslicecap_le d9;have h2:=mF k.bytes aa;rw [ge]at f0;omega
      have ce:Safe aM aS w.drew:=Q.drew;split at f
      ·
        simp only [aB]at hs;obtain⟨rfl,rfl,rfl⟩:=hs;split at f
        .rename_i aN;simp only [a6,bo]at f;obtain⟨rfl,rfl⟩:=f;have el:new=[]:=mG.1 V;subst el;have dp:news=[]:=by have:=M.length;simp [flat]at this;exact this
         subst dp;refine⟨.slice none 0 0,w,φ,?_,fv.refl _ _ _,by simp [aB],r,Q,rfl⟩;exact run_append_nothing w t tx ty e k hu av none 0 0 (Nat.le_refl _) bt src
        .rename_i aN;split at f
         .simp only [a6,bo]at f;obtain⟨rfl,rfl⟩:=f;have ag:=grow none 0 [] (run_firstCells_none _ _ _ _ _) V;have A:=grownCap_ge w (0+new.length) 0 e;have am:news.length=new.length*k.size:=by rw [src.newsLen]
          obtain⟨g1,g2⟩:=xB (vs:=news) (zs:=C.cells) (n:=0+new.length) (c:=grownCap w (0+new.length) 0 e) (es:=k.size) (by rw [am,eM]) d1 A
          refine⟨_,_,φ.add nid 0 ⟨w.heap.size,0,0,b9.size,grownCap w (0+new.length) 0 e,false,false⟩,ag,fv.add φ _ (hid 0) _,
           aB.h5 (ex:=false) (Nat.le_refl _) A (Nat.le_refl _) an,?_,ce.alloc (by simpa using O) _,rfl⟩
          refine(r.alike (Alike.rk w)).aj hid az (by simpa using O) S U ?_ ?_ V ?_ (λq h=>by cases h;exact⟨rfl,λh=>absurd rfl h⟩)
          .simp only [eg];rw [show new.length*b9.size=(0+new.length)*k.size by rw [B,eM],g2];exact M
          .simp only [eg];rw [g1,B];exact Nat.le_refl _
          .simp only [eg];rw [show new.length*b9.size=(0+new.length)*k.size by rw [B,eM],g2];exact src.one
         .cases f
      .rename_i a;split at f
       .rename_i fs;obtain⟨fn,F⟩:=fs;split at f
        .rename_i b H;simp only [aB]at hs;obtain⟨E,g,rfl,d3,l2,f9⟩:=hs;obtain⟨p,ae,R,Z,hex⟩:=f9.plain F;obtain⟨g1,d4,g2,g3,g4,g5,g6,g7,g8⟩:=r.cI _ _ _ ae;rw [H]at g2;simp at g2;subst g2;have a9:p.es=k.size:= V;split at f
         .rename_i d7;split at f
          .rename_i aN;subst aN;simp only [a6,bo]at f;obtain⟨rfl,rfl⟩:=f;have dp:news=[]:=by have:=M.length;simp [flat]at this;exact this
           subst dp;refine⟨.slice (some E) len g,w,φ,?_,fv.refl _ _ _,?_,r,Q,rfl⟩
           .exact run_append_nothing w t tx ty e k hu av (some E) len g V bt src
           .simp only [aB,dx,lI];exact⟨E,g,rfl,d3,l2,.inl ⟨F,p,ae,R,Z,hex⟩⟩
          .rename_i a5;split at f
           .rename_i co;obtain⟨L,G,i1⟩:=co;simp only [a6,bo]at f;obtain⟨rfl,rfl⟩:=f;have i2:0<new.length:=fS.2 a5;rcases Z with gt|⟨c0,rfl,dg⟩
            .omega
            .rw [G]at ae;obtain⟨a0,N⟩:=r.IS ae H L (idx:=a.idx+len) (l:=new) V V a5 (by rw [a9,<-B];exact U) M src.one
             have c3:p.off+(a.idx+len-p.aD)*p.es=p.off+(a.idx-p.aD)*p.es+0+len*k.size:=by have:a.idx+len-p.aD=(a.idx-p.aD)+len:= V;rw [this,iO,<-a9];omega
             rw [c3]at a0 N;have c5:=run_append_room_src (P:=P) w t tx ty e k hu av p.bH (p.off+(a.idx-p.aD)*p.es+0) len g bt new.length news src V (λj I=>(N j I).1) (λj I=>(N j I).2);refine⟨_,_,φ,c5,fv.refl _ _ _,?_,a0,?_,rfl⟩
             .simp only [aB];exact⟨_,g,rfl,d7,l2,.inl ⟨F,p,by rw [G];exact ae,R,.inr ⟨c0,rfl,dg⟩,hex⟩⟩
             .exact rc _ (g8.base (g6 L)) _ _ Q
           .cases f
         .rename_i d7;split at f
          .rename_i ct;split at f
           .rename_i old ax;simp only [a6,bo]at f;obtain⟨rfl,rfl⟩:=f;have is:g=cap:=hex (by rw [g5,ct])
            have c9:aB φ (.slice (some a) len cap) (.slice (some E) len g):=by simp only [aB];exact⟨E,g,rfl,d3,l2,.inl ⟨F,p,ae,R,Z,hex⟩⟩
            obtain⟨olds,o,bv,a4⟩:=tZ (P:=P) (tx:=t) r c9 ax S (.inl ⟨e,hu⟩)
            have K:old.length=len:=by have aI:=o.len w;simp [Builtin.lenOf]at aI;exact aI.symm
            rw [K,B]at o;have ag:=grow (some E) g olds o.cellsD V;have A:=grownCap_ge w (len+new.length) g e;have am:(olds++news).length=(len+new.length)*k.size:=by rw [dt,src.newsLen,o.newsLen,iO]
            obtain⟨cq,cn⟩:=xB (vs:=olds++news) (zs:=C.cells) (n:=len+new.length) (c:=grownCap w (len+new.length) g e) (es:=k.size) am d1 A;have W:(old++new).length*b9.size=(len+new.length)*k.size:=by rw [dt,K,B]
            refine⟨_,_,φ.add nid 0 ⟨w.heap.size,0,0,b9.size,grownCap w (len+new.length) g e,false,false⟩,ag,fv.add φ _ (hid 0) _,
             aB.h5 (ex:=false) (Nat.le_refl _) A (Nat.le_refl _) an,?_,ce.alloc (by simpa using O) _,rfl⟩
            refine(r.alike (Alike.rk w)).aj hid az (by simpa using O) S (λe he=> ?_) ?_ ?_ (by rw [dt,K];exact A) ?_ (λq h=>by cases h;exact⟨rfl,λh=>absurd rfl h⟩)
            .rcases eG.1 he with he|he
             .exact a4 e he
             .exact U e he
            .rw [W,cn,BP];exact bv.append M
            .rw [cq,B];exact Nat.le_refl _
            .rw [W,cn];intro y m;rcases eG.1 m with m|m
             .exact o.one y m
             .exact src.one y m
           .cases f
          .rename_i ct;split at f
           .rename_i co;obtain⟨L,G,i0,it,bn⟩:=co;simp only [a6,bo]at f;obtain⟨rfl,rfl⟩:=f;have d6:b.exact=false:=by simpa using ct
            rw [G]at ae;by_cases em:len+new.length<=g
            ·
              rcases Z with gt|⟨c0,rfl,dg⟩
              .exfalso;have el:new.length=0:= V;omega
              .obtain⟨a0,N⟩:=r.IU ae H L (new:=new) V V (by rw [a9,<-B];exact U) M src.one
               have c3:p.off+(b.aQ.length-p.aD)*p.es=p.off+(a.idx-p.aD)*p.es+0+len*k.size:=by have:b.aQ.length-p.aD=(a.idx-p.aD)+len:= V;rw [this,iO,<-a9];omega
               rw [c3]at a0 N;have c5:=run_append_room_src (P:=P) w t tx ty e k hu av p.bH (p.off+(a.idx-p.aD)*p.es+0) len g bt new.length news src em (λj I=>(N j I).1) (λj I=>(N j I).2)
               have c2:φ a.id (b.ab+1)=none:=by
                cases c4:φ a.id (b.ab+1)with
                |none=>rfl
                |some q=>obtain⟨_,d4,h2,e0,_⟩:=r.cI _ _ _ c4;rw [H]at h2;simp at h2;subst h2;omega
               refine⟨_,_,φ.add a.id (b.ab+1) p,c5,⟨φ.om p c2,λi ah a5 X u=> ?_,φ.xn p (g6 L)⟩,?_,a0,?_,rfl⟩
               .have:i≠a.id:=by rintro rfl;rw [X]at ae;cases ae
                simp [Map.add,this,X u]
               .simp only [aB];refine⟨_,g,rfl,Nat.le_refl _,em,.inl ⟨F,p,by rw [G];exact Map.tS _ _ _ _,R,.inr ⟨c0,rfl,dg⟩,λh=> ?_⟩⟩;rw [g5,d6]at h;cases h
               .exact rc _ (g8.base (g6 L)) _ _ Q
            ·
              have c9:aB φ (.slice (some a) len cap) (.slice (some E) len g):=by simp only [aB];exact⟨E,g,rfl,d3,l2,.inl ⟨F,p,by rw [G];exact ae,R,Z,hex⟩⟩
              have ax:dF b9.size (.slice (some a) len cap) h=some ((b.aQ.drop a.idx).take len):=by
               simp only [dF,F,fn,dy,H];split
               .rename_i aN;simp [aN]
               .rw [aE];rw [G];simp [ac.b0];omega
              obtain⟨olds,o,bv,a4⟩:=tZ (P:=P) (tx:=t) r c9 ax S (.inl ⟨e,hu⟩);have f5:(b.aQ.drop a.idx).take len=b.aQ.drop a.idx:=kX (by simp;omega);rw [f5]at bv a4 o;have K:(b.aQ.drop a.idx).length=len:=by simp;omega
              rw [K,B]at o;have ag:=grow (some E) g olds o.cellsD V;have A:=grownCap_ge w (len+new.length) g e;have am:(olds++news).length=(len+new.length)*k.size:=by rw [dt,src.newsLen,o.newsLen,iO]
              obtain⟨cq,cn⟩:=xB (vs:=olds++news) (zs:=C.cells) (n:=len+new.length) (c:=grownCap w (len+new.length) g e) (es:=k.size) am d1 A;have d5:b.es=k.size:= V;have W:(b.aQ.drop a.idx++new).length*b.es=(len+new.length)*k.size:=by rw [dt,K,d5]
              have c2:φ a.id (b.ab+1)=none:=by
               cases c4:φ a.id (b.ab+1)with
               |none=>rfl
               |some q=>obtain⟨_,d4,h2,e0,_⟩:=r.cI _ _ _ c4;rw [H]at h2;simp at h2;subst h2;omega
              refine⟨_,_,φ.add a.id (b.ab+1) ⟨w.heap.size,0,a.idx,b.es,grownCap w (len+new.length) g e,false,false⟩,ag,⟨φ.om _ c2,λi ah a5 X u=> ?_,φ.xn _ rfl⟩,?_,?_,ce.alloc (by simpa using O) _,rfl⟩
              .have:i≠a.id:=by rintro rfl;rw [X]at ae;cases ae
               simp [Map.add,this,X u]
              .simp only [aB];refine⟨_,_,rfl,Nat.le_refl _,A,.inl ⟨F,_,by rw [G];exact Map.tS _ _ _ _,by rw [<-g4,R],.inr ⟨Nat.le_refl _,by simp [Place.at],an⟩,an⟩⟩
              .refine(r.alike (Alike.rk w)).IT ae H L d6 (by simpa using O) V (λe he=>by rw [a4 e he];omega) (λe he=>by rw [U e he];omega) ?_ (by rw [cq,d5];exact Nat.le_refl _) (by rw [dt,K];exact A) ?_ (λq h=>by rcases bn with bn|bn<;>rw [bn]at h<;>cases h;exact⟨rfl,λh=>absurd rfl h⟩)
               .rw [W,cn,BP];exact bv.append M
               .rw [W,cn];intro y m;rcases eG.1 m with m|m
                .exact o.one y m
                .exact src.one y m
           .cases f
        .cases f
       .cases f
     .cases f
    .cases f
   .cases f
  .cases f
 .cases f
end
end
noncomputable section
open Go.RowKit
section
variable {P:Program}{φ:Map}
theorem BQ:∀{l:List J}{s:List UInt8}{news:List Value},bytesOf l=some s->bc φ (flat l) news-> ∃bb:List Int,news=bb.map (Value.int .u8)/\s=bb.map (λn=>UInt8.ofNat n.toNat)
 |[],s,news,h,k=>by simp only [bytesOf,a6]at h;subst h;simp only [flat,List.flatMap_nil,bc]at k;subst k;exact⟨[],rfl,rfl⟩
 |a ::r,s,news,h,k=>by
  unfold bytesOf at h;split at h
  .rename_i aN;cases aN
  .rename_i n f e;simp only [fT]at e;obtain⟨rfl,rfl⟩:=e;cases b:bytesOf r with
   |none=>rw [b]at h;cases h
   |some q =>
    rw [b]at h;simp only [ev,a6]at h;subst h;simp only [flat,kW,J.cells,hA,eg,bc]at k;obtain⟨v,t,rfl,c,d⟩:=k;simp only [aB]at c;subst c;obtain⟨bb,aI,aO⟩:=BQ b d;exact⟨n::bb,by rw [aI];rfl,by rw [aO];rfl⟩
  .cases h
theorem BR:∀{l:List J}{s:List UInt8}{news:List Value},bytesOf l=some s->tR l=true->bc φ (flat l) news->news=s.map λx=>Value.int .u8 x.toNat
 |[],s,news,h,b,k=>by simp only [bytesOf,a6]at h;subst h;simp only [flat,List.flatMap_nil,bc]at k;subst k;rfl
 |a ::r,s,news,h,b,k=>by
  unfold bytesOf at h;split at h
  .rename_i aN;cases aN
  .rename_i n g e;simp only [fT]at e;obtain⟨rfl,rfl⟩:=e;cases c:bytesOf r with
   |none=>rw [c]at h;cases h
   |some q =>
    rw [c]at h;simp only [ev,a6]at h;subst h;simp only [tR,cS,gx]at b;simp only [flat,kW,J.cells,hA,eg,bc]at k;obtain⟨v,t,rfl,d,f⟩:=k;simp only [aB]at d;subst d;rw [BR c b.2 f,eF]
    have:((UInt8.ofNat n.toNat).toNat:Int)=n:=by rw [po,qY V];omega
    rw [this]
  .cases h
theorem t'(w:World)(a:Addr){n:Nat}(az:n≠0)(k:Nat):(w.freeze a n).heap[k]? =if a.block=k then(w.heap[k]?).map λo=>match o with
 |.cells c elem (aD,ah)=> .cells c elem (if aD == ah then(a.off,a.off+n)else(min aD a.off,max ah (a.off+n)))
 |o=>o else w.heap[k]? :=by
 unfold World.freeze;rw [ap az];simp only [Array.getElem?_modify];rfl
theorem ua(w:World)(a x:Addr){n:Nat}(az:n≠0):(w.freeze a n).cell? x=w.cell? x:=by
 unfold World.cell?;rw [t' w a az];by_cases h:a.block=x.block
 .rw [aE h];cases b:w.heap[x.block]? with
  |none=>rfl
  |some o =>
   cases o;case cells c t f=>obtain⟨aD,ah⟩:=f;rfl
   all_goals rfl
 .rw [ap h]
theorem Jr{w:World}{a:Addr}{m:Nat}(hm:m≠0){k:Nat}{t:TypeId}{n aD ah:Nat}(h:ed w k=some (t,n,aD,ah)):∃aD ah,ed (w.freeze a m) k=some (t,n,aD,ah):=by
 unfold ed at h⊢;rw [t' w a hm];by_cases e:a.block=k
 .rw [aE e];cases b:w.heap[k]? with
  |none=>rw [b]at h;cases h
  |some o =>
   rw [b]at h;cases o
   case cells c j f =>
    obtain⟨i,d⟩:=f;simp only [a6,bo]at h;obtain⟨rfl,rfl,rfl,rfl⟩:=h;simp only [ev];by_cases g:i=d
    .exact⟨a.off,a.off+m,by simp [g]⟩
    .exact⟨min i a.off,max d (a.off+m),by simp [g]⟩
   all_goals cases h
 .rw [ap e];exact⟨aD,ah,h⟩
theorem xC(w:World)(a:Addr)(n:Nat):(w.freeze a n).heap.size=w.heap.size:=by unfold World.freeze;split<;>simp
theorem cg.Js{aM:Nat->Prop}{h:T}{w:World}(r:cg φ aM h w){id v:Nat}{p:Place}{b:ac}(ae:φ id v=some p)(D:h.get id=some b)(I:b.ro=false){a:Addr}(G:a.block=p.bH){n:Nat}(az:n≠0) :
 cg φ aM (h.set id {b with ro:=true}) (w.freeze a n) where
 cI i u q E:=by
  obtain⟨aa,c,h2,z,A,B,F,C,d⟩:=r.cI i u q E;by_cases e:id=i
  .subst e;rw [D]at h2;simp at h2;subst h2;refine⟨aa,_,T.eT _ _ _,z,A,B,nofun,C,⟨by rw [xC];exact d.bH,d.base,λo f=>by rw [ua w a _ az];exact d.cells o f,nofun,nofun,λt9 g=> ?_,λi e g1 g2 g3=> ?_⟩⟩
   .obtain⟨P,R,i9,N,K,L⟩:=d.ha t9 g;obtain⟨O,i8,M⟩:=Jr (a:=a) az N;exact⟨P,O,i8,M,K,L⟩
   .obtain⟨cq,cn,ei⟩:=d.cont i e g1 g2 g3
    exact⟨cq,cn,λj bt s=>by
     obtain⟨x,t,y⟩:=ei j bt s
     exact⟨x,by rw [ua w a _ az];exact t,y⟩⟩
  .obtain⟨_,Q,g2,_,_,_,g6,_,_⟩:=r.cI id v p ae;rw [D]at g2;simp at g2;subst g2
   have H:p.bH≠q.bH:=λk=>by have:=(r.apart id v p i u q ae E k e).1;rw [g6 I]at this;cases this
   have l:(w.freeze a n).heap[q.bH]? =w.heap[q.bH]? :=by rw [t' w a az,ap (by rw [G];exact H)]
   refine⟨aa,c,by rw [T.eO _ _ e];exact h2,z,A,B,F,C,⟨by rw [xC];exact d.bH,d.base,λo f=>by rw [ua w a _ az];exact d.cells o f,λm o f=> ?_,λm=>(d.mark m).of_eq (ol l),λt9 g=>by rw [ol l];exact d.ha t9 g,λi e g1 g2 g3=> ?_⟩⟩
   .have:=d.free m o f;unfold World.frozen? at this⊢;rw [l];exact this
   .obtain⟨cq,cn,ei⟩:=d.cont i e g1 g2 g3
    exact⟨cq,cn,λj bt s=>by
     obtain⟨x,t,y⟩:=ei j bt s
     exact⟨x,by rw [ua w a _ az];exact t,y⟩⟩
 apart:=r.apart
 same:=r.same
theorem Safe.Jt{S:Nat->Prop}{a w:World}(h:Safe S a w){p:Addr}(ae:¬S p.block){n:Nat}(az:n≠0):Safe S a (w.freeze p n) :=
 h.trans ⟨by unfold World.freeze;rw [ap az],by unfold World.freeze;rw [ap az],by unfold World.freeze;rw [ap az],by rw [xC];exact Nat.le_refl _,λk b=>by
  have c:¬p.block=k:=λe=>ae (by rw [e];exact b)
  rw [t' w p az,ap c]⟩
theorem Ju{w:World}{k:Nat}{t:TypeId}{n aD ah:Nat}(h:ed w k=some (t,n,aD,ah)):w.shape? k=some (t,n):=by
 unfold ed at h;unfold World.shape?;cases a:w.heap[k]? with
 |none=>rw [a]at h;cases h
 |some o =>
  rw [a]at h;cases o
  case cells c e f =>
   obtain⟨d,b⟩:=f;simp only [a6,bo]at h;obtain⟨rfl,rfl,rfl,rfl⟩:=h;rfl
  all_goals cases h
theorem Jv{w:World}{k:Nat}{t:TypeId}{n aD ah o:Nat}(h:ed w k=some (t,n,aD,ah))(al:(w.cell? ⟨k,o,none⟩).isSome=true):o<n:=by
 unfold ed at h;unfold World.cell? at al;cases a:w.heap[k]? with
 |none=>rw [a]at h;cases h
 |some b =>
  simp only at al;rw [a]at h al;cases b
  case cells c g f =>
   obtain⟨e,d⟩:=f;simp only [a6,bo]at h;obtain⟨rfl,rfl,rfl,rfl⟩:=h;simp only [mH,ew,ey]at al;rcases gg o c.size with h|h
   .exact h
   .rw [n' h]at al;cases al
  all_goals cases h
theorem Jw{ts:Array TypeId}{ty:TypeId}{x v:J}{bt:Value}(b:aB φ x bt)(h:xi x=some v)(w:World) :
 ∃e,(Builtin.unsafeSliceData_ ts ty #[bt]).run P w=.ok e w/\aB φ v e:=by
 unfold xi at h;split at h
 .simp only [a6]at h;subst h;simp only [aB]at b;obtain⟨rfl,_,_⟩:=b;exact⟨.pointer none,rfl,by simp only [aB]⟩
 .rename_i a n c;split at h
  .rename_i al;simp only [a6]at h;subst h;simp only [aB]at b;obtain⟨r,d,rfl,q,l2,l⟩:=b;obtain⟨p,ae,i,k,hex⟩:=l.plain al.1;rcases k with o|⟨j,rfl,m⟩
   .omega
   .have f:d≠0:= V;refine⟨.pointer (some (p.at a.idx 0)),?_,?_⟩
    .have g:Builtin.unsafeSliceData_ ts ty #[.slice (some (p.at a.idx 0)) n d] =
      (do
       if d≠0 then pure (.pointer (some (p.at a.idx 0)))
       else if(<-viewAt (p.at a.idx 0).block).isSome then pure (.pointer (some (p.at a.idx 0)))
       else pure (.pointer (some ⟨<-newObj (.view (p.at a.idx 0) (<-elemOf ty)),0,none⟩))):=rfl
     rw [g,aE f];rfl
    .simp only [aB];exact⟨_,rfl,p,ae,i,j,by rw [al.1]⟩
  .cases h
 .cases h
theorem Jx{D:cN}(u:D.cx P){aM:Nat->Prop}{h ad:T}{aS w:World}(r:cg φ aM h w)(y:Safe aM aS w){ts:Array TypeId}{t ty:TypeId}(a4:ts[0]? =some t){p:Option aT}{n:Int}{bt:Value}(f:aB φ (.ptr p) bt){v:J}
 (c:xh D t p n h=some (v,ad)) :
 ∃M aZ,(Builtin.unsafeString_ ts ty #[bt,.int .i64 n]).run P w=.ok M aZ/\aB φ v M/\cg φ aM ad aZ/\Safe aM aS aZ/\ad.Y=h.Y:=by
 have B:∀(ts:Array TypeId) q,Builtin.unsafeString_ ts ty #[.pointer q,.int .i64 n]=(do
  let n <-asInt (.int .i64 n)
  let some a9:=ts[0]? | stuck "unsafe.String: no argument types"
  if n<0 then runtimePanic (.error "unsafe.String: len out of range")
  if n>IntKind.i64.max then unsupported (.unsafePointer "String: a length above the largest int")
  match q with
  |none =>
   if n=0 then pure (.string .empty)
   else runtimePanic (.error "unsafe.String: ptr is nil and len is not zero")
  |some a =>
   if n=0 then pure (.string .empty)
   else if <-variablesAt a (<-elemOf a9) n.toNat then do
    let s <-loadBytes a .empty n.toNat
    freeze a n.toNat
    pure (.string s)
   else unsupported (.unsafePointer "String: not so many bytes at ptr")):=λ_ _=>rfl
 have H:∀q,(Builtin.unsafeString_ ts ty #[.pointer q,.int .i64 n]).run P w=(Builtin.unsafeString_ #[t,t] ty #[.pointer q,.int .i64 n]).run P w:=λq=>by
  have e:ts[0]? =(#[t,t]:Array TypeId)[0]? :=by rw [a4];rfl
  rw [B,B,e]
 unfold xh at c;split at c
 .rename_i aN;subst aN;simp only [a6,bo]at c;obtain⟨rfl,rfl⟩:=c
  obtain⟨q,rfl⟩:∃q,bt=.pointer q:=by
   cases p with
   |none=>simp only [aB]at f;exact⟨_,f⟩
   |some a=>simp only [aB]at f;obtain⟨x,rfl,_⟩:=f;exact⟨_,rfl⟩
  refine⟨_,w,by rw [H];exact Go.Lib.run_unsafeString_none w _ _ _ q,?_,r,y,rfl⟩;simp only [aB];exact⟨_,rfl,rfl⟩
 .rename_i aN;split at c
  .rename_i d a S;obtain⟨ce,co,dp,W,U, -⟩:=u.get S;split at c
   .rename_i e b C g;rw [U]at C;have:=tV C;subst this;split at c
    .rename_i ct X;obtain⟨c0,dg,Z,d2,d0,d1, -⟩:=u.get X;split at c
     .rename_i al;obtain⟨cs,c2,c3,c4,c5,l,O,b2,c9,bv,N⟩:=al;cases i:bytesOf (b.aQ.take n.toNat)with
      |none=>rw [i]at c;cases c
      |some s =>
       rw [i]at c;simp only [ev,a6,bo]at c;obtain⟨rfl,rfl⟩:=c;simp only [aB]at f;obtain⟨x,rfl,pl,ae,d4,d3,rfl⟩:=f;obtain⟨g1,bn,g2,g3,g4,g5,g6,g7,g8⟩:=r.cI _ _ _ ae;rw [g]at g2;simp at g2;subst g2;obtain⟨m,aD,ah,I,d5,K⟩:=g8.ha _ O;obtain⟨news,L,n2,d6,d7,a5⟩:=r.xA ae g (idx:=0) (len:=n.toNat) V V V;rw [oa]at L;have E:=BR i N L;have a2:pl.es=1:= V
       have G:s.length=n.toNat:=by have:=a5;rw [E,gy,a2,lG]at this;exact this
       have Q:pl.at a.idx a.fld=⟨pl.bH,0,none⟩:=by simp [Place.at,c3,c4,K]
       have A:∀j x,s[j]? =some x->w.cell? ((⟨pl.bH,0,none⟩:Addr).add j)=some (.int .u8 x.toNat):=by intro j x am;have az:=n2 j (.int .u8 x.toNat) (by rw [E,fc,am];rfl);rw [Addr.add_mid,eM];simpa [K]using az
       have k:s≠[]:=by rintro rfl;simp at G;omega
       have hle:s.length<=m:=by
        have av:s.length-1<s.length:=by have:=fS.2 k;omega
        have z:=A (s.length-1) _ (c7 av);rw [Addr.add_mid,eM]at z;have:=Jv I (o:=s.length-1) (by rw [z];rfl);omega
       have R:P.cellsOf e=1:=by unfold Program.cellsOf;rw [Z];simp;omega
       have a3:=Go.Lib.run_unsafeString_row (P:=P) w t t ty e W R pl.bH m (Ju I) s k hle V A;have a0:(n:Int)=s.length:=by rw [G];omega
       have F:s.length≠0:=by simp only [ne_eq,mG];exact k
       have cq:cg φ aM (h.set a.id {b with ro:=true}) (w.freeze ⟨pl.bH,0,none⟩ s.length):=r.Js (a:=⟨pl.bH,0,none⟩) ae g l rfl F;have cn:Safe aM aS (w.freeze ⟨pl.bH,0,none⟩ s.length):=Safe.Jt y (p:=⟨pl.bH,0,none⟩) (g8.base (g6 l)) F;refine⟨.string ⟨s.toArray⟩,w.freeze ⟨pl.bH,0,none⟩ s.length,?_,?_,cq,cn,rfl⟩
       .rw [H,Q,a0];exact a3
       .simp only [aB];exact⟨_,rfl,an⟩
     .cases c
    .cases c
   .cases c
  .cases c
end
end
end Go.bh
