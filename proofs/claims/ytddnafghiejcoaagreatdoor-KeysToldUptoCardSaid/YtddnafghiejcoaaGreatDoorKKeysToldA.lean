/-
  Parts of the proof of KeysTold.
-/
import Derived.Calls
import Derived.Orders
import Derived.Lib.Bytealg
import Derived.Below
import Derived.Deep.MidRow
import Derived.WalkKit
import Derived.ChangeKeysEq
import Derived.WalkLawsBesides
import Derived.Deep.AppendSrc
import Derived.Deep.Upon
import Derived.Lib.UnsafeStr
set_option linter.unusedVariables false
set_option linter.unusedSimpArgs false
namespace Go.cH
inductive aU(α:Type) where
 |nil
 |node (v:Option α) (l r:aU α)
section
variable {α:Type}
noncomputable def aU.get(t:aU α):Nat→Option α :=
 aU.rec (motive:=fun _=>Nat→Option α) (fun _=>none)
  (fun v _ _ QP QQ k=>cond (Nat.beq k 0) v (cond (Nat.beq (k%2) 1) (QP (k/2)) (QQ (k/2-1)))) t
noncomputable def aU.h2(f:Nat):Nat→α→aU α :=
 Nat.rec (motive:=fun _=>Nat→α→aU α) (fun _ v=> .node (some v) .nil .nil)
  (fun _ ih k v=>cond (Nat.beq k 0) (.node (some v) .nil .nil) (cond (Nat.beq (k%2) 1) (.node none (ih (k/2) v) .nil) (.node none .nil (ih (k/2-1) v)))) f
noncomputable def aU.set(t:aU α):Nat→α→aU α :=
 aU.rec (motive:=fun _=>Nat→α→aU α) (fun k v=>aU.h2 k k v)
  (fun U l r pa Cd k v=>cond (Nat.beq k 0) (.node (some v) l r) (cond (Nat.beq (k%2) 1) (.node U (pa (k/2) v) r) (.node U l (Cd (k/2-1) v)))) t
theorem beq_true{a b:Nat}(h:a=b):Nat.beq a b=true:=by subst h;exact Nat.beq_refl a
theorem beq_false{a b:Nat}(h:a≠b):Nat.beq a b=false:=by
 cases av:Nat.beq a b with
 |false=>rfl
 |true=>exact absurd (Nat.eq_of_beq_eq_true av) h
theorem aU.n5(k:Nat):(aU.nil:aU α).get k=none:=rfl
theorem aU.k7(v:Option α)(l r:aU α):(aU.node v l r).get 0=v:=rfl
theorem aU.kE(v:Option α)(l r:aU α)(m:Nat):(aU.node v l r).get (2*m+1)=l.get m:=by show cond (Nat.beq (2*m+1) 0) v (cond (Nat.beq ((2*m+1)%2) 1) (l.get ((2*m+1)/2)) (r.get ((2*m+1)/2-1)))=_;rw [beq_false (by omega),beq_true (by omega),show(2*m+1)/2=m by omega];rfl
theorem aU.kF(v:Option α)(l r:aU α)(m:Nat):(aU.node v l r).get (2*m+2)=r.get m:=by show cond (Nat.beq (2*m+2) 0) v (cond (Nat.beq ((2*m+2)%2) 1) (l.get ((2*m+2)/2)) (r.get ((2*m+2)/2-1)))=_;rw [beq_false (by omega),beq_false (by omega),show(2*m+2)/2-1=m by omega];rfl
theorem aU.rJ(f:Nat)(v:α):aU.h2 f 0 v=.node (some v) .nil .nil:=by cases f<;>rfl
theorem aU.yA(f m:Nat)(v:α):aU.h2 (f+1) (2*m+1) v=.node none (aU.h2 f m v) .nil:=by show cond (Nat.beq (2*m+1) 0) (aU.node (some v) .nil .nil) (cond (Nat.beq ((2*m+1)%2) 1) (aU.node none (aU.h2 f ((2*m+1)/2) v) .nil) (aU.node none .nil (aU.h2 f ((2*m+1)/2-1) v)))=_;rw [beq_false (by omega),beq_true (by omega),show(2*m+1)/2=m by omega];rfl
theorem aU.yB(f m:Nat)(v:α):aU.h2 (f+1) (2*m+2) v=.node none .nil (aU.h2 f m v):=by show cond (Nat.beq (2*m+2) 0) (aU.node (some v) .nil .nil) (cond (Nat.beq ((2*m+2)%2) 1) (aU.node none (aU.h2 f ((2*m+2)/2) v) .nil) (aU.node none .nil (aU.h2 f ((2*m+2)/2-1) v)))=_;rw [beq_false (by omega),beq_false (by omega),show(2*m+2)/2-1=m by omega];rfl
theorem aU.set_nil(k:Nat)(v:α):(aU.nil:aU α).set k v=aU.h2 k k v:=rfl
theorem aU.lI(U:Option α)(l r:aU α)(v:α):(aU.node U l r).set 0 v=.node (some v) l r:=rfl
theorem aU.jj(U:Option α)(l r:aU α)(m:Nat)(v:α):(aU.node U l r).set (2*m+1) v=.node U (l.set m v) r:=by show cond (Nat.beq (2*m+1) 0) (aU.node (some v) l r) (cond (Nat.beq ((2*m+1)%2) 1) (aU.node U (l.set ((2*m+1)/2) v) r) (aU.node U l (r.set ((2*m+1)/2-1) v)))=_;rw [beq_false (by omega),beq_true (by omega),show(2*m+1)/2=m by omega];rfl
theorem aU.jk(U:Option α)(l r:aU α)(m:Nat)(v:α):(aU.node U l r).set (2*m+2) v=.node U l (r.set m v):=by show cond (Nat.beq (2*m+2) 0) (aU.node (some v) l r) (cond (Nat.beq ((2*m+2)%2) 1) (aU.node U (l.set ((2*m+2)/2) v) r) (aU.node U l (r.set ((2*m+2)/2-1) v)))=_;rw [beq_false (by omega),beq_false (by omega),show(2*m+2)/2-1=m by omega];rfl
theorem three(k:Nat):k=0∨(∃m,k=2*m+1)∨ ∃m,k=2*m+2:=by
 rcases Nat.eq_zero_or_pos k with h|h
 ·exact .inl h
 ·rcases Nat.mod_two_eq_zero_or_one k with ae|ae
  ·exact .inr (.inr ⟨k/2-1,by omega⟩)
  ·exact .inr (.inl ⟨k/2,by omega⟩)
theorem aU.Iz(v:α):∀(k f g:Nat),k≤f→k≤g→aU.h2 f k v=aU.h2 g k v:=by
 intro k;induction k using Nat.strongRecOn with
 |_ k ih =>
  intro f g a6 ah;rcases three k with rfl|⟨m,rfl⟩|⟨m,rfl⟩
  ·rw [aU.rJ,aU.rJ]
  ·obtain⟨f,rfl⟩:∃gb,f=gb+1:=⟨f-1,by omega⟩
   obtain⟨g,rfl⟩:∃dA,g=dA+1:=⟨g-1,by omega⟩
   rw [aU.yA,aU.yA,ih m (by omega) f g (by omega) (by omega)]
  ·obtain⟨f,rfl⟩:∃gb,f=gb+1:=⟨f-1,by omega⟩
   obtain⟨g,rfl⟩:∃dA,g=dA+1:=⟨g-1,by omega⟩
   rw [aU.yB,aU.yB,ih m (by omega) f g (by omega) (by omega)]
theorem aU.QR(v:α):∀(k f C:Nat),k≤f→(aU.h2 f k v).get C=if k=C then some v else none:=by
 intro k;induction k using Nat.strongRecOn with
 |_ k ih =>
  intro f C a6;rcases three k with rfl|⟨m,rfl⟩|⟨m,rfl⟩
  ·rw [aU.rJ];rcases three C with rfl|⟨i,rfl⟩|⟨i,rfl⟩
   ·rw [aU.k7,if_pos rfl]
   ·rw [aU.kE,aU.n5,if_neg (by omega)]
   ·rw [aU.kF,aU.n5,if_neg (by omega)]
  ·obtain⟨f,rfl⟩:∃gb,f=gb+1:=⟨f-1,by omega⟩
   rw [aU.yA];rcases three C with rfl|⟨i,rfl⟩|⟨i,rfl⟩
   ·rw [aU.k7,if_neg (by omega)]
   ·rw [aU.kE,ih m (by omega) f i (by omega)];by_cases h:m=i
    ·rw [if_pos h,if_pos (by omega)]
    ·rw [if_neg h,if_neg (by omega)]
   ·rw [aU.kF,aU.n5,if_neg (by omega)]
  ·obtain⟨f,rfl⟩:∃gb,f=gb+1:=⟨f-1,by omega⟩
   rw [aU.yB];rcases three C with rfl|⟨i,rfl⟩|⟨i,rfl⟩
   ·rw [aU.k7,if_neg (by omega)]
   ·rw [aU.kE,aU.n5,if_neg (by omega)]
   ·rw [aU.kF,ih m (by omega) f i (by omega)];by_cases h:m=i
    ·rw [if_pos h,if_pos (by omega)]
    ·rw [if_neg h,if_neg (by omega)]
theorem aU.kG(v:α):∀(t:aU α)(k C:Nat),(t.set k v).get C=if k=C then some v else t.get C
 |.nil,k,C=>by rw [aU.set_nil,aU.QR v k k C (Nat.le_refl _),aU.n5]
 |.node U l r,k,C=>by
  rcases three k with rfl|⟨m,rfl⟩|⟨m,rfl⟩
  ·rw [aU.lI];rcases three C with rfl|⟨i,rfl⟩|⟨i,rfl⟩
   ·rw [aU.k7,if_pos rfl]
   ·rw [aU.kE,aU.kE,if_neg (by omega)]
   ·rw [aU.kF,aU.kF,if_neg (by omega)]
  ·rw [aU.jj];rcases three C with rfl|⟨i,rfl⟩|⟨i,rfl⟩
   ·rw [aU.k7,aU.k7,if_neg (by omega)]
   ·rw [aU.kE,aU.kE,aU.kG v l m i];by_cases h:m=i
    ·rw [if_pos h,if_pos (by omega)]
    ·rw [if_neg h,if_neg (by omega)]
   ·rw [aU.kF,aU.kF,if_neg (by omega)]
  ·rw [aU.jk];rcases three C with rfl|⟨i,rfl⟩|⟨i,rfl⟩
   ·rw [aU.k7,aU.k7,if_neg (by omega)]
   ·rw [aU.kE,aU.kE,if_neg (by omega)]
   ·rw [aU.kF,aU.kF,aU.kG v r m i];by_cases h:m=i
    ·rw [if_pos h,if_pos (by omega)]
    ·rw [if_neg h,if_neg (by omega)]
theorem aU.QS(x y:α):∀(a b:Nat),a≠b→(aU.h2 a a x).set b y=(aU.h2 b b y).set a x:=by
 intro a;induction a using Nat.strongRecOn with
 |_ a ih =>
  intro b rK
  have ti:∀(m:Nat)(v:α),aU.h2 (2*m+1) (2*m+1) v=.node none (aU.h2 m m v) .nil:=fun m v=>by rw [aU.yA,aU.Iz v m (2*m) m (by omega) (Nat.le_refl _)]
  have even:∀(m:Nat)(v:α),aU.h2 (2*m+2) (2*m+2) v=.node none .nil (aU.h2 m m v):=fun m v=>by rw [aU.yB,aU.Iz v m (2*m+1) m (by omega) (Nat.le_refl _)]
  rcases three a with rfl|⟨m,rfl⟩|⟨m,rfl⟩<;>rcases three b with rfl|⟨i,rfl⟩|⟨i,rfl⟩
  ·exact absurd rfl rK
  ·rw [aU.rJ,ti,aU.jj,aU.lI,aU.set_nil]
  ·rw [aU.rJ,even,aU.jk,aU.lI,aU.set_nil]
  ·rw [aU.rJ,ti,aU.jj,aU.lI,aU.set_nil]
  ·rw [ti,ti,aU.jj,aU.jj,ih m (by omega) i (by omega)]
  ·rw [ti,even,aU.jj,aU.jk,aU.set_nil,aU.set_nil]
  ·rw [aU.rJ,even,aU.jk,aU.lI,aU.set_nil]
  ·rw [ti,even,aU.jj,aU.jk,aU.set_nil,aU.set_nil]
  ·rw [even,even,aU.jk,aU.jk,ih m (by omega) i (by omega)]
theorem aU.set_comm(x y:α):∀(t:aU α)(a b:Nat),a≠b→(t.set a x).set b y=(t.set b y).set a x
 |.nil,a,b,h=>by rw [aU.set_nil,aU.set_nil,aU.QS x y a b h]
 |.node U l r,a,b,h=>by
  rcases three a with rfl|⟨m,rfl⟩|⟨m,rfl⟩<;>rcases three b with rfl|⟨i,rfl⟩|⟨i,rfl⟩
  ·exact absurd rfl h
  ·rw [aU.lI,aU.jj,aU.jj,aU.lI]
  ·rw [aU.lI,aU.jk,aU.jk,aU.lI]
  ·rw [aU.lI,aU.jj,aU.jj,aU.lI]
  ·rw [aU.jj,aU.jj,aU.jj,aU.jj,aU.set_comm x y l m i (by omega)]
  ·rw [aU.jj,aU.jk,aU.jk,aU.jj]
  ·rw [aU.jk,aU.lI,aU.lI,aU.jk]
  ·rw [aU.jk,aU.jj,aU.jj,aU.jk]
  ·rw [aU.jk,aU.jk,aU.jk,aU.jk,aU.set_comm x y r m i (by omega)]
def Ce(f:α→α→Bool):Option α→Option α→Bool
 |none,none=>true
 |some a,some b=>f a b
 |_,_=>false
def aU.qg(cE:Nat):aU α→Nat→Nat→Bool
 |.nil,_,_=>true
 |.node v l r,I,s=>(!decide (I<cE) || v.isNone)&&l.qg cE (I+s) (2*s)&&r.qg cE (I+2*s) (2*s)
def aU.ni(f:α→α→Bool)(cE:Nat):aU α→aU α→Nat→Nat→Bool
 |.nil,u,I,s=>u.qg cE I s
 |.node v l r,.nil,I,s=>(aU.node v l r).qg cE I s
 |.node v l r,.node bp c3 fG,I,s=>(!decide (I<cE) || Ce f v bp)&&aU.ni f cE l c3 (I+s) (2*s)&&aU.ni f cE r fG (I+2*s) (2*s)
theorem yC(I s m:Nat):I+s* (2*m+1)=I+s+2*s*m:=by rw [Nat.mul_add,Nat.mul_one,←Nat.mul_assoc,Nat.mul_comm s 2];omega
theorem yD(I s m:Nat):I+s* (2*m+2)=I+2*s+2*s*m:=by rw [Nat.mul_add,←Nat.mul_assoc,Nat.mul_comm s 2];omega
theorem aU.yE(cE:Nat):∀(t:aU α)(I s:Nat),t.qg cE I s=true→ ∀k,I+s*k<cE→t.get k=none
 |.nil,I,s,_,k,_=>rfl
 |.node v l r,I,s,h,k,ao=>by
  simp only [aU.qg,Bool.and_eq_true,Bool.or_eq_true,Bool.not_eq_true',decide_eq_false_iff_not]at h;obtain⟨⟨p,ae⟩,bg⟩:=h;rcases three k with rfl|⟨m,rfl⟩|⟨m,rfl⟩
  ·rw [aU.k7];rcases p with p|p
   ·simp at ao;omega
   ·simpa using p
  ·rw [aU.kE];rw [yC]at ao;exact aU.yE cE l _ _ ae m ao
  ·rw [aU.kF];rw [yD]at ao;exact aU.yE cE r _ _ bg m ao
theorem aU.yF(cE:Nat):∀(t:aU α)(I s:Nat),(∀k,I+s*k<cE→t.get k=none)→t.qg cE I s=true
 |.nil,I,s,_=>rfl
 |.node v l r,I,s,h=>by
  simp only [aU.qg,Bool.and_eq_true,Bool.or_eq_true,Bool.not_eq_true',decide_eq_false_iff_not];refine⟨⟨?_,?_⟩,?_⟩
  ·by_cases ac:I<cE
   ·right;have:=h 0 (by simpa using ac);rw [aU.k7]at this;simp [this]
   ·exact .inl ac
  ·exact aU.yF cE l _ _ fun m hm=>by have:=h (2*m+1) (by rw [yC];exact hm);rwa [aU.kE]at this
  ·exact aU.yF cE r _ _ fun m hm=>by have:=h (2*m+2) (by rw [yD];exact hm);rwa [aU.kF]at this
theorem aU.Cf{f:α→α→Bool}(a6:∀a b,f a b=true→a=b)(cE:Nat):∀(t u:aU α)(I s:Nat),aU.ni f cE t u I s=true→ ∀k,I+s*k<cE→t.get k=u.get k
 |.nil,u,I,s,h,k,ao=>by rw [aU.n5,aU.yE cE u I s (by simpa [aU.ni]using h) k ao]
 |.node v l r,.nil,I,s,h,k,ao=>by rw [aU.n5,aU.yE cE _ I s (by simpa [aU.ni]using h) k ao]
 |.node v l r,.node bp c3 fG,I,s,h,k,ao=>by
  simp only [aU.ni,Bool.and_eq_true,Bool.or_eq_true,Bool.not_eq_true',decide_eq_false_iff_not]at h;obtain⟨⟨p,ae⟩,bg⟩:=h;rcases three k with rfl|⟨m,rfl⟩|⟨m,rfl⟩
  ·rw [aU.k7,aU.k7];rcases p with p|p
   ·simp at ao;omega
   ·cases v<;>cases bp<;>simp [Ce]at p<;>first|rfl|(rw [a6 _ _ p])
  ·rw [aU.kE,aU.kE];rw [yC]at ao;exact aU.Cf a6 cE l c3 _ _ ae m ao
  ·rw [aU.kF,aU.kF];rw [yD]at ao;exact aU.Cf a6 cE r fG _ _ bg m ao
theorem aU.Cg{f:α→α→Bool}(a6:∀a,f a a=true)(cE:Nat):∀(t u:aU α)(I s:Nat),(∀k,I+s*k<cE→t.get k=u.get k)→aU.ni f cE t u I s=true
 |.nil,u,I,s,h=>by simp only [aU.ni];exact aU.yF cE u I s fun k ao=>by rw [←h k ao,aU.n5]
 |.node v l r,.nil,I,s,h=>by simp only [aU.ni];exact aU.yF cE _ I s fun k ao=>by rw [h k ao,aU.n5]
 |.node v l r,.node bp c3 fG,I,s,h=>by
  simp only [aU.ni,Bool.and_eq_true,Bool.or_eq_true,Bool.not_eq_true',decide_eq_false_iff_not];refine⟨⟨?_,?_⟩,?_⟩
  ·by_cases ac:I<cE
   ·right;have:=h 0 (by simpa using ac);rw [aU.k7,aU.k7]at this;subst this;cases v<;>simp [Ce,a6]
   ·exact .inl ac
  ·exact aU.Cg a6 cE l c3 _ _ fun m hm=>by have:=h (2*m+1) (by rw [yC];exact hm);rwa [aU.kE,aU.kE]at this
  ·exact aU.Cg a6 cE r fG _ _ fun m hm=>by have:=h (2*m+2) (by rw [yD];exact hm);rwa [aU.kF,aU.kF]at this
end
end Go.cH
namespace Go.cH
noncomputable section
structure bH where
 id:Nat
 R:Nat
 idx:Nat
 bP:Nat
 es:Nat
 deriving DecidableEq
inductive o where
 |undef
 |bool (b:Bool)
 |int (k:IntKind) (n:Int)
 |str (s:List UInt8)
 |ptr (a:Option bH)
 |slice (a:Option bH) (len cap:Nat)
 |func (fn:Fn) (first captured:List o)
 |nilFunc
 |iface (t:TypeId) (v:o)
 |nilIface
 |agg (bn:List o)
 |tuple (cd:List o)
 deriving Inhabited
abbrev gf:o:= .tuple []
def o.cells:o→List o
 |.agg bn=>bn
 |v=> [v]
def kH:Value→o
 |.bool b=> .bool b
 |.int k n=> .int k n
 |.string s=> .str s.data.toList
 |.pointer none=> .ptr none
 |.slice none 0 0=> .slice none 0 0
 |.nilFunc=> .nilFunc
 |.nilIface=> .nilIface
 |_=> .undef
def qh:Value→o
 |.agg bn=> .agg (bn.toList.map kH)
 |.iface t v=> .iface t (kH v)
 |v=>kH v
inductive j0 where
 |int (k:IntKind)|bool|string|ptr (e:TypeId)|slice (e:TypeId)|array (n:Nat) (e:TypeId)
 |struct (cV:List (Nat×TypeId))|func|iface (own:Bool)|other
 deriving Inhabited
structure qi where
 kind:j0
 size:Nat
 bytes:Nat
 zero:Option o
 deriving Inhabited
def j0.isAgg:j0→Bool
 |.struct _|.array _ _=>true
 |_=>false
def gV:TypeDesc→j0
 |.int k=> .int k
 |.bool=> .bool
 |.string=> .string
 |.pointer e=> .ptr e
 |.slice e=> .slice e
 |.array n e=> .array n e
 |.struct cV=> .struct (cV.toList.map fun f=>(f.offset,f.type))
 |.func _ _ _=> .func
 |.interface yG=> .iface (!yG.isEmpty)
 |_=> .other
def yH(P:Program)(t:TypeId):Option qi :=
 match P.info? t,P.underlying t with
 |some i,some d=>some {kind:=gV d,size:=i.size,bytes:=i.bytes,zero:=i.zero.map qh}
 |_,_=>none
abbrev dI:=TypeId→Option qi
def dI.dr(D:dI)(P:Program):Prop:= ∀t d,D t=some d→yH P t=some d
structure J where
 bi:List o
 es:Nat
 exact:Bool
 ro:Bool
 R:Nat
 fQ:Nat
 gF:Nat
 an:Option (TypeId×Nat)
 deriving Inhabited
structure j where
 next:Nat
 aT:aU J
def j.get(h:j)(id:Nat):Option J:=h.aT.get id
def j.set(h:j)(id:Nat)(b:J):j:= {h with aT:=h.aT.set id b}
def J.cE(b:J)(R:Nat):Nat :=
 if R=b.R then b.bi.length else if b.fQ≤R∧R<b.R then b.gF else 0
def J.elem?(b:J)(R idx:Nat):Option o :=
 if idx<b.cE R then b.bi[idx]? else none
def J.made(bi:List o)(es:Nat)(exact:Bool)(an:Option (TypeId×Nat):=none):J :=
 {bi,es,exact,ro:=false,R:=0,fQ:=0,gF:=0,an}
def J.grow(b:J)(new:List o):J :=
 {b with bi:=b.bi++new,R:=b.R+1,gF:=if b.fQ=b.R then b.bi.length else min b.gF b.bi.length}
def iQ(l:List o)(i:Nat):List o→List o
 |[]=>l
 |v::cd=>iQ (l.set i v) (i+1) cd
def J.put(b:J)(idx:Nat)(cd:List o):J :=
 {b with bi:=iQ b.bi idx cd,fQ:=b.R}
def iR(hC:Bool)(size bP:Nat)(e:o):Option o :=
 if hC then
  match e with
  |.agg bn=>if bP=0∧size=bn.length then some (.agg bn)else if bP+size≤bn.length then some (.agg ((bn.drop bP).take size))else none
  |_=>none
 else
  match e with
  |.agg bn=>bn[bP]?
  |_=>if bP=0 then some e else none
def cj(D:dI)(t:TypeId)(a:bH)(h:j):Option o :=
 match D t,h.get a.id with
 |some d,some b =>
  match b.elem? a.R a.idx with
  |some e=>iR d.kind.isAgg d.size a.bP e
  |none=>none
 |_,_=>none
def o.jD:o→Bool
 |.agg _|.tuple _|.undef=>false
 |_=>true
def rL(bP:Nat)(v:o)(e:o):Option o :=
 match e with
 |.agg bn=>if bP+v.cells.length≤bn.length then some (.agg (iQ bn bP v.cells))else none
 |_=>if bP=0∧v.jD then some v else none
def o.fits(v:o)(hC:Bool)(size:Nat):Bool :=
 match v with
 |.agg bn=>hC&&bn.length == size&&bn.all (·.jD)
 |.tuple _=>false
 |.undef=>false
 |_=> !hC&&size == 1
def iA(D:dI)(t:TypeId)(a:bH)(v:o)(h:j):Option j :=
 match D t,h.get a.id with
 |some d,some b =>
  if v.fits d.kind.isAgg d.size&&!b.ro&&a.R == b.R then
   match b.bi[a.idx]? with
   |some e =>
    match rL a.bP v e with
    |some dT=>some (h.set a.id {b with bi:=b.bi.set a.idx dT,fQ:=b.R})
    |none=>none
   |none=>none
  else none
 |_,_=>none
def ke(op:BinOp)(k:IntKind)(x y:Int):Option o :=
 match op with
 |.add=>some (.int k (k.wrap (x+y)))
 |.sub=>some (.int k (k.wrap (x-y)))
 |.mul=>some (.int k (k.wrap (x*y)))
 |.quo=>if y=0 then none else some (.int k (k.wrap (x.tdiv y)))
 |.rem=>if y=0 then none else some (.int k (x.tmod y))
 |.and=>some (.int k (k.wrap (BitVec.ofInt k.bits x &&& BitVec.ofInt k.bits y).toNat))
 |.or=>some (.int k (k.wrap (BitVec.ofInt k.bits x ||| BitVec.ofInt k.bits y).toNat))
 |.xor=>some (.int k (k.wrap (BitVec.ofInt k.bits x ^^^ BitVec.ofInt k.bits y).toNat))
 |.andNot=>some (.int k (k.wrap (BitVec.ofInt k.bits x &&& ~~~(BitVec.ofInt k.bits y)).toNat))
 |.eql=>some (.bool (x == y))
 |.neq=>some (.bool (x != y))
 |.lss=>some (.bool (decide (x<y)))
 |.leq=>some (.bool (decide (x≤y)))
 |.gtr=>some (.bool (decide (x>y)))
 |.geq=>some (.bool (decide (x≥y)))
 |_=>none
def vg(op:BinOp)(k:IntKind)(x y:Int):Option o :=
 if y<0 then none else
 match op with
 |.shl=>some (.int k (k.wrap (x*2^(min y.toNat k.bits))))
 |.shr=>some (.int k (x.fdiv (2^(min y.toNat k.bits))))
 |_=>none
def vh(op:BinOp)(x y:List UInt8):Option o :=
 match op with
 |.add=>if x.length+y.length<2^62 then some (.str (x++y))else none
 |.eql=>some (.bool (x == y))
 |.neq=>some (.bool (!(x == y)))
 |.lss=>some (.bool (Op.bytesLess x y))
 |.leq=>some (.bool (Op.bytesLess x y || x == y))
 |.gtr=>some (.bool (!(Op.bytesLess x y || x == y)))
 |.geq=>some (.bool (!Op.bytesLess x y))
 |_=>none
def yI(k:j0)(a b:o):Option Bool :=
 match k,a,b with
 |.int _,.int k a,.int fa b=>if k=fa then some (a == b)else none
 |.bool,.bool a,.bool b=>some (a == b)
 |.string,.str a,.str b=>some (a == b)
 |_,_,_=>none
def rM(D:dI):List (Nat×TypeId)→List o→List o→Option Bool
 |[],[],[]=>some true
 |(_,t)::cV,a::x,b::y =>
  match D t with
  |some d =>
   match yI d.kind a b,rM D cV x y with
   |some I,some q=>some (I&&q)
   |_,_=>none
  |none=>none
 |_,_,_=>none
def tj(k:j0):List o→List o→Option Bool
 |[],[]=>some true
 |a::x,b::y =>
  match yI k a b,tj k x y with
  |some I,some q=>some (I&&q)
  |_,_=>none
 |_,_=>none
def qj(D:dI)(ie:TypeId→Bool)(lit:Bool)(t:TypeId)(x y:o):Option Bool :=
 match D t with
 |none=>none
 |some d =>
  match d.kind,x,y with
  |.bool,.bool a,.bool b=>some (a == b)
  |.ptr _,.ptr none,.ptr none=>some true
  |.ptr _,.ptr none,.ptr (some _)=>some false
  |.ptr _,.ptr (some _),.ptr none=>some false
  |.slice _,.slice none _ _,.slice none _ _=>some true
  |.slice _,.slice none _ _,.slice (some _) _ _=>some false
  |.slice _,.slice (some _) _ _,.slice none _ _=>some false
  |.func,.nilFunc,.nilFunc=>some true
  |.func,.nilFunc,.func _ _ _=>some false
  |.func,.func _ _ _,.nilFunc=>some false
  |.iface _,.nilIface,.nilIface=>if lit then some true else none
  |.iface _,.nilIface,.iface _ _=>some false
  |.iface _,.iface _ _,.nilIface=>some false
  |.struct cV,.agg x,.agg y=>if ie t then rM D cV x y else none
  |.array n e,.agg x,.agg y =>
   if ie t then
    match D e with
    |some gW=>if gW.size=1∧x.length=n then tj gW.kind x y else none
    |none=>none
   else none
  |_,_,_=>none
def n6(D:dI)(ie:TypeId→Bool)(lit:Bool)(op:BinOp)(t:TypeId)(x y:o):Option o :=
 match x,y with
 |.int k a,.int fa b =>
  match op with
  |.shl|.shr=>vg op k a b
  |_=>if k=fa then ke op k a b else none
 |.str a,.str b=>vh op a b
 |_,_ =>
  match op with
  |.eql=>(qj D ie lit t x y).map fun b=> .bool b
  |.neq=>(qj D ie lit t x y).map fun b=> .bool (!b)
  |_=>none
def vi(op:UnOp)(x:o):Option o :=
 match op,x with
 |.neg,.int k n=>some (.int k (k.wrap (0-n)))
 |.not,.bool b=>some (.bool (!b))
 |.xor,.int k n=>ke .xor k (if k.signed then-1 else k.max) n
 |_,_=>none
def yJ:o→o→Option o
 |.int k x,.int fa y=>if k=fa then some (.int k (if y>x then y else x))else none
 |_,_=>none
def yK:o→o→Option o
 |.int k x,.int fa y=>if k=fa then some (.int k (if y<x then y else x))else none
 |_,_=>none
def qk(f:o→o→Option o):o→List o→Option o
 |x,[]=>some x
 |x,y::r =>
  match f x y with
  |some z=>qk f z r
  |none=>none
def o.known:o→Bool
 |.undef=>false
 |_=>true
def tk(place:Nat→Option (Nat×Nat))(cells:List o):List (Nat×o)→Option (List o)
 |[]=>some cells
 |(i,v)::rest =>
  match place i with
  |none=>none
  |some (off,size) =>
   if v.cells.length=size∧off+size≤cells.length∧v.known=true then tk place (iQ cells off v.cells) rest else none
def IA(D:dI)(cV:List (Nat×TypeId)):Bool:=cV.all fun f=>(D f.2).isSome
def Ch(D:dI)(t:TypeId)(parts:List (Nat×o)):Option o :=
 match D t with
 |some d =>
  match d.kind,d.zero with
  |.struct cV,some z =>
   if z.known=true∧IA D cV=true then
    (tk (fun i=>match cV[i]? with|some (off,ql)=>(D ql).map fun x=>(off,x.size)|none=>none) z.cells parts).map .agg
   else none
  |.array _ e,some z =>
   match D e with
   |some x=>if z.known=true then(tk (fun i=>some (i*x.size,x.size)) z.cells parts).map .agg else none
   |none=>none
  |_,_=>none
 |none=>none
def nj(l:List o):List (Nat×o)→Option (List o)
 |[]=>some l
 |(i,v)::rest=>if i<l.length then nj (l.set i v) rest else none
def j1(bh es len cap:Nat):o:= .slice (some ⟨bh,0,0,0,es⟩) len cap
def qm(D:dI)(t:TypeId)(len:Nat)(parts:List (Nat×o))(bh:Nat)(h:j):Option (o×j) :=
 match D t with
 |some d =>
  match d.kind with
  |.slice e =>
   match D e with
   |some x =>
    match x.zero with
    |some z =>
     if len*x.size≤2^24∧0<x.size∧z.fits x.kind.isAgg x.size∧(parts.all fun I=>I.2.fits x.kind.isAgg x.size)then
      match nj (List.replicate len z) parts with
      |some l=>some (j1 bh x.size len len,h.set bh (.made l x.size true))
      |none=>none
     else none
    |none=>none
   |none=>none
  |_=>none
 |none=>none
def vj(D:dI)(t:TypeId)(len cap:o)(bh:Nat)(h:j):Option (o×j) :=
 match D t,len,cap with
 |some d, .int _ l,.int _ c =>
  match d.kind with
  |.slice e =>
   match D e with
   |some x =>
    match x.zero with
    |some z =>
     if 0≤l∧l≤c∧c<2^62∧x.bytes*c≤2^48∧0<x.size∧z.fits x.kind.isAgg x.size then
      some (j1 bh x.size l.toNat c.toNat,h.set bh (.made (List.replicate c.toNat z) x.size true))
     else none
    |none=>none
   |none=>none
  |_=>none
 |_,_,_=>none
def gX(v:Option o)(Ci vk:Nat):Option Nat :=
 match v with
 |none=>some Ci
 |some (.int _ i)=>if 0≤i∧i≤vk then some i.toNat else none
 |_=>none
def kf(D:dI)(t:TypeId)(x:o)(a7 al fL:Option o):Option o :=
 match D t,x with
 |some d, .slice a len cap =>
  match d.kind with
  |.slice e =>
   match D e,gX fL cap cap with
   |some cR,some m =>
    match gX al len m with
    |some bQ =>
     match gX a7 0 bQ with
     |some l =>
      if fL.isSome∧al.isNone then none else
      match a with
      |none=>some (.slice none (bQ-l) (m-l))
      |some a=>if a.es=cR.size∧a.bP=0 then some (.slice (some {a with idx:=a.idx+l}) (bQ-l) (m-l))else none
     |none=>none
    |none=>none
   |_,_=>none
  |_=>none
 |some d,.ptr (some a) =>
  match d.kind with
  |.array n e =>
   match D e with
   |some cR =>
    if fL.isSome then none else
    match gX al n n with
    |some bQ =>
     match gX a7 0 bQ with
     |some l=>if l<n∧cR.size=1 then some (.slice (some {a with bP:=a.bP+l+1}) (bQ-l) (n-l))else none
     |none=>none
    |none=>none
   |none=>none
  |_=>none
 |some d,.str s =>
  match d.kind with
  |.string =>
   if fL.isSome then none else
   match gX al s.length s.length with
   |some bQ =>
    match gX a7 0 bQ with
    |some l=>some (.str ((s.take bQ).drop l))
    |none=>none
   |none=>none
  |_=>none
 |_,_=>none
def rN(D:dI)(t:TypeId)(x i:o):Option o :=
 match D t,x,i with
 |some d,.slice (some a) len _,.int _ i =>
  match d.kind with
  |.slice e =>
   match D e with
   |some cR =>
    if 0≤i∧i<len∧a.es=cR.size∧a.bP=0 then some (.ptr (some {a with idx:=a.idx+i.toNat}))
    else if 0≤i∧i<len∧0<a.bP∧cR.size=1 then some (.ptr (some {a with bP:=a.bP-1+i.toNat}))
    else none
   |none=>none
  |_=>none
 |some d,.ptr (some a),.int _ i =>
  match d.kind with
  |.array n e =>
   match D e with
   |some cR=>if 0≤i∧i<n then some (.ptr (some {a with bP:=a.bP+i.toNat*cR.size}))else none
   |none=>none
  |_=>none
 |_,_,_=>none
def apart(D:dI)(t:TypeId)(bn:List o)(off:Nat):Option o :=
 match D t with
 |some d=>if d.kind.isAgg then(if off+d.size≤bn.length then some (.agg ((bn.drop off).take d.size))else none)else bn[off]?
 |none=>none
def n7(D:dI)(t:TypeId)(x i:o):Option o :=
 match D t,x,i with
 |some d,.agg bn,.int _ i =>
  match d.kind with
  |.array n e =>
   match D e with
   |some cR=>if 0≤i∧i<n then apart D e bn (i.toNat*cR.size)else none
   |none=>none
  |_=>none
 |some d,.str s,.int _ i =>
  match d.kind with
  |.string=>if 0≤i then(s[i.toNat]?).map fun b=> .int .u8 b.toNat else none
  |_=>none
 |_,_,_=>none
def Cj(D:dI)(t:TypeId)(x:o)(f:Nat):Option o :=
 match D t,x with
 |some d,.ptr (some a) =>
  match d.kind with
  |.struct cV =>
   match cV[f]? with
   |some (off,ql) =>
    match D ql with
    |some fd=>if 0<fd.size then some (.ptr (some {a with bP:=a.bP+off}))else none
    |none=>none
   |none=>none
  |_=>none
 |_,_=>none
def Ck(D:dI)(t:TypeId)(x:o)(f:Nat):Option o :=
 match D t,x with
 |some d,.agg bn =>
  match d.kind with
  |.struct cV =>
   match cV[f]? with
   |some (off,ql)=>apart D ql bn off
   |none=>none
  |_=>none
 |_,_=>none
def eW(es:Nat)(x:o)(h:j):Option (List o) :=
 match x with
 |.slice none 0 _=>some []
 |.slice (some a) len _ =>
  if a.bP=0 then
   if a.es=es then
    match h.get a.id with
    |some b=>if len=0 then some []else if a.idx+len≤b.cE a.R∧a.idx+len≤b.bi.length then some ((b.bi.drop a.idx).take len)else none
    |none=>if len=0 then some []else none
   else none
  else if len=0 then some []
  else if es=1 then
   match h.get a.id with
   |some b =>
    match b.elem? a.R a.idx with
    |some (.agg bn)=>if a.bP-1+len≤bn.length∧((bn.drop (a.bP-1)).take len).all (·.jD)=true then some ((bn.drop (a.bP-1)).take len)else none
    |_=>none
   |none=>none
  else none
 |.str s=>if es=1 then some (s.map fun b=> .int .u8 b.toNat)else none
 |_=>none
def qi.rO(d:qi):Bool :=
 match d.zero with
 |some z=>z.fits d.kind.isAgg d.size
 |none=>false
def hi(D : dI)(t:TypeId)(s x:o)(bh:Nat)(h:j):Option (o×j) :=
 match D t,s with
 |some d, .slice base len cap =>
  match d.kind with
  |.slice e =>
   match D e with
   |some cR =>
    match eW cR.size x h with
    |some new =>
     let jl:=len+new.length
     if 0 < cR.size∧(jl+jl/4+512)*cR.bytes≤2^48∧jl<2^62∧cR.rO=true then
      match base with
      |none=>if jl=0 then some (.slice none 0 cap,h)else if cap=0∧len=0 then some (j1 bh cR.size jl jl,h.set bh (.made new cR.size false (some (e,0))))else none
      |some a =>
       if a.es =cR.size∧a.bP=0 then
        match h.get a.id with
        |some b =>
         if jl≤cap then
          if new=[]then some (.slice base jl cap,h)else
          if b.ro=false∧a.R=b.R∧a.idx+jl≤b.bi.length then some (.slice base jl cap,h.set a.id (b.put (a.idx+len) new))else none
         else if b.exact then
          match eW cR.size s h with
          |some old=>some (j1 bh cR.size jl jl,h.set bh (.made (old++new) cR.size false (some (e,0))))
          |none=>none
         else if b.ro=false∧a.R=b.R∧a.idx+len=b.bi.length∧new≠[]∧(b.an=none∨b.an=some (e,0))then
          some (.slice (some {a with R:=a.R+1}) jl jl,
           h.set a.id (b.grow new))
         else none
        |none=>none
       else none
     else none
    |none=>none
   |none=>none
  |_=>none
 |_,_=>none
def Cl(D:dI)(t:TypeId)(x:o):Option o :=
 match D t,x with
 |some d,.slice _ n _=>match d.kind with|.slice _=>some (.int .i64 n)|_=>none
 |some d,.str s=>match d.kind with|.string=>some (.int .i64 s.length)|_=>none
 |some d,_=>match d.kind with|.array n _=>some (.int .i64 n)|_=>none
 |_,_=>none
def vl(D:dI)(src dst:TypeId)(x:o):Option o :=
 match D src,D dst,x with
 |some _,some d,.int _ n=>match d.kind with|.int k=>some (.int k (k.wrap n))|.string=>some (.str (Utf8.encode n).data.toList)|_=>none
 |some _,some d,.str s=>match d.kind with|.string=>some (.str s)|_=>none
 |_,_,_=>none
abbrev dZ:=FuncId→List o→j→Option (o×j)
abbrev yL:=List o→j→Option (o×j)
structure b4 where
 D:dI
 eqs:List TypeId
 tl:FuncId→Option yL:=fun _=>none
 ext:FuncId→Option Nat:=fun _=>none
 cond:(Nat→Prop)→World→Prop:=fun _ _=>True
def b4.ie(E:b4)(t:TypeId):Bool:=E.eqs.contains t
def dd(s:List o):Operand→o
 |.tmp t=>s.getD t .undef
 |.const v=>qh v
 |.global _=> .undef
 |.func f=> .func (.func f) [] []
def n8:Operand→Bool
 |.const _=>true
 |_=>false
def n9(call:dZ)(f:o)(args:List o)(h:j):Option (o×j) :=
 match f with
 |.func (.func g) first captured=>call g (first++args++captured) h
 |_=>none
def bytesOf:List o→Option (List UInt8)
 |[]=>some []
 |.int .u8 n::r=>(bytesOf r).map fun l=>UInt8.ofNat n.toNat::l
 |_=>none
def rP:List o→Bool
 |[]=>true
 |.int .u8 n::r=>decide (0≤n)&&decide (n<256)&&rP r
 |_=>false
def Cm(D:dI)(Cn:TypeId)(I:Option bH)(n:Int)(h:j):Option (o×j) :=
 if n=0 then some (.str [],h)else
 match D Cn,I with
 |some d,some a =>
  match d.kind,h.get a.id with
  |.ptr e,some b =>
   match D e with
   |some gW =>
    if 0<n∧n≤1048576∧a.idx=0∧a.bP=0∧a.es=1∧b.ro=false∧b.an=some (e,0)∧gW.size=1∧n.toNat≤b.cE a.R∧n.toNat≤b.bi.length∧rP (b.bi.take n.toNat)=true then
     (bytesOf (b.bi.take n.toNat)).map fun s=>(.str s,h.set a.id {b with ro:=true})
    else none
   |none=>none
  |_,_=>none
 |_,_=>none
def Co:o→Option o
 |.slice none _ _=>some (.ptr none)
 |.slice (some a) _ c=>if a.bP=0∧0<c then some (.ptr (some a))else none
 |_=>none
def Cp(D:dI)(t:TypeId)(s x:o)(h:j):Option (o×j) :=
 match D t,s,x with
 |some d, .slice (some a) len _,.slice (some h3) n _ =>
  match d.kind with
  |.slice e =>
   match D e,h.get h3.id,h.get a.id with
   |some cR,some n',some b =>
    if cR.size=1∧0<a.bP∧h3.bP=0∧h3.es=1∧0<n∧n≤len∧h3.idx+n≤n'.cE h3.R∧h3.idx+n≤n'.bi.length∧b.ro=false∧a.R=b.R then
     match b.bi[a.idx]? with
     |some (.agg bn) =>
      if a.bP-1+n≤bn.length∧((n'.bi.drop h3.idx).take n).all (·.jD)=true then
       some (.int .i64 n,h.set a.id {b with bi:=b.bi.set a.idx (.agg (iQ bn (a.bP-1) ((n'.bi.drop h3.idx).take n))),fQ:=b.R})
      else none
     |_=>none
    else none
   |_,_,_=>none
  |_=>none
 |_,_,_=>none
def gn(E:b4)(b:Builtin)(e6:Array TypeId)(args:List o)(bh:Nat)(h:j):Option (o×j) :=
 match b with
 |.len =>
  match args,e6[0]? with
  |[x],some t=>(Cl E.D t x).map fun v=>(v,h)
  |_,_=>none
 |.append =>
  match args,e6[0]?,e6[1]? with
  |[s,x],some t,some u=>match E.D u with|some k8=>(match k8.kind with|.slice _=>hi E.D t s x bh h|.string=>hi E.D t s x bh h|_=>none)|none=>none
  |_,_,_=>none
 |.max =>
  match args with
  |x::r=>(qk yJ x r).map fun v=>(v,h)
  |_=>none
 |.min =>
  match args with
  |x::r=>(qk yK x r).map fun v=>(v,h)
  |_=>none
 |.copy =>
  match args,e6[0]?,e6[1]? with
  |[s,x],some t,some u=>Cp E.D t s x h
  |_,_,_=>none
 |.unsafeSliceData =>
  match args with
  |[x]=>(Co x).map fun v=>(v,h)
  |_=>none
 |.unsafeString =>
  match args,e6[0]? with
  |[.ptr I,.int .i64 n],some t=>Cm E.D t I n h
  |_,_=>none
 |_=>none
def bX(E:b4)(call:dZ)(bh:Nat)(bf:Operand→o)(h:j)(U:Op):Option (o×j) :=
 match U with
 |.move x|.assign x=>some (bf x,h)
 |.pick c a b=>match bf c with|.bool t=>some (if t then bf a else bf b,h)|_=>none
 |.alloc t =>
  match E.D t with
  |some d=>match d.zero with|some z=>if z.fits d.kind.isAgg d.size&&decide (0<d.size)then some (.ptr (some ⟨bh,0,0,0,d.size⟩),h.set bh (.made [z] d.size true (some (t,d.size))))else none|none=>none
  |none=>none
 |.box t x =>
  match E.D t with
  |some d=>if(bf x).fits d.kind.isAgg d.size&&decide (0<d.size)then some (.ptr (some ⟨bh,0,0,0,d.size⟩),h.set bh (.made [bf x] d.size true (some (t,d.size))))else none
  |none=>none
 |.build t parts=>(Ch E.D t (parts.toList.map fun I=>(I.1,bf I.2))).map fun v=>(v,h)
 |.buildSlice t n parts=>qm E.D t n (parts.toList.map fun I=>(I.1,bf I.2)) bh h
 |.load t a=>match bf a with|.ptr (some a)=>(cj E.D t a h).map fun v=>(v,h)|_=>none
 |.store t a x=>match bf a with|.ptr (some a)=>(iA E.D t a (bf x) h).map fun aa=>(gf,aa)|_=>none
 |.nilCheck x=>match bf x with|.ptr (some a)=>some (.ptr (some a),h)|.func (.func g) cV bn=>some (.func (.func g) cV bn,h)|_=>none
 |.binOp op t x y _=>(n6 E.D E.ie (n8 x || n8 y) op t (bf x) (bf y)).map fun v=>(v,h)
 |.unOp op _ x=>(vi op (bf x)).map fun v=>(v,h)
 |.convert s d x=>(vl E.D s d (bf x)).map fun v=>(v,h)
 |.makeFunc (.func g) cV bn=>some (.func (.func g) (cV.toList.map bf) (bn.toList.map bf),h)
 |.makeInterface t x=>match E.D t with|some d=>(match d.kind with|.iface _=>none|_=>some (.iface t (bf x),h))|none=>none
 |.makeSlice t l c=>vj E.D t (bf l) (bf c) bh h
 |.slice t x a7 al fL=>(kf E.D t (bf x) (a7.map bf) (al.map bf) (fL.map bf)).map fun v=>(v,h)
 |.fieldAddr t x f=>(Cj E.D t (bf x) f).map fun v=>(v,h)
 |.field t x f=>(Ck E.D t (bf x) f).map fun v=>(v,h)
 |.indexAddr t x i=>(rN E.D t (bf x) (bf i)).map fun v=>(v,h)
 |.index t x i=>(n7 E.D t (bf x) (bf i)).map fun v=>(v,h)
 |.extract x i=>match bf x with|.tuple cd=>(cd[i]?).map fun v=>(v,h)|_=>none
 |.call c =>
  match c.callee with
  |.value f=>n9 call (bf f) (c.args.toList.map bf) h
  |.builtin b=>gn E b c.argTypes (c.args.toList.map bf) bh h
  |_=>none
 |_=>none
def oa(D:dI)(src dst:TypeId)(x:o)(bh:Nat)(h:j):Option (o×j) :=
 match D src,D dst,x with
 |some nk,some ft,.str s =>
  match nk.kind,ft.kind with
  |.string,.slice e =>
   match D e with
   |some gW =>
    match gW.kind with
    |.int .u8=>some (j1 bh 1 s.length s.length,h.set bh (.made (s.map fun b=> .int .u8 b.toNat) 1 false))
    |_=>none
   |none=>none
  |_,_=>none
 |some nk,some ft,.slice a n c =>
  match nk.kind,ft.kind with
  |.slice e,.slice _ =>
   match D e,a with
   |some gW,some rQ =>
    match gW.kind,h.get rQ.id with
    |.int .u8,some b=>if src=dst∧b.ro=false∧rQ.bP=0∧0<c then some (.slice (some rQ) n c,h)else none
    |_,_=>none
   |_,_=>none
  |.slice e,.string =>
   match D e with
   |some gW =>
    match gW.kind with
    |.int .u8 =>
     match eW 1 (.slice a n c) h with
     |some l=>(bytesOf l).map fun s=>(.str s,h)
     |none=>none
    |_=>none
   |none=>none
  |_,_=>none
 |_,_,_=>none
def Cq(k:Nat)(args:List o):Option o :=
 match args with
 |[.str s,.int .u8 c] =>
  match k with
  |0=>some (.int .i64 (Go.Lib.countByte s c.toNat.toUInt8))
  |1=>some (.int .i64 (Go.Lib.indexByte s c.toNat.toUInt8))
  |_=>none
 |[.str s,.str t]=>if k=2 then some (.int .i64 (Go.Lib.compareBytes s t))else none
 |_=>none
def eB(E:b4)(bh:Nat)(bf:Operand→o)(h:j)(U:Op):Option (o×j) :=
 match U with
 |.convert s d x=>oa E.D s d (bf x) bh h
 |.call c =>
  match c.callee with
  |.value f =>
   match bf f with
   |.func (.func g) [] [] =>
    match E.ext g with
    |some k=>(Cq k (c.args.toList.map bf)).map fun v=>(v,h)
    |none=>none
   |_=>none
  |_=>none
 |_=>none
def jm(E:b4)(call:dZ)(bh:Nat)(bf:Operand→o)(h:j)(U:Op):Option (o×j) :=
 match bX E call bh bf h U with
 |some r=>some r
 |none=>eB E bh bf h U
structure fq where
 e7:List o
 heap:j
def hR(s:List o)(dst:Option Tmp)(v:o):List o :=
 match dst with
 |some d=>s.set d v
 |none=>s
def jn(ops:Array Oper)(s:List o)(U:Oper):Option Bool :=
 match U.guard with
 |none=>some true
 |some (C,want) =>
  match (ops[C]?).bind (·.dst)with
  |some d =>
   match s[d]? with
   |some (.bool b)=>some (b == want)
   |some (.tuple [])=>some false
   |_=>none
  |none=>none
def qn(E:b4)(call:dZ)(ops:Array Oper)(aj:Nat)(i:Nat)(s:fq):Option fq :=
 match ops[i]? with
 |none=>some s
 |some U =>
  match jn ops s.e7 U with
  |some true =>
   match jm E call (aj+i) (dd s.e7) s.heap U.op with
   |some (v,h)=>some ⟨hR s.e7 U.dst v,h⟩
   |none=>none
  |some false=>some ⟨hR s.e7 U.dst gf,s.heap⟩
  |none=>none
def ob(E:b4)(call:dZ)(ops:Array Oper)(aj:Nat):List Nat→fq→Option fq
 |[],s=>some s
 |i::r,s =>
  match qn E call ops aj i s with
  |some bK=>ob E call ops aj r bK
  |none=>none
inductive dj where
 |normal|exit (id:Nat)|goto (l:Nat)|ret
 deriving DecidableEq
inductive Cr where
 |pure|load|alloc|store|call|gy|other
 deriving DecidableEq
def eJ:Op→Cr
 |.move _|.assign _|.pick _ _ _|.build _ _|.nilCheck _|.binOp _ _ _ _ _|.unOp _ _ _|.convert _ _ _|.makeFunc _ _ _|.slice _ _ _ _ _
 |.fieldAddr _ _ _|.field _ _ _|.indexAddr _ _ _|.index _ _ _|.extract _ _|.makeInterface _ _=> .pure
 |.load _ _=> .load
 |.store _ _ _=> .store
 |.alloc _|.box _ _|.buildSlice _ _ _|.makeSlice _ _ _=> .alloc
 |.call c =>
  match c.callee with
  |.value _=> .call
  |.builtin .len|.builtin .max|.builtin .min|.builtin .unsafeSliceData=> .pure
  |.builtin .append=> .gy
  |_=> .other
 |_=> .other
def iS(e:Edge):Bool:=Region.binds .any e
def er(ops:Array Oper):Array Nat :=
 ops.toList.foldl (fun acc U=>acc.push (U.after.toList.foldl (fun s e=>if iS e then s ||| 2^e.on ||| acc.getD e.on 0 else s) 0)) #[]
def ordered(lJ:Array Nat)(i C:Nat):Bool:=(lJ.getD C 0).testBit i
def tmpsOf(xs:List Operand):List Tmp:=xs.filterMap fun|.tmp t=>some t|_=>none
def rR(ops:Array Oper)(U:Oper):List Tmp :=
 tmpsOf U.op.operands.toList++(match U.guard with|some (g,_)=>((ops[g]?).bind (·.dst)).toList|none=> [])
def yM(ops:Array Oper)(x y:Oper):Bool :=
 (match x.dst with|some d=> !(rR ops y).contains d&&!(y.dst == some d)|none=>true) &&
 (match y.dst with|some d=> !(rR ops x).contains d|none=>true)
def IB:Cr→Cr→Bool
 |.pure,_|_,.pure=>true
 |.load,.load|.load,.alloc|.alloc,.load|.alloc,.alloc|.call,.load|.load,.call|.load,.store|.store,.load|.gy,.alloc|.alloc,.gy=>true
 |_,_=>false
def oc(ops:Array Oper):Bool :=
 let lJ:=er ops
 (List.range ops.size).all fun C =>
  match ops[C]? with
  |none=>true
  |some y =>
   (y.after.toList.all fun e=> !iS e || decide (e.on<C)) &&
   (List.range C).all fun i =>
    ordered lJ i C ||
    match ops[i]? with
    |none=>true
    |some x=>IB (eJ x.op) (eJ y.op)&&yM ops x y
mutual
def o.same:o→o→Bool
 |.undef,.undef=>true
 |.bool a,.bool b=>a == b
 |.int k a,.int l b=>decide (k=l)&&a == b
 |.str a,.str b=>a == b
 |.ptr a,.ptr b=>decide (a=b)
 |.slice a n c,.slice b m d=>decide (a=b)&&n == m&&c == d
 |.func f a b,.func g c d=>decide (f=g)&&o.od a c&&o.od b d
 |.nilFunc,.nilFunc=>true
 |.iface t a,.iface u b=>t == u&&o.same a b
 |.nilIface,.nilIface=>true
 |.agg a,.agg b=>o.od a b
 |.tuple a,.tuple b=>o.od a b
 |_,_=>false
def o.od:List o→List o→Bool
 |[],[]=>true
 |a::x,b::y=>o.same a b&&o.od x y
 |_,_=>false
end
def J.same(a b:J):Bool :=
 o.od a.bi b.bi&&a.es == b.es&&a.exact == b.exact&&a.ro == b.ro&&a.R == b.R&&a.fQ == b.fQ&&a.gF == b.gF&&a.an == b.an
def qo(cE:Nat)(h aa:j):Bool:=aU.ni J.same cE aa.aT h.aT 0 1
def mh(ops:Array Oper)(lJ:Array Nat)(C:Nat):Bool :=
 (List.range ops.size).any fun i =>
  match ops[i]? with
  |some x=>decide (eJ x.op=.load)&&!ordered lJ i C&&!ordered lJ C i
  |none=>false
def pb(ops:Array Oper)(lJ:Array Nat)(C:Nat):Bool :=
 (List.range ops.size).any fun i =>
  match ops[i]? with
  |some x=>decide (eJ x.op=.store)&&!ordered lJ i C&&!ordered lJ C i
  |none=>false
def nl(bf:Operand→o):Op→Option Nat
 |.store _ x _=>match bf x with|.ptr (some a)=>some a.id|_=>none
 |_=>none
def kg(bf:Operand→o):Op→Option Nat
 |.load _ x=>match bf x with|.ptr (some a)=>some a.id|_=>none
 |_=>none
def h4:o→List Nat
 |.slice (some a) _ _=> [a.id]
 |_=> []
def h5(bf:Operand→o):Op→List Nat
 |.call c=>(c.args.toList.map bf).flatMap h4
 |_=> []
def iT:Op→Bool
 |.convert _ _ _=>true
 |_=>false
def k9(ops:Array Oper)(C:Nat):Bool :=
 let lJ:=er ops
 (List.range ops.size).all fun i =>
  (i == C) || ordered lJ i C || ordered lJ C i ||
   match ops[i]? with
   |some x=>decide (eJ x.op=.pure)&&!(iT x.op)
   |none=>true
def oe(bf:Operand→o):Op→Option o
 |.convert _ _ x=>match bf x with|.slice a n c=>some (.slice a n c)|_=>none
 |_=>none
def iU(ops:Array Oper)(aj C:Nat)(bf:Operand→o)(U:Op):Bool :=
 match oe bf U with
 |some x =>
  ((h4 x).all fun b=>decide (b<aj) || (decide (b<aj+ops.size)&&ordered (er ops) (b-aj) C)) &&
  ((List.range ops.size).all fun i=>(i == C) || ordered (er ops) i C || ordered (er ops) C i ||
    match ops[i]? with
    |some y=>decide (eJ y.op=.pure) || decide (eJ y.op=.load) || decide (eJ y.op=.alloc)
    |none=>true)
 |none=>false
def pc(ops:Array Oper)(aj C:Nat)(ids:List Nat):Bool :=
 ids.all fun b=>decide (b<aj) || (decide (b<aj+ops.size)&&ordered (er ops) (b-aj) C) || decide (aj+ops.size≤b)
def fx(E:b4)(call:dZ)(ops:Array Oper)(aj C:Nat)(bf:Operand→o)(h:j)(U:Op):Option (o×j) :=
 match eJ U with
 |.load =>
  match kg bf U with
  |some b=>if b<aj∨(b<aj+ops.size∧ordered (er ops) (b-aj) C=true∧pb ops (er ops) C=false)then bX E call (aj+C) bf h U else none
  |none=>none
 |.store =>
  match nl bf U with
  |some b=>if mh ops (er ops) C=true∧b<aj then none else bX E call (aj+C) bf h U
  |none=>none
 |.call =>
  match bX E call (aj+C) bf h U with
  |some (v,aa)=>if mh ops (er ops) C then(if qo (aj+ops.size) h aa then some (v,aa)else none)else some (v,aa)
  |none=>none
 |.gy=>if pc ops aj C (h5 bf U)=true then bX E call (aj+C) bf h U else none
 |.pure =>
  match bX E call (aj+C) bf h U with
  |some r=>some r
  |none=>if iT U=true∧(k9 ops C=true∨iU ops aj C bf U=true)then eB E (aj+C) bf h U else none
 |_=>bX E call (aj+C) bf h U
def lK(E:b4)(call:dZ)(ops:Array Oper)(aj:Nat)(i:Nat)(s:fq):Option fq :=
 match ops[i]? with
 |none=>some s
 |some U =>
  match jn ops s.e7 U with
  |some true =>
   match fx E call ops aj i (dd s.e7) s.heap U.op with
   |some (v,h)=>some ⟨hR s.e7 U.dst v,h⟩
   |none=>none
  |some false=>some ⟨hR s.e7 U.dst gf,s.heap⟩
  |none=>none
def kh(E:b4)(call:dZ)(ops:Array Oper)(aj:Nat):List Nat→fq→Option fq
 |[],s=>some s
 |i::r,s =>
  match lK E call ops aj i s with
  |some bK=>kh E call ops aj r bK
  |none=>none
def rS(E:b4)(call:dZ)(ops:Array Oper)(draw:Bool)(s:fq):Option fq :=
 if draw then
  (if oc ops then kh E call ops s.heap.next (List.range ops.size) ⟨s.e7,{s.heap with next:=s.heap.next+ops.size}⟩else none)
 else ob E call ops s.heap.next (List.range ops.size) ⟨s.e7,{s.heap with next:=s.heap.next+ops.size}⟩
def e8(E:b4)(call:dZ):Nat→Option Code→Code→fq→Option (dj×fq)
 |0,_,_,_=>none
 |n +1,some body,c,s =>
  match e8 E call n none c s with
  |some (.goto l,bK) =>
   match findLabel body l with
   |some rest=>e8 E call n (some body) rest bK
   |none=>some (.goto l,bK)
  |r=>r
 |n +1,none,c,s =>
  match c with
  |.skip=>some (.normal,s)
  |.label _=>some (.normal,s)
  |.region _ ops draw=>(rS E call ops draw s).map fun bK=>(.normal,bK)
  |.seq a b =>
   match e8 E call n none a s with
   |some (.normal,bK)=>e8 E call n none b bK
   |r=>r
  |.cond x a b =>
   match dd s.e7 x with
   |.bool true=>e8 E call n none a s
   |.bool false=>e8 E call n none b s
   |_=>none
  |.block id c =>
   match e8 E call n none c s with
   |some (.exit C,bK)=>some (if C=id then .normal else .exit C,bK)
   |r=>r
  |.loop c =>
   match e8 E call n none c s with
   |some (.normal,bK)=>e8 E call n none (.loop c) bK
   |r=>r
  |.scope c=>e8 E call n (some c) c s
  |.goto l=>some (.goto l,s)
  |.exit id=>some (.exit id,s)
  |.ret=>some (.ret,s)
  |_=>none
def jo(D:dI)(dR:List ResultVar)(s:fq):Option (List o) :=
 match dR with
 |[]=>some []
 |.tmp t::r=>(jo D r s).map fun l=>s.e7.getD t .undef::l
 |.cell a t::r =>
  match s.e7.getD a .undef with
  |.ptr (some I) =>
   match cj D t I s.heap,jo D r s with
   |some v,some l=>some (v::l)
   |_,_=>none
  |_=>none
def mi:List o→o
 |[v]=>v
 |l=> .tuple l
def mj(P:Program)(E:b4):Nat→dZ
 |0,_,_,_=>none
 |n + 1,f,args,h =>
  match E.tl f with
  |some g=>g args h
  |none =>
  match P.funcs[f]? with
  |some fn =>
   match fn.body with
   |some c =>
    match e8 E (mj P E n) n none c ⟨args++List.replicate (fn.ntmps-args.length) gf,h⟩with
    |some (.exit _,_)=>none
    |some (.goto _,_)=>none
    |some (_,s)=>(jo E.D fn.results.toList s).map fun l=>(mi l,s.heap)
    |none=>none
   |none=>none
  |none=>none
end
end Go.cH
namespace Go.cH
noncomputable section
structure Place where
 ck:Nat
 off:Nat
 a7:Nat
 es:Nat
 fy:Nat
 exact:Bool
 ro:Bool
abbrev Map:=Nat→Nat→Option Place
def Map.le(ak c0:Map):Prop:= ∀i v I,ak i v=some I→c0 i v=some I
theorem Map.le_refl(ak:Map):ak.le ak:=fun _ _ _ h=>h
theorem Map.le_trans{ak c0 vm:Map}(h:ak.le c0)(k:c0.le vm):ak.le vm:=fun i v I e=>k i v I (h i v I e)
def Place.at(I:Place)(idx bP:Nat):Addr:=⟨I.ck,I.off+(idx-I.a7)*I.es+bP,none⟩
def tm(ak:Map)(a:bH)(x:Addr):Prop :=
 ∃I,ak a.id a.R=some I∧a.es=I.es∧I.a7≤a.idx∧x=I.at a.idx a.bP
def vn(ak:Map)(a:bH)(x:Addr)(cap dk:Nat):Prop :=
 ∃I,ak a.id a.R=some I∧a.es=I.es∧(dk=0∨(I.a7≤a.idx∧x=I.at a.idx 0∧(a.idx-I.a7)+dk≤I.fy))∧(I.exact=true→dk=cap)
def tn(ak:Map)(a:bH)(x:Addr)(cap dk:Nat):Prop :=
 (a.bP=0∧vn ak a x cap dk)∨(∃f,a.bP=f+1∧tm ak {a with bP:=f} x)
theorem tn.plain{ak:Map}{a:bH}{x:Addr}{cap dk:Nat}(h:tn ak a x cap dk)(a6:a.bP=0):vn ak a x cap dk:=by
 rcases h with h|⟨f,h,_⟩
 ·exact h.2
 ·omega
mutual
def aK(ak:Map):o→Value→Prop
 |.undef,_=>True
 |.bool b,v=>v=.bool b
 |.int k n,v=>v=.int k n
 |.str s,v=> ∃t:ByteArray,v=.string t∧t.data.toList=s
 |.ptr none,v=>v=.pointer none
 |.ptr (some a),v=> ∃x,v=.pointer (some x)∧tm ak a x
 |.slice none len cap,v=>v=.slice none 0 0∧len=0∧cap=0
 |.slice (some a) len cap,v=> ∃x dk,v=.slice (some x) len dk∧len≤cap∧cap≤dk∧tn ak a x cap dk
 |.func fn f c,v=> ∃gb fr,v=.func fn gb fr∧bG ak f gb.toList∧bG ak c fr.toList
 |.nilFunc,v=>v=.nilFunc
 |.iface t a,v=> ∃x,v=.iface t x∧aK ak a x
 |.nilIface,v=>v=.nilIface
 |.agg bn,v=> ∃xs,v=.agg xs∧bG ak bn xs.toList
 |.tuple cd,v=> ∃xs,v=.tuple xs∧bG ak cd xs.toList
def bG(ak:Map):List o→List Value→Prop
 |[],l=>l=[]
 |a::r,l=> ∃v t,l=v::t∧aK ak a v∧bG ak r t
end
theorem tm.mono{ak c0:Map}(h:ak.le c0){a:bH}{x:Addr}(k:tm ak a x):tm c0 a x :=
 let ⟨I,e,r⟩:=k;⟨I,h _ _ _ e,r⟩
theorem vn.mono{ak c0:Map}(h:ak.le c0){a:bH}{x:Addr}{c fr:Nat}(k:vn ak a x c fr):vn c0 a x c fr:=by obtain⟨I,e,r⟩:=k;exact⟨I,h _ _ _ e,r⟩
theorem tn.mono{ak c0:Map}(h:ak.le c0){a:bH}{x:Addr}{c fr:Nat}(k:tn ak a x c fr):tn c0 a x c fr:=by
 rcases k with ⟨p,ae⟩|⟨f,p,ae⟩
 ·exact .inl ⟨p,ae.mono h⟩
 ·exact .inr ⟨f,p,ae.mono h⟩
mutual
theorem aK.mono{ak c0:Map}(h:ak.le c0):∀{a:o}{v:Value},aK ak a v→aK c0 a v
 |.undef,_,_=>by simp [aK]
 |.bool b,v,k=>by simpa [aK]using k
 |.int _ n,v,k=>by simpa [aK]using k
 |.str s,v,k=>by simpa [aK]using k
 |.ptr none,v,k=>by simpa [aK]using k
 |.ptr (some a),v,k=>by simp only [aK]at k⊢;obtain⟨x,e,r⟩:=k;exact⟨x,e,r.mono h⟩
 |.slice none len cap,v,k=>by simpa [aK]using k
 |.slice (some a) len cap,v,k=>by simp only [aK]at k⊢;obtain⟨x,c,e,eC,ci,r⟩:=k;exact⟨x,c,e,eC,ci,r.mono h⟩
 |.func fn f c,v,k=>by simp only [aK]at k⊢;obtain⟨gb,fr,e,fM,jE⟩:=k;exact⟨gb,fr,e,bG.mono h fM,bG.mono h jE⟩
 |.nilFunc,v,k=>by simpa [aK]using k
 |.iface t a,v,k=>by simp only [aK]at k⊢;obtain⟨x,e,r⟩:=k;exact⟨x,e,aK.mono h r⟩
 |.nilIface,v,k=>by simpa [aK]using k
 |.agg bn,v,k=>by simp only [aK]at k⊢;obtain⟨x,e,r⟩:=k;exact⟨x,e,bG.mono h r⟩
 |.tuple bn,v,k=>by simp only [aK]at k⊢;obtain⟨x,e,r⟩:=k;exact⟨x,e,bG.mono h r⟩
theorem bG.mono{ak c0:Map}(h:ak.le c0):∀{l:List o}{t:List Value},bG ak l t→bG c0 l t
 |[],t,k=>by simpa [bG]using k
 |a::r,t,k=>by simp only [bG]at k⊢;obtain⟨v,fu,e,aL,aQ⟩:=k;exact⟨v,fu,e,aK.mono h aL,bG.mono h aQ⟩
end
theorem bG.length{ak:Map} :∀{l:List o}{t:List Value},bG ak l t→t.length=l.length
 |[],t,k=>by simp only [bG]at k;simp [k]
 |a::r,t,k=>by simp only [bG]at k;obtain⟨v,fu,e,aL,aQ⟩:=k;simp [e,bG.length aQ]
theorem bG.get{ak:Map} :∀{l:List o}{t:List Value}{i:Nat}{a:o},bG ak l t→l[i]? =some a→ ∃v,t[i]? =some v∧aK ak a v
 |[],t,i,a,k,h=>by simp at h
 |b::r,t,i,a,k,h=>by
  simp only [bG]at k;obtain⟨v,fu,e,aL,aQ⟩:=k;subst e;cases i with
  |zero=>simp at h;subst h;exact⟨v,by simp,aL⟩
  |succ i=>simp at h;obtain⟨u,hu,Cs⟩:=bG.get aQ h;exact⟨u,by simpa using hu,Cs⟩
theorem bG.eX{ak:Map} :∀{l:List o}{t:List Value},t.length=l.length→(∀(i:Nat)(a:o)(v:Value),l[i]? =some a→t[i]? =some v→aK ak a v)→bG ak l t
 |[],t,aB,h=>by simp at aB;simp [bG,aB]
 |a::r,[],aB,h=>by simp at aB
 |a::r,v::t,aB,h=>by simp only [bG];refine⟨v,t,rfl,h 0 a v (by simp) (by simp),bG.eX (by simpa using aB) fun i cz bp aS a'=>h (i+1) cz bp (by simpa using aS) (by simpa using a')⟩
theorem bG.append{ak:Map}{l m:List o}{t u:List Value}(h:bG ak l t)(k:bG ak m u):bG ak (l++m) (t++u):=by
 induction l generalizing t with
 |nil=>simp only [bG]at h;simpa [h]using k
 |cons a r ih =>
  simp only [bG]at h;obtain⟨v,fu,e,aL,aQ⟩:=h;simp only [List.cons_append,bG];exact⟨v,fu++u,by simp [e],aL,ih aQ⟩
theorem bG.set{ak:Map}{l:List o}{t:List Value}(h:bG ak l t)(i:Nat){a:o}{v:Value}(k:aK ak a v):bG ak (l.set i a) (t.set i v):=by
 refine bG.eX (by simp [h.length]) fun C b u av hu=> ?_
 by_cases e:i=C
 ·subst e
  have al:i<l.length:=by have:=(List.getElem?_eq_some_iff.1 av).1;simpa using this
  rw [List.getElem?_set_self (by simpa using al)]at av;rw [List.getElem?_set_self (by rw [h.length];exact al)]at hu;simp at av hu;subst av hu;exact k
 ·rw [List.getElem?_set_ne e]at av hu;obtain⟨x,af,rx⟩:=h.get av;rw [hu]at af;simp at af;subst af;exact rx
theorem bG.drop{ak:Map}{l:List o}{t:List Value}(h:bG ak l t)(n:Nat):bG ak (l.drop n) (t.drop n):=by
 refine bG.eX (by simp [h.length]) fun C b u av hu=> ?_
 rw [List.getElem?_drop]at av hu;obtain⟨x,af,rx⟩:=h.get av;rw [hu]at af;simp at af;subst af;exact rx
theorem bG.take{ak:Map}{l:List o}{t:List Value}(h:bG ak l t)(n:Nat):bG ak (l.take n) (t.take n):=by
 refine bG.eX (by simp [h.length]) fun C b u av hu=> ?_
 rw [List.getElem?_take]at av hu;split at av
 ·rename_i aX;rw [if_pos aX]at hu;obtain⟨x,af,rx⟩:=h.get av;rw [hu]at af;simp at af;subst af;exact rx
 ·simp at av
theorem bG.map{ak:Map}{α:Type}(l:List α)(f:α→o)(g:α→Value)(h:∀x∈l,aK ak (f x) (g x)):bG ak (l.map f) (l.map g):=by
 induction l with
 |nil=>simp [bG]
 |cons x r ih =>
  simp only [List.map_cons,bG];exact⟨_,_,rfl,h x (by simp),ih fun y bY=>h y (by simp [bY])⟩
theorem bG.getD{ak:Map}{l:List o}{t:List Value}(h:bG ak l t)(i:Nat):aK ak (l.getD i .undef) (t.getD i undef):=by
 by_cases al:i<l.length
 ·obtain⟨v,a',pd⟩:=h.get (i:=i) (a:=l[i]) (List.getElem?_eq_getElem al);rw [List.getD_eq_getElem?_getD,List.getD_eq_getElem?_getD,List.getElem?_eq_getElem al,a'];simpa using pd
 ·rw [List.getD_eq_getElem?_getD,List.getElem?_eq_none (by omega)];simp [aK]
theorem aK.gf(ak:Map):aK ak gf undef:=by simp only [aK];exact⟨#[],rfl,by simp [bG]⟩
theorem bG.replicate{ak:Map}{a:o}{v:Value}(h:aK ak a v)(n:Nat):bG ak (List.replicate n a) (List.replicate n v):=by
 induction n with
 |zero=>simp [bG]
 |succ n ih=>simp only [List.replicate_succ,bG];exact⟨_,_,rfl,h,ih⟩
theorem yN(ak:Map)(v:Value):aK ak (kH v) v:=by unfold kH;split<;>simp [aK]
theorem IC(ak:Map)(v:Value):aK ak (qh v) v:=by
 unfold qh;split
 ·rename_i bn;simp only [aK];refine⟨bn,rfl,?_⟩;have:=bG.map (ak:=ak) bn.toList kH id (fun x _=>yN ak x);simpa using this
 ·simp only [aK];exact⟨_,rfl,yN ak _⟩
 ·exact yN ak v
theorem aK.cells{ak:Map}{a:o}{v:Value}(h:aK ak a v)(hu:a≠ .undef):bG ak a.cells v.cells.toList:=by
 cases a with
 |undef=>exact absurd rfl hu
 |agg bn=>simp only [aK]at h;obtain⟨xs,rfl,r⟩:=h;simpa [o.cells,Value.cells]using r
 |bool b=>have aa:=h;simp only [aK]at h;subst h;simp only [o.cells,Value.cells,bG];exact⟨_,_,rfl,aa,rfl⟩
 |int k n=>have aa:=h;simp only [aK]at h;subst h;simp only [o.cells,Value.cells,bG];exact⟨_,_,rfl,aa,rfl⟩
 |str s=>have aa:=h;simp only [aK]at h;obtain⟨t,rfl,e⟩:=h;simp only [o.cells,Value.cells,bG];exact⟨_,_,rfl,aa,rfl⟩
 |ptr U =>
  have aa:=h;cases U with
  |none=>simp only [aK]at h;subst h;simp only [o.cells,Value.cells,bG];exact⟨_,_,rfl,aa,rfl⟩
  |some x=>simp only [aK]at h;obtain⟨t,rfl,e⟩:=h;simp only [o.cells,Value.cells,bG];exact⟨_,_,rfl,aa,rfl⟩
 |slice U l c =>
  have aa:=h;cases U with
  |none=>simp only [aK]at h;obtain⟨rfl,_⟩:=h;simp only [o.cells,Value.cells,bG];exact⟨_,_,rfl,aa,rfl⟩
  |some x=>simp only [aK]at h;obtain⟨t,fr,rfl,e⟩:=h;simp only [o.cells,Value.cells,bG];exact⟨_,_,rfl,aa,rfl⟩
 |func fn f c=>have aa:=h;simp only [aK]at h;obtain⟨t,fr,rfl,e⟩:=h;simp only [o.cells,Value.cells,bG];exact⟨_,_,rfl,aa,rfl⟩
 |nilFunc=>have aa:=h;simp only [aK]at h;subst h;simp only [o.cells,Value.cells,bG];exact⟨_,_,rfl,aa,rfl⟩
 |iface t x=>have aa:=h;simp only [aK]at h;obtain⟨t,rfl,e⟩:=h;simp only [o.cells,Value.cells,bG];exact⟨_,_,rfl,aa,rfl⟩
 |nilIface=>have aa:=h;simp only [aK]at h;subst h;simp only [o.cells,Value.cells,bG];exact⟨_,_,rfl,aa,rfl⟩
 |tuple cd=>have aa:=h;simp only [aK]at h;obtain⟨t,rfl,e⟩:=h;simp only [o.cells,Value.cells,bG];exact⟨_,_,rfl,aa,rfl⟩
structure Safe(S:Nat→Prop)(w bA:World):Prop where
 os:bA.os=w.os
 tape:bA.tape=w.tape
 output:bA.output=w.output
 size:w.heap.size≤bA.heap.size
 block:∀k,S k→bA.heap[k]? =w.heap[k]?
def fv(S:Nat→Prop)(n:Nat):Prop:= ∀k,S k→k<n
theorem fv.le{S:Nat→Prop}{n m:Nat}(h:fv S n)(k:n≤m):fv S m:=fun i al=>Nat.lt_of_lt_of_le (h i al) k
theorem fv.no{S:Nat→Prop}{n:Nat}(h:fv S n):¬S n:=fun k=>Nat.lt_irrefl _ (h n k)
theorem Safe.refl(S:Nat→Prop)(w:World):Safe S w w:=⟨rfl,rfl,rfl,Nat.le_refl _,fun _ _=>rfl⟩
theorem Safe.trans{S:Nat→Prop}{a b c:World}(h:Safe S a b)(k:Safe S b c):Safe S a c :=
 ⟨k.os.trans h.os,k.tape.trans h.tape,k.output.trans h.output,Nat.le_trans h.size k.size,fun i al=>(k.block i al).trans (h.block i al)⟩
theorem Safe.less{S T:Nat→Prop}{w bA:World}(h:Safe S w bA)(k:∀i,T i→S i):Safe T w bA:=⟨h.os,h.tape,h.output,h.size,fun i al=>h.block i (k i al)⟩
theorem Safe.drew{S:Nat→Prop}{a w:World}(h:Safe S a w):Safe S a w.drew:=⟨h.os,h.tape,h.output,h.size,h.block⟩
theorem Safe.alloc{S:Nat→Prop}{a w:World}(h:Safe S a w)(cq:fv S w.heap.size)(U:Obj):Safe S a (w.alloc U) :=
 h.trans ⟨rfl,rfl,rfl,by simp,fun k ao=>Go.RowKit.Below.heap_alloc _ _ _ (cq k ao)⟩
theorem Safe.setCell{S:Nat→Prop}{a w:World}(h:Safe S a w){I:Addr}(ac:¬S I.block)(u:Value):Safe S a (w.setCell I u) :=
 h.trans ⟨rfl,rfl,rfl,by simp [World.setCell],fun k ao=>Go.RowKit.Below.heap_setCell _ _ _ _ (fun e=>ac (e▸ao))⟩
theorem Safe.below{n:Nat}{w bA:World}(h:Safe (fun k=>k<n) w bA):Go.RowKit.Below n w bA:=⟨h.os,h.tape,h.output,h.size,h.block⟩
def fz(w:World)(b:Nat):Option (TypeId×Nat×Nat×Nat) :=
 match w.heap[b]? with
 |some (.cells c t (a7,al))=>some (t,c.size,a7,al)
 |_=>none
def kI(w:World)(b:Nat):Prop:= ∃t n a7 al,fz w b=some (t,n,a7,al)∧(a7=al∨n≤a7)
theorem kI.of_eq{w bA:World}{b:Nat}(h:kI w b)(e:fz bA b=fz w b):kI bA b:=by unfold kI;rw [e];exact h
theorem rT{w bA:World}{b:Nat}(e:bA.heap[b]? =w.heap[b]?):fz bA b=fz w b:=by unfold fz;rw [e]
structure Row(ak:Map)(bd:Nat→Prop)(b:J)(v:Nat)(I:Place)(w:World):Prop where
 ck:I.ck<w.heap.size
 base:I.ro=false→ ¬bd I.ck
 cells:∀U,U<I.fy*I.es→(w.cell? ⟨I.ck,I.off+U,none⟩).isSome=true
 free:b.ro=false→ ∀U,U<I.fy*I.es→w.frozen? ⟨I.ck,I.off+U,none⟩=false
 mark:b.ro=false→kI w I.ck
 jp:∀q,b.an=some q→ ∃n a7 al,fz w I.ck=some (q.1,n,a7,al)∧(q.2≠0→n=q.2)∧I.off=0
 cont:∀i e,I.a7≤i→i<b.cE v→b.bi[i]? =some e →
  e.cells.length=I.es∧i-I.a7<I.fy∧∀C bS,e.cells[C]? =some bS→ ∃x,w.cell? (I.at i C)=some x∧aK ak bS x∧x.oneCell'=true
structure c2(ak:Map)(bd:Nat→Prop)(h:j)(w:World):Prop where
 dB:∀i v I,ak i v=some I→i<h.next∧∃b,h.get i=some b∧v≤b.R∧I.es=b.es∧I.exact=b.exact∧(b.ro=false→I.ro=false)∧0<I.es∧Row ak bd b v I w
 apart:∀i v I C u q,ak i v=some I→ak C u=some q→I.ck=q.ck→i≠C→I.ro=true∧q.ro=true
 same:∀i v I u q,ak i v=some I→ak i u=some q→I.ck=q.ck→I.off=q.off∧I.a7=q.a7
structure hj(ak c0:Map)(n bh:Nat):Prop where
 le:ak.le c0
 new:∀i,i<n→i≠bh→(∀v,ak i v=none)→ ∀v,c0 i v=none
 ro:∀i v I,c0 i v=some I→I.ro=true→ak i v=some I
theorem hj.refl(ak:Map)(n bh:Nat):hj ak ak n bh:=⟨ak.le_refl,fun _ _ _ h=>h,fun _ _ _ h _=>h⟩
structure fh(ak c0:Map)(n:Nat):Prop where
 le:ak.le c0
 new:∀i,i<n→(∀u,ak i u=none)→ ∀u,c0 i u=none
 ro:∀i v I,c0 i v=some I→I.ro=true→ak i v=some I
theorem fh.refl(ak:Map)(n:Nat):fh ak ak n:=⟨ak.le_refl,fun _ _ h=>h,fun _ _ _ h _=>h⟩
theorem fh.trans{ak c0 vm:Map}{n:Nat}(h:fh ak c0 n)(k:fh c0 vm n):fh ak vm n:=⟨Map.le_trans h.le k.le,fun i al aM=>k.new i al (h.new i al aM),fun i v I ac be=>h.ro i v I (k.ro i v I ac be) be⟩
theorem fh.mono{ak c0:Map}{n m:Nat}(h:fh ak c0 n)(hm:m≤n):fh ak c0 m:=⟨h.le,fun i al aM=>h.new i (by omega) aM,h.ro⟩
theorem j.kG(h:j)(id:Nat)(b:J)(C:Nat):(h.set id b).get C=if id=C then some b else h.get C:=aU.kG b h.aT id C
@[simp] theorem j.QT(h : j)(id : Nat)(b : J) : (h.set id b).next = h.next := rfl
theorem j.gG(h:j)(id:Nat)(b:J):(h.set id b).get id=some b:=by simp [j.kG]
theorem j.e1(h:j){id C:Nat}(b:J)(e:id≠C):(h.set id b).get C=h.get C:=by simp [j.kG,e]
@[simp] theorem j.aeK(h : j)(n C : Nat) : ({ h with next := n } : j).get C = h.get C := rfl
theorem J.ID(l:List o)(es:Nat)(e:Bool)(an:Option (TypeId×Nat))(v:Nat):(J.made l es e an).cE v=if v=0 then l.length else 0:=by
 by_cases a':v=0
 ·subst a';simp [J.cE,J.made]
 ·simp [J.cE,J.made,a']
structure Alike(w bA:World):Prop where
 size:w.heap.size≤bA.heap.size
 cell:∀a,a.block<w.heap.size→bA.cell? a=w.cell? a
 frozen:∀a,a.block<w.heap.size→bA.frozen? a=w.frozen? a
 mark:∀b,b<w.heap.size→fz bA b=fz w b
theorem Row.alike{ak:Map}{bd:Nat→Prop}{b:J}{v:Nat}{I:Place}{w bA:World}(r:Row ak bd b v I w)(k:Alike w bA):Row ak bd b v I bA where
 ck:=Nat.lt_of_lt_of_le r.ck k.size
 base:=r.base
 cells U ai:=by rw [k.cell _ r.ck];exact r.cells U ai
 free be U ai:=by rw [k.frozen _ r.ck];exact r.free be U ai
 mark be:=(r.mark be).of_eq (k.mark _ r.ck)
 jp t b7:=by rw [k.mark _ r.ck];exact r.jp t b7
 cont i e p ae bg:=by obtain⟨bO,bJ,du⟩:=r.cont i e p ae bg;refine⟨bO,bJ,fun C bS af=> ?_⟩;obtain⟨x,dU,fA⟩:=du C bS af;exact⟨x,by rw [k.cell _ (by exact r.ck)];exact dU,fA⟩
theorem Row.mono{ak c0:Map}(h:ak.le c0){bd:Nat→Prop}{b:J}{v:Nat}{I:Place}{w:World}(r:Row ak bd b v I w):Row c0 bd b v I w :=
 ⟨r.ck,r.base,r.cells,r.free,r.mark,r.jp,fun i e p ae bg=>by
  obtain⟨bO,bJ,du⟩:=r.cont i e p ae bg;refine⟨bO,bJ,fun C bS af=> ?_⟩;obtain⟨x,dU,fA⟩:=du C bS af
  exact⟨x,dU,fA.1.mono h,fA.2⟩⟩
theorem c2.alike{ak:Map}{bd:Nat→Prop}{h:j}{w bA:World}(r:c2 ak bd h w)(k:Alike w bA):c2 ak bd h bA where
 dB i v I ac:=by obtain⟨p,b,ae,bg,bO,bJ,du,cI,cr⟩:=r.dB i v I ac;exact⟨p,b,ae,bg,bO,bJ,du,cI,cr.alike k⟩
 apart:=r.apart
 same:=r.same
theorem c2.next{ak:Map}{bd:Nat→Prop}{h:j}{w:World}(r:c2 ak bd h w){n:Nat}(aM:h.next≤n):c2 ak bd {h with next:=n} w where
 dB i v I ac:=by obtain⟨p,b,ae,bg,bO,bJ,du,cI,cr⟩:=r.dB i v I ac;exact⟨Nat.lt_of_lt_of_le p aM,b,ae,bg,bO,bJ,du,cI,cr⟩
 apart:=r.apart
 same:=r.same
theorem Alike.drew(w:World)(n:Nat):Alike w {w with drawn:=n} :=⟨Nat.le_refl _,fun _ _=>rfl,fun _ _=>rfl,fun _ _=>rfl⟩
theorem heap_alloc(w:World)(U:Obj):(w.alloc U).heap=w.heap.push U:=rfl
theorem size_alloc(w:World)(U:Obj):(w.alloc U).heap.size=w.heap.size+1:=by rw [heap_alloc];simp
theorem Alike.alloc(w:World)(U:Obj):Alike w (w.alloc U) where
 size:=by rw [size_alloc];omega
 cell a aS:=by
  have:(w.heap.push U)[a.block]? =w.heap[a.block]? :=by rw [Array.getElem?_push];simp;omega
  simp only [World.cell?,heap_alloc,this]
 frozen a aS:=by
  have:(w.heap.push U)[a.block]? =w.heap[a.block]? :=by rw [Array.getElem?_push];simp;omega
  simp only [World.frozen?,heap_alloc,this]
 mark b av:=rT (by rw [heap_alloc,Array.getElem?_push];simp;omega)
def Map.add(ak:Map)(id:Nat)(v:Nat)(I:Place):Map:=fun i u=>if i=id∧u=v then some I else ak i u
theorem Map.yO(ak:Map)(id v:Nat)(I:Place):ak.add id v I id v=some I:=by simp [Map.add]
theorem Map.rU(ak:Map){id v:Nat}(I:Place)(h:ak id v=none):ak.le (ak.add id v I):=by
 intro i u q aC;simp only [Map.add];split
 ·rename_i e;obtain⟨rfl,rfl⟩:=e;rw [h]at aC;cases aC
 ·exact aC
theorem Map.Ct(ak:Map){id v:Nat}(I:Place)(be:I.ro=false):∀i u q,(ak.add id v I) i u=some q→q.ro=true→ak i u=some q:=by
 intro i u q aC IE;unfold Map.add at aC;split at aC
 ·simp only [Option.some.injEq]at aC;subst aC;rw [be]at IE;cases IE
 ·exact aC
theorem hj.add(ak:Map){id v:Nat}(I:Place)(h:ak id v=none)(n:Nat)(be:I.ro=false:=by rfl):hj ak (ak.add id v I) n id where
 le:=ak.rU I h
 new i al bZ aM u:=by simp [Map.add,bZ,aM u]
 ro:=ak.Ct I be
def flat(l:List o):List o:=l.flatMap o.cells
theorem og{es:Nat} :∀{l:List o}(aB:∀e∈l,e.cells.length=es){i C:Nat}{e x:o},l[i]? =some e→e.cells[C]? =some x→(flat l)[i*es+C]? =some x
 |[],aB,i,C,e,x,h,k=>by simp at h
 |a ::r,aB,i,C,e,x,h,k=>by
  have aS:a.cells.length=es:=aB a (by simp);cases i with
  |zero =>
   simp at h;subst h;simp only [flat,List.flatMap_cons,Nat.zero_mul,Nat.zero_add];rw [List.getElem?_append_left (List.getElem?_eq_some_iff.1 k).1];exact k
  |succ i =>
   simp at h;have ih:=og (l:=r) (fun e he=>aB e (by simp [he])) h k;simp only [flat,List.flatMap_cons]at ih⊢;rw [List.getElem?_append_right (by rw [aS,Nat.succ_mul];omega),aS,show(i+1)*es+C-es=i*es+C by rw [Nat.succ_mul];omega];exact ih
theorem k'{es:Nat} :∀{l:List o}(aB:∀e∈l,e.cells.length=es),(flat l).length=l.length*es
 |[],_=>by simp [flat]
 |a::r,aB=>by have aS:a.cells.length=es:=aB a (by simp);have ih:=k' (l:=r) (fun e he=>aB e (by simp [he]));simp only [flat,List.flatMap_cons,List.length_append,List.length_cons]at ih⊢;rw [ih,aS,Nat.succ_mul];omega
theorem to(w:World)(c:Array Value)(t:TypeId)(f:Nat×Nat)(U:Nat):(w.alloc (.cells c t f)).cell? ⟨w.heap.size,U,none⟩=c[U]? :=by simp [World.cell?,heap_alloc]
theorem IF(w:World)(c:Array Value)(t:TypeId)(U:Nat):(w.alloc (.cells c t)).frozen? ⟨w.heap.size,U,none⟩=false:=by simp [World.frozen?,heap_alloc]
theorem c2.made{ak:Map}{bd:Nat→Prop}{h:j}{w:World}(r:c2 ak bd h w){bh:Nat}(hid:∀v,ak bh v=none)(aM:bh<h.next)(dl:fv bd w.heap.size)
 {l:List o} {es:Nat} (cs:0<es) (aB:∀e∈l,e.cells.length=es) {c:Array Value} {t:TypeId} {fy:Nat} {ex:Bool}
 (ar:bG ak (flat l) (c.toList.take (l.length*es))) (eQ:fy*es≤c.size) (oh:l.length≤fy) (ki:∀x∈c.toList.take (l.length*es),x.oneCell'=true) {an:Option (TypeId×Nat)} (kJ:∀q,an=some q→q.1=t∧(q.2≠0→c.size=q.2)) :
 c2 (ak.add bh 0 ⟨w.heap.size,0,0,es,fy,ex,false⟩) bd (h.set bh (.made l es ex an)) (w.alloc (.cells c t)):=by
 have hle:=ak.rU (id:=bh) (v:=0) ⟨w.heap.size,0,0,es,fy,ex,false⟩ (hid 0);constructor
 ·intro i v I ac;simp only [Map.add]at ac;split at ac
  ·rename_i e;obtain⟨rfl,rfl⟩:=e;simp at ac;subst ac;refine⟨aM,.made l es ex an,j.gG _ _ _,Nat.le_refl _,rfl,rfl,fun _=>rfl,cs,?_⟩;constructor
   ·rw [size_alloc];simp
   ·intro _;exact dl.no
   ·intro U ai;simp only at ai⊢;rw [to,Nat.zero_add,Array.getElem?_eq_getElem (by omega)];rfl
   ·intro _ U ai;exact IF _ _ _ _
   ·intro _;exact⟨t,c.size,0,0,by simp [fz,heap_alloc],.inl rfl⟩
   ·intro fu b7;exact⟨c.size,0,0,by rw [(kJ fu b7).1];simp [fz,heap_alloc],(kJ fu b7).2,rfl⟩
   ·intro i e _ al he;rw [J.ID]at al;simp at al;have jF:l[i]? =some e:=he;have hm:e∈l:=List.mem_of_getElem? jF;refine⟨aB e hm,by simp only;omega,fun C bS af=> ?_⟩;have a6:=og aB jF af;obtain⟨x,dU,fA⟩:=ar.get a6;refine⟨x,?_,fA.mono hle,ki x (List.mem_of_getElem? dU)⟩;simp only [Place.at,Nat.sub_zero,Nat.zero_add];rw [to];rw [List.getElem?_take]at dU;split at dU
    ·simpa using dU
    ·simp at dU
  ·obtain⟨p,b,ae,bg,bO,bJ,du,cI,cr⟩:=r.dB i v I ac;have bZ:bh≠i:=by intro e;subst e;rw [hid v]at ac;cases ac
   exact⟨p,b,by rw [j.e1 _ _ bZ];exact ae,bg,bO,bJ,du,cI,(cr.alike (Alike.alloc _ _)).mono hle⟩
 ·intro i v I C u q ac aC av iB;simp only [Map.add]at ac aC;split at ac<;>split at aC
  ·rename_i bu bC;exact absurd (bu.1.trans bC.1.symm) iB
  ·simp at ac;subst ac;obtain⟨_,b,_,_,_,_,_,_,cr⟩:=r.dB C u q aC;have:=cr.ck;simp only at av;omega
  ·simp at aC;subst aC;obtain⟨_,b,_,_,_,_,_,_,cr⟩:=r.dB i v I ac;have:=cr.ck;simp only at av;omega
  ·exact r.apart i v I C u q ac aC av iB
 ·intro i v I u q ac aC av;simp only [Map.add]at ac aC;split at ac<;>split at aC
  ·simp at ac aC;subst ac aC;exact⟨rfl,rfl⟩
  ·simp at ac;subst ac;obtain⟨_,b,_,_,_,_,_,_,cr⟩:=r.dB i u q aC;have:=cr.ck;simp only at av;omega
  ·simp at aC;subst aC;obtain⟨_,b,_,_,_,_,_,_,cr⟩:=r.dB i v I ac;have:=cr.ck;simp only at av;omega
  ·exact r.same i v I u q ac aC av
theorem c2.QU{ak:Map}{bd:Nat→Prop}{h:j}{w:World}(r:c2 ak bd h w){bh:Nat}(hid:∀v,ak bh v=none)(aM:bh<h.next)(dl:fv bd w.heap.size)
 {l:List o} {es:Nat} (cs:0<es) (aB:∀e∈l,e.cells.length=es) {c:Array Value} {t:TypeId} {cL:Nat×Nat} {fy:Nat} {ex:Bool}
 (ar:bG ak (flat l) (c.toList.take (l.length*es))) (eQ:fy*es≤c.size) (oh:l.length≤fy) (ki:∀x∈c.toList.take (l.length*es),x.oneCell'=true) (IG:cL.1=cL.2∨c.size≤cL.1) {an:Option (TypeId×Nat)} (kJ:∀q,an=some q→q.1=t∧(q.2≠0→c.size=q.2)) :
 c2 (ak.add bh 0 ⟨w.heap.size,0,0,es,fy,ex,false⟩) bd (h.set bh (.made l es ex an)) (w.alloc (.cells c t cL)):=by
 have hle:=ak.rU (id:=bh) (v:=0) ⟨w.heap.size,0,0,es,fy,ex,false⟩ (hid 0);constructor
 ·intro i v I ac;simp only [Map.add]at ac;split at ac
  ·rename_i e;obtain⟨rfl,rfl⟩:=e;simp at ac;subst ac;refine⟨aM,.made l es ex an,j.gG _ _ _,Nat.le_refl _,rfl,rfl,fun _=>rfl,cs,?_⟩;constructor
   ·rw [size_alloc];simp
   ·intro _;exact dl.no
   ·intro U ai;simp only at ai⊢;rw [to,Nat.zero_add,Array.getElem?_eq_getElem (by omega)];rfl
   ·intro _ U ai;simp only at ai⊢;rw [Nat.zero_add];simp only [World.frozen?,heap_alloc,Array.getElem?_push_size];obtain⟨f1,f2⟩:=cL;simp only at IG⊢;simp;omega
   ·intro _;exact⟨t,c.size,cL.1,cL.2,by simp [fz,heap_alloc],IG⟩
   ·intro fu b7;exact⟨c.size,cL.1,cL.2,by rw [(kJ fu b7).1];simp [fz,heap_alloc],(kJ fu b7).2,rfl⟩
   ·intro i e _ al he;rw [J.ID]at al;simp at al;have jF:l[i]? =some e:=he;have hm:e∈l:=List.mem_of_getElem? jF;refine⟨aB e hm,by simp only;omega,fun C bS af=> ?_⟩;have a6:=og aB jF af;obtain⟨x,dU,fA⟩:=ar.get a6;refine⟨x,?_,fA.mono hle,ki x (List.mem_of_getElem? dU)⟩;simp only [Place.at,Nat.sub_zero,Nat.zero_add];rw [to];rw [List.getElem?_take]at dU;split at dU
    ·simpa using dU
    ·simp at dU
  ·obtain⟨p,b,ae,bg,bO,bJ,du,cI,cr⟩:=r.dB i v I ac;have bZ:bh≠i:=by intro e;subst e;rw [hid v]at ac;cases ac
   exact⟨p,b,by rw [j.e1 _ _ bZ];exact ae,bg,bO,bJ,du,cI,(cr.alike (Alike.alloc _ _)).mono hle⟩
 ·intro i v I C u q ac aC av iB;simp only [Map.add]at ac aC;split at ac<;>split at aC
  ·rename_i bu bC;exact absurd (bu.1.trans bC.1.symm) iB
  ·simp at ac;subst ac;obtain⟨_,b,_,_,_,_,_,_,cr⟩:=r.dB C u q aC;have:=cr.ck;simp only at av;omega
  ·simp at aC;subst aC;obtain⟨_,b,_,_,_,_,_,_,cr⟩:=r.dB i v I ac;have:=cr.ck;simp only at av;omega
  ·exact r.apart i v I C u q ac aC av iB
 ·intro i v I u q ac aC av;simp only [Map.add]at ac aC;split at ac<;>split at aC
  ·simp at ac aC;subst ac aC;exact⟨rfl,rfl⟩
  ·simp at ac;subst ac;obtain⟨_,b,_,_,_,_,_,_,cr⟩:=r.dB i u q aC;have:=cr.ck;simp only at av;omega
  ·simp at aC;subst aC;obtain⟨_,b,_,_,_,_,_,_,cr⟩:=r.dB i v I ac;have:=cr.ck;simp only at av;omega
  ·exact r.same i v I u q ac aC av
end
end Go.cH
namespace Go.cH
noncomputable section
theorem Cu:∀(cd l:List o)(i:Nat),(iQ l i cd).length=l.length
 |[],l,i=>rfl
 |v::cd,l,i=>by simp [iQ,Cu cd]
theorem yP:∀(cd l:List o)(i k:Nat),(iQ l i cd)[k]? =if i≤k∧k<i+cd.length∧k<l.length then cd[k-i]? else l[k]?
 |[],l,i,k=>by simp only [iQ,List.length_nil,Nat.add_zero];rw [if_neg (by omega)]
 |v ::cd,l,i,k=>by
  simp only [iQ,List.length_cons];rw [yP cd (l.set i v) (i+1) k,List.length_set];by_cases ao:i=k
  ·subst ao;rw [if_neg (by omega)];by_cases aB:i<l.length
   ·rw [if_pos (by omega),List.getElem?_set_self aB];simp
   ·rw [if_neg (by omega),List.getElem?_eq_none (by simpa using aB),List.getElem?_eq_none (by omega)]
  ·rw [List.getElem?_set_ne ao];by_cases h:i+1≤k∧k<i+1+cd.length∧k<l.length
   ·rw [if_pos h,if_pos (by omega),show k-i=k- (i+1)+1 by omega];simp
   ·rw [if_neg h,if_neg (by omega)]
theorem World.Cv(b:Nat):∀(cd:List Value)(U:Nat)(w:World),(w.setCells b U cd).heap.size=w.heap.size
 |[],_,_=>rfl
 |v::r,U,w=>by rw [World.setCells,World.Cv b r];exact World.size_setCell _ _ _
theorem IH(w:World)(a:Addr)(v:Value)(k:Nat):fz (w.setCell a v) k=fz w k:=by
 unfold fz World.setCell;simp only [Array.getElem?_modify];by_cases h:a.block=k
 ·subst h;simp only [if_true];cases bQ:w.heap[a.block]? with
  |none=>rfl
  |some U =>
   cases U
   case cells c t f =>
    obtain⟨a7,al⟩:=f;simp only [Option.map_some];split<;>simp
   all_goals rfl
 ·rw [if_neg h]
theorem kI.setCells{w:World}{k:Nat}(h:kI w k)(b U:Nat):∀(cd:List Value),kI (w.setCells b U cd) k:=by
 intro cd;induction cd generalizing w U with
 |nil=>exact h
 |cons v r ih=>exact ih (h.of_eq (IH _ _ _ _)) _
theorem vo{w:World}(k b U:Nat):∀(cd:List Value),fz (w.setCells b U cd) k=fz w k:=by
 intro cd;induction cd generalizing w U with
 |nil=>rfl
 |cons v r ih=>exact(ih _).trans (IH _ _ _ _)
theorem tp{i C es fy:Nat}(al:i<fy)(aX:C<es):i*es+C<fy*es:=by have h:(i+1)*es≤fy*es:=Nat.mul_le_mul_right es al;rw [Nat.succ_mul]at h;omega
theorem tq{i k C es:Nat}(al:i<k)(aX:C<es):i*es+C<k*es:=tp al aX
theorem c2.wrote{ak:Map}{bd:Nat→Prop}{h:j}{w:World}(r:c2 ak bd h w){id:Nat}{b:J}{I:Place}(ac:ak id b.R=some I)(av:h.get id=some b)
 (eR:b.ro=false) {l:List o} (aB:l.length=b.bi.length) {U:Nat} {cd:List Value}
 (ar:∀i e,I.a7≤i→l[i]? =some e→e.cells.length=I.es∧∀C bS,e.cells[C]? =some bS→ ∃x,(w.setCells I.ck U cd).cell? (I.at i C)=some x∧aK ak bS x∧x.oneCell'=true) :
 c2 ak bd (h.set id {b with bi:=l,fQ:=b.R}) (w.setCells I.ck U cd):=by
 constructor
 ·intro i v q aC;obtain⟨p,c,ae,bg,bO,bJ,du,cI,cr⟩:=r.dB i v q aC;have eQ:=World.Cv I.ck cd U w;by_cases al:i=id
  ·subst al;rw [av]at ae;simp at ae;subst ae;refine⟨p,_,j.gG _ _ _,bg,bO,bJ,du,cI,⟨by rw [eQ];exact cr.ck,cr.base,fun eD gY=>World.isSome_setCells _ _ _ _ _ (cr.cells eD gY),fun fB eD gY=>by rw [World.frozen?_setCells];exact cr.free fB eD gY,fun fB=>(cr.mark fB).setCells _ _ _,fun t9 fB=>by rw [vo];exact cr.jp t9 fB,?_⟩⟩;intro k e gg cw la;simp only [J.cE]at cw;by_cases a':v=b.R
   ·subst a';rw [ac]at aC;simp at aC;subst aC;rw [if_pos rfl]at cw;obtain⟨dT,jF⟩:∃dT,b.bi[k]? =some dT:=⟨_,List.getElem?_eq_getElem (by simpa [aB]using cw)⟩
    have:=cr.cont k dT gg (by simpa [J.cE,aB]using cw) jF;exact⟨(ar k e gg la).1,this.2.1,(ar k e gg la).2⟩
   ·exfalso;rw [if_neg a']at cw;rw [if_neg (by omega)]at cw;omega
  ·have bZ:I.ck≠q.ck:=by intro e;have:=r.apart id b.R I i v q ac aC e (fun e=>al e.symm);obtain⟨_,iV,yQ,_,_,_,II,_,_⟩:=r.dB id b.R I ac;rw [av]at yQ;simp at yQ;subst yQ;rw [II eR]at this;simp at this
   refine⟨p,c,by rw [j.e1 _ _ (fun e=>al e.symm)];exact ae,bg,bO,bJ,du,cI,?_⟩;have nm:∀a:Addr,a.block=q.ck→(w.setCells I.ck U cd).cell? a=w.cell? a:=fun a aS=>World.cell?_setCells_out _ _ _ _ _ (fun bQ _=>absurd (bQ.symm.trans aS) bZ)
   refine⟨by rw [eQ];exact cr.ck,cr.base,fun eD gY=>by rw [nm _ rfl];exact cr.cells eD gY,fun fB eD gY=>by rw [World.frozen?_setCells];exact cr.free fB eD gY,fun fB=>(cr.mark fB).setCells _ _ _,fun t9 fB=>by rw [vo];exact cr.jp t9 fB,?_⟩;intro k e gg cw la;obtain⟨pe,Cw,Cx⟩:=cr.cont k e gg cw la;refine⟨pe,Cw,fun C bS af=> ?_⟩;obtain⟨x,dU,fA⟩:=Cx C bS af;exact⟨x,by rw [nm _ rfl];exact dU,fA⟩
 ·exact r.apart
 ·exact r.same
theorem c2.store{ak:Map}{bd:Nat→Prop}{h:j}{w:World}(r:c2 ak bd h w){id:Nat}{b:J}{I:Place}(ac:ak id b.R=some I)(av:h.get id=some b)
 (eR:b.ro=false) {idx bP:Nat} {e dT:o} {bn:List o} {cd:List Value} (eS:I.a7≤idx) (he:b.bi[idx]? =some e)
 (dV:bG ak bn cd) (ki:∀x∈cd,x.oneCell'=true) (oi:bP+bn.length≤I.es) (hlen:dT.cells=iQ e.cells bP bn) :
 c2 ak bd (h.set id {b with bi:=b.bi.set idx dT,fQ:=b.R}) (w.setCells I.ck (I.off+(idx-I.a7)*I.es+bP) cd)
 ∧w.there I.ck (I.off+(idx-I.a7)*I.es+bP) cd.length:=by
 obtain⟨p,c,ae,bg,bO,bJ,du,cI,cr⟩:=r.dB id b.R I ac;rw [av]at ae;simp at ae;subst ae;have rV:idx<b.bi.length:=(List.getElem?_eq_some_iff.1 he).1;have lb:b.cE b.R=b.bi.length:=by simp [J.cE]
 obtain⟨dJ,ef,fR⟩:=cr.cont idx e eS (by rw [lb];exact rV) he;have lc:cd.length=bn.length:=dV.length
 have qp:w.there I.ck (I.off+(idx-I.a7)*I.es+bP) cd.length:=by
  intro C aX;have av:(idx-I.a7)*I.es+(bP+C)<I.fy*I.es:=tp ef (by omega);have aL:=cr.cells _ av;have aQ:=cr.free eR _ av;have bu:I.off+(idx-I.a7)*I.es+bP+C=I.off+((idx-I.a7)*I.es+(bP+C)):=by omega
  rw [bu];exact⟨aL,aQ⟩
 refine⟨?_,qp⟩;refine r.wrote ac av eR (by simp) fun i f al a6=> ?_
 by_cases IJ:idx=i
 ·subst IJ;rw [List.getElem?_set_self rV]at a6;simp at a6;subst a6;refine⟨by rw [hlen,Cu];exact dJ,fun C bS af=> ?_⟩;rw [hlen,yP]at af;split at af
  ·rename_i ar;obtain⟨x,dU,fA⟩:=dV.get af;have qq:C-bP<cd.length:=by omega
   have:=World.cell?_setCells_in I.ck cd (I.off+(idx-I.a7)*I.es+bP) w (fun k ao=>(qp k ao).1) (C-bP) qq;refine⟨x,?_,fA,ki x (List.mem_of_getElem? dU)⟩;rw [List.getElem?_eq_getElem qq]at dU;simp at dU;rw [Place.at,show I.off+(idx-I.a7)*I.es+C=I.off+(idx-I.a7)*I.es+bP+(C-bP)by omega,this,dU]
  ·rename_i ar;obtain⟨x,dU,fA⟩:=fR C bS af;refine⟨x,?_,fA⟩;have aX:C<e.cells.length:=(List.getElem?_eq_some_iff.1 af).1;rw [World.cell?_setCells_out _ _ _ _ _ (fun _ _=> ?_)]
   ·exact dU
   ·simp only [Place.at];omega
 ·rw [List.getElem?_set_ne IJ]at a6;have fS:i<b.bi.length:=(List.getElem?_eq_some_iff.1 a6).1;obtain⟨d1,d2,d3⟩:=cr.cont i f al (by rw [lb];exact fS) a6;refine⟨d1,fun C bS af=> ?_⟩;obtain⟨x,dU,fA⟩:=d3 C bS af;refine⟨x,?_,fA⟩;have aX:C<f.cells.length:=(List.getElem?_eq_some_iff.1 af).1;rw [World.cell?_setCells_out _ _ _ _ _ (fun _ _=> ?_)]
  ·exact dU
  ·simp only [Place.at];rcases Nat.lt_or_ge i idx with cM|gh
   ·left;have:=tq (i:=i-I.a7) (k:=idx-I.a7) (C:=C) (es:=I.es) (by omega) (by omega);omega
   ·right;have:=tq (i:=idx-I.a7) (k:=i-I.a7) (C:=bP+cd.length-1) (es:=I.es) (by omega) (by omega);omega
theorem yR{es:Nat} :∀{l:List o}(aB:∀e∈l,e.cells.length=es)(k:Nat),k<(flat l).length→ ∃i C e,k=i*es+C∧l[i]? =some e∧C<es
 |[],aB,k,h=>by simp [flat]at h
 |a ::r,aB,k,h=>by
  have aS:a.cells.length=es:=aB a (by simp);by_cases ao:k<es
  ·exact⟨0,k,a,by simp,by simp,ao⟩
  ·obtain⟨i,C,e,p,ae,bg⟩:=yR (l:=r) (fun e he=>aB e (by simp [he])) (k-es) (by simp only [flat,List.flatMap_cons,List.length_append]at h⊢; omega);exact⟨i+1,C,e,by rw [Nat.succ_mul];omega,by simpa using ae,bg⟩
theorem c2.QV{ak:Map}{bd:Nat→Prop}{h:j}{w:World}(r:c2 ak bd h w){id:Nat}{b:J}{I:Place}(ac:ak id b.R=some I)(av:h.get id=some b)
 (eR:b.ro=false) {idx:Nat} {l:List o} {cd:List Value} (eS:I.a7≤idx) (cM:idx+l.length≤b.bi.length) (bZ:l≠[])
 (aB:∀e∈l,e.cells.length=I.es) (vp:bG ak (flat l) cd) (ki:∀x∈cd,x.oneCell'=true) :
 c2 ak bd (h.set id (b.put idx l)) (w.setCells I.ck (I.off+(idx-I.a7)*I.es) cd)
 ∧w.there I.ck (I.off+(idx-I.a7)*I.es) cd.length:=by
 obtain⟨p,c,ae,bg,bO,bJ,du,cI,cr⟩:=r.dB id b.R I ac;rw [av]at ae;simp at ae;subst ae;have lb:b.cE b.R=b.bi.length:=by simp [J.cE]
 have lc:cd.length=l.length*I.es:=by rw [vp.length,k' aB]
 have jG:0<l.length:=List.length_pos_iff.2 bZ
 have aeL:idx+l.length-1-I.a7<I.fy:=by
  have pf:idx+l.length-1<b.bi.length:=by omega
  exact(cr.cont (idx+l.length-1) _ (by omega) (by rw [lb];exact pf) (List.getElem?_eq_getElem pf)).2.1
 have hmul:(idx-I.a7+l.length)*I.es≤I.fy*I.es:=Nat.mul_le_mul_right _ (by omega);rw [Nat.add_mul]at hmul
 have qp:w.there I.ck (I.off+(idx-I.a7)*I.es) cd.length:=by
  intro C aX;have av:(idx-I.a7)*I.es+C<I.fy*I.es:=by omega
  have bu:I.off+(idx-I.a7)*I.es+C=I.off+((idx-I.a7)*I.es+C):=by omega
  rw [bu];exact⟨cr.cells _ av,cr.free eR _ av⟩
 refine⟨?_,qp⟩;refine r.wrote ac av eR (by simp [Cu]) fun i f al a6=> ?_
 rw [yP]at a6;split at a6
 ·rename_i ar;have hm:f∈l:=List.mem_of_getElem? a6;refine⟨aB f hm,fun C bS af=> ?_⟩;have aX:C<I.es:=by rw [←aB f hm];exact(List.getElem?_eq_some_iff.1 af).1
  have ah:=og aB a6 af;obtain⟨x,dU,fA⟩:=vp.get ah;refine⟨x,?_,fA,ki x (List.mem_of_getElem? dU)⟩;have qq:(i-idx)*I.es+C<cd.length:=by rw [lc];exact tp (by omega) aX
  have:=World.cell?_setCells_in I.ck cd (I.off+(idx-I.a7)*I.es) w (fun k ao=>(qp k ao).1) _ qq;rw [List.getElem?_eq_getElem qq]at dU;simp at dU;have bC:(i-I.a7)*I.es=(idx-I.a7)*I.es+(i-idx)*I.es:=by rw [←Nat.add_mul];congr 1;omega
  rw [Place.at,show I.off+(i-I.a7)*I.es+C=I.off+(idx-I.a7)*I.es+((i-idx)*I.es+C)by omega,this,dU]
 ·rename_i ar;have fS:i<b.bi.length:=(List.getElem?_eq_some_iff.1 a6).1;obtain⟨d1,d2,d3⟩:=cr.cont i f al (by rw [lb];exact fS) a6;refine⟨d1,fun C bS af=> ?_⟩;obtain⟨x,dU,fA⟩:=d3 C bS af;refine⟨x,?_,fA⟩;have aX:C<f.cells.length:=(List.getElem?_eq_some_iff.1 af).1;rw [World.cell?_setCells_out _ _ _ _ _ (fun _ _=> ?_)]
  ·exact dU
  ·simp only [Place.at];rcases Nat.lt_or_ge i idx with cM|gh
   ·left;have:=tq (i:=i-I.a7) (k:=idx-I.a7) (C:=C) (es:=I.es) (by omega) (by omega);omega
   ·right;have:=Nat.mul_le_mul_right I.es (show idx-I.a7+l.length≤i-I.a7 by omega);rw [Nat.add_mul]at this;omega
theorem J.IK(b:J)(new:List o)(v:Nat):(b.grow new).cE v =
 if v=b.R+1 then b.bi.length+new.length else if b.fQ≤v∧v<b.R+1 then(if b.fQ=b.R then b.bi.length else min b.gF b.bi.length)else 0:=by
 rw [←List.length_append];rfl
theorem J.IL(b:J)(new:List o)(v:Nat)(h:v≤b.R):(b.grow new).cE v≤b.cE v∧(b.grow new).cE v≤b.bi.length:=by rw [J.IK];unfold J.cE;rw [if_neg (by omega)];constructor<;>(repeat' split)<;>omega
theorem J.IM(b:J)(new:List o):(b.grow new).cE (b.R+1)=b.bi.length+new.length:=by rw [J.IK,if_pos rfl]
theorem c2.QW{ak:Map}{bd:Nat→Prop}{h:j}{w:World}(r:c2 ak bd h w){id:Nat}{b:J}{I:Place}(ac:ak id b.R=some I)(av:h.get id=some b)
 (eR:b.ro=false) (hex:b.exact=false) (dl:fv bd w.heap.size) {idx:Nat} {new:List o} (rV:idx≤b.bi.length)
 (hold:∀e∈b.bi.drop idx,e.cells.length=b.es) (fb:∀e∈new,e.cells.length=b.es)
 {c:Array Value} {t:TypeId} {fy:Nat} (ar:bG ak (flat (b.bi.drop idx++new)) (c.toList.take ((b.bi.drop idx++new).length*b.es)))
 (eQ:fy*b.es≤c.size) (oh:(b.bi.drop idx++new).length≤fy)
 (ki:∀x∈c.toList.take ((b.bi.drop idx++new).length*b.es),x.oneCell'=true) (kJ:∀q,b.an=some q→q.1=t∧(q.2≠0→c.size=q.2)) :
 c2 (ak.add id (b.R+1) ⟨w.heap.size,0,idx,b.es,fy,false,false⟩) bd (h.set id (b.grow new)) (w.alloc (.cells c t)):=by
 have jH:ak id (b.R+1)=none:=by
  cases aC:ak id (b.R+1)with
  |none=>rfl
  |some q=>obtain⟨_,iV,ae,bg,_⟩:=r.dB _ _ _ aC;rw [av]at ae;simp at ae;subst ae;omega
 have hle:=ak.rU (id:=id) (v:=b.R+1) ⟨w.heap.size,0,idx,b.es,fy,false,false⟩ jH;obtain⟨g1,iV,g2,g3,g4,g5,g6,g7,g8⟩:=r.dB id b.R I ac;rw [av]at g2;simp at g2;subst g2;constructor
 ·intro i v q aC;simp only [Map.add]at aC;split at aC
  ·rename_i e;obtain⟨rfl,rfl⟩:=e;simp at aC;subst aC;refine⟨g1,b.grow new,j.gG _ _ _,Nat.le_refl _,rfl,hex.symm,fun _=>rfl,by rw [←g4];exact g7,?_⟩;constructor
   ·rw [size_alloc];simp
   ·intro _;exact dl.no
   ·intro U ai;simp only at ai⊢;rw [to,Nat.zero_add,Array.getElem?_eq_getElem (by omega)];rfl
   ·intro _ U ai;exact IF _ _ _ _
   ·intro _;exact⟨t,c.size,0,0,by simp [fz,heap_alloc],.inl rfl⟩
   ·intro fu b7;exact⟨c.size,0,0,by rw [(kJ fu b7).1];simp [fz,heap_alloc],(kJ fu b7).2,rfl⟩
   ·intro k e gg cw la;rw [J.IM]at cw;have hlen:(b.bi.drop idx++new).length=b.bi.length-idx+new.length:=by simp
    have gi:∀e∈b.bi.drop idx++new,e.cells.length=b.es:=fun e he=>by
     rcases List.mem_append.1 he with he|he
     ·exact hold e he
     ·exact fb e he
    have kj:(b.bi++new)[k]? =some e:=la
    have IN:(b.bi.drop idx++new)[k-idx]? =some e:=by
     simp only at gg;by_cases jC:k<b.bi.length
     ·rw [List.getElem?_append_left jC]at kj;rw [List.getElem?_append_left (by simp;omega),List.getElem?_drop,show idx+(k-idx)=k by omega];exact kj
     ·rw [List.getElem?_append_right (by omega)]at kj;rw [List.getElem?_append_right (by simp;omega),List.length_drop,show k-idx- (b.bi.length-idx)=k-b.bi.length by omega];exact kj
    have hm:=List.mem_of_getElem? IN;refine⟨gi e hm,by simp only at gg⊢; omega,fun C bS af=> ?_⟩;have a6:=og gi IN af;obtain⟨x,dU,fA⟩:=ar.get a6;refine⟨x,?_,fA.mono hle,ki x (List.mem_of_getElem? dU)⟩;simp only [Place.at,Nat.zero_add];rw [to];rw [List.getElem?_take]at dU;split at dU
    ·simpa using dU
    ·simp at dU
  ·obtain⟨p,fr,ae,bg,bO,bJ,du,cI,cr⟩:=r.dB i v q aC;by_cases al:i=id
   ·subst al;rw [av]at ae;simp at ae;subst ae;have rW:=(cr.alike (Alike.alloc w (.cells c t))).mono hle;have lb:=J.IL b new v bg;refine⟨p,b.grow new,j.gG _ _ _,by simp only [J.grow];omega,bO,bJ,du,cI,⟨rW.ck,rW.base,rW.cells,rW.free,rW.mark,rW.jp,fun k e gg cw la=>rW.cont k e gg (by omega) ?_⟩⟩;have kj:(b.bi++new)[k]? =some e:=la
    rwa [List.getElem?_append_left (by omega)]at kj
   ·exact⟨p,fr,by rw [j.e1 _ _ (fun e=>al e.symm)];exact ae,bg,bO,bJ,du,cI,(cr.alike (Alike.alloc _ _)).mono hle⟩
 ·intro i v q C u jI aC eE kK iB;simp only [Map.add]at aC eE;split at aC<;>split at eE
  ·rename_i bu bC;exact absurd (bu.1.trans bC.1.symm) iB
  ·simp at aC;subst aC;obtain⟨_,_,_,_,_,_,_,_,cr⟩:=r.dB C u jI eE;have:=cr.ck;simp only at kK;omega
  ·simp at eE;subst eE;obtain⟨_,_,_,_,_,_,_,_,cr⟩:=r.dB i v q aC;have:=cr.ck;simp only at kK;omega
  ·exact r.apart i v q C u jI aC eE kK iB
 ·intro i v q u jI aC eE kK;simp only [Map.add]at aC eE;split at aC<;>split at eE
  ·simp at aC eE;subst aC eE;exact⟨rfl,rfl⟩
  ·simp at aC;subst aC;obtain⟨_,_,_,_,_,_,_,_,cr⟩:=r.dB i u jI eE;have:=cr.ck;simp only at kK;omega
  ·simp at eE;subst eE;obtain⟨_,_,_,_,_,_,_,_,cr⟩:=r.dB i v q aC;have:=cr.ck;simp only at kK;omega
  ·exact r.same i v q u jI aC eE kK
theorem c2.QX{ak:Map}{bd:Nat→Prop}{h:j}{w:World}(r:c2 ak bd h w){id:Nat}{b:J}{I:Place}(ac:ak id b.R=some I)(av:h.get id=some b)
 (eR:b.ro=false) {new:List o} {cd:List Value} (eS:I.a7≤b.bi.length) (yS:b.bi.length-I.a7+new.length≤I.fy)
 (fb:∀e∈new,e.cells.length=I.es) (vp:bG ak (flat new) cd) (ki:∀x∈cd,x.oneCell'=true) :
 c2 (ak.add id (b.R+1) I) bd (h.set id (b.grow new)) (w.setCells I.ck (I.off+(b.bi.length-I.a7)*I.es) cd)
 ∧w.there I.ck (I.off+(b.bi.length-I.a7)*I.es) cd.length:=by
 have jH:ak id (b.R+1)=none:=by
  cases aC:ak id (b.R+1)with
  |none=>rfl
  |some q=>obtain⟨_,iV,ae,bg,_⟩:=r.dB _ _ _ aC;rw [av]at ae;simp at ae;subst ae;omega
 have hle:=ak.rU (id:=id) (v:=b.R+1) I jH;obtain⟨g1,iV,g2,g3,g4,g5,g6,g7,g8⟩:=r.dB id b.R I ac;rw [av]at g2;simp at g2;subst g2;have lc:cd.length=new.length*I.es:=by rw [vp.length,k' fb]
 have hmul:(b.bi.length-I.a7+new.length)*I.es≤I.fy*I.es:=Nat.mul_le_mul_right _ yS;rw [Nat.add_mul]at hmul
 have qp:w.there I.ck (I.off+(b.bi.length-I.a7)*I.es) cd.length:=by
  intro C aX;have av:(b.bi.length-I.a7)*I.es+C<I.fy*I.es:=by omega
  have bu:I.off+(b.bi.length-I.a7)*I.es+C=I.off+((b.bi.length-I.a7)*I.es+C):=by omega
  rw [bu];exact⟨g8.cells _ av,g8.free eR _ av⟩
 refine⟨?_,qp⟩;have eQ:=World.Cv I.ck cd (I.off+(b.bi.length-I.a7)*I.es) w
 have IP:∀(q:Place)(k C:Nat),q.ck=I.ck→q.off=I.off→q.a7=I.a7→q.es=I.es→k<b.bi.length→q.a7≤k→C<q.es →
  (w.setCells I.ck (I.off+(b.bi.length-I.a7)*I.es) cd).cell? (q.at k C)=w.cell? (q.at k C):=by
  intro q k C Cy tr QY QZ gg cw aX;refine World.cell?_setCells_out _ _ _ _ _ (fun _ _=> .inl ?_);simp only [Place.at,tr,QY,QZ];have:=tq (i:=k-I.a7) (k:=b.bi.length-I.a7) (C:=C) (es:=I.es) (by omega) (by omega);omega
 have Q0:b.cE b.R=b.bi.length:=by simp [J.cE]
 constructor
 ·intro i v q aC;simp only [Map.add]at aC;split at aC
  ·rename_i e;obtain⟨rfl,rfl⟩:=e;simp at aC;subst aC;refine⟨g1,b.grow new,j.gG _ _ _,Nat.le_refl _,g4,g5,g6,g7,⟨by rw [eQ];exact g8.ck,g8.base,fun eD gY=>World.isSome_setCells _ _ _ _ _ (g8.cells eD gY),fun fB eD gY=>by rw [World.frozen?_setCells];exact g8.free fB eD gY,fun fB=>(g8.mark fB).setCells _ _ _,fun t9 fB=>by rw [vo];exact g8.jp t9 fB,?_⟩⟩;intro k e gg cw la;rw [J.IM]at cw;have kj:(b.bi++new)[k]? =some e:=la;by_cases jC:k<b.bi.length
   ·rw [List.getElem?_append_left jC]at kj;obtain⟨d1,d2,d3⟩:=g8.cont k e gg (by rw [Q0];exact jC) kj;refine⟨d1,d2,fun C bS af=> ?_⟩;obtain⟨x,dU,fA⟩:=d3 C bS af;have aX:C<e.cells.length:=(List.getElem?_eq_some_iff.1 af).1;exact⟨x,by rw [IP I k C rfl rfl rfl rfl jC gg (by omega)];exact dU,fA.1.mono hle,fA.2⟩
   ·rw [List.getElem?_append_right (by omega)]at kj;have hm:=List.mem_of_getElem? kj;refine⟨fb e hm,by omega,fun C bS af=> ?_⟩;have aX:C<I.es:=by rw [←fb e hm];exact(List.getElem?_eq_some_iff.1 af).1
    have ah:=og fb kj af;obtain⟨x,dU,fA⟩:=vp.get ah;refine⟨x,?_,fA.mono hle,ki x (List.mem_of_getElem? dU)⟩;have qq:(k-b.bi.length)*I.es+C<cd.length:=by rw [lc];exact tp (by have:=(List.getElem?_eq_some_iff.1 kj).1;omega) aX
    have:=World.cell?_setCells_in I.ck cd (I.off+(b.bi.length-I.a7)*I.es) w (fun k ao=>(qp k ao).1) _ qq;rw [List.getElem?_eq_getElem qq]at dU;simp at dU;have bC:(k-I.a7)*I.es=(b.bi.length-I.a7)*I.es+(k-b.bi.length)*I.es:=by rw [←Nat.add_mul];congr 1;omega
    rw [Place.at,show I.off+(k-I.a7)*I.es+C=I.off+(b.bi.length-I.a7)*I.es+((k-b.bi.length)*I.es+C)by omega,this,dU]
  ·obtain⟨p,fr,ae,bg,bO,bJ,du,cI,cr⟩:=r.dB i v q aC;by_cases al:i=id
   ·subst al;rw [av]at ae;simp at ae;subst ae;have lb:=J.IL b new v bg;refine⟨p,b.grow new,j.gG _ _ _,by simp only [J.grow];omega,bO,bJ,du,cI,⟨by rw [eQ];exact cr.ck,cr.base,fun eD gY=>World.isSome_setCells _ _ _ _ _ (cr.cells eD gY),fun fB eD gY=>by rw [World.frozen?_setCells];exact cr.free fB eD gY,fun fB=>(cr.mark fB).setCells _ _ _,fun t9 fB=>by rw [vo];exact cr.jp t9 fB,fun k e gg cw la=> ?_⟩⟩;have kj:(b.bi++new)[k]? =some e:=la;rw [List.getElem?_append_left (by omega)]at kj;obtain⟨d1,d2,d3⟩:=cr.cont k e gg (by omega) kj;refine⟨d1,d2,fun C bS af=> ?_⟩;obtain⟨x,dU,fA⟩:=d3 C bS af;have aX:C<e.cells.length:=(List.getElem?_eq_some_iff.1 af).1;refine⟨x,?_,fA.1.mono hle,fA.2⟩;by_cases Cz:q.ck=I.ck
    ·obtain⟨s1,s2⟩:=r.same i v q b.R I aC ac Cz;rw [IP q k C Cz s1 s2 (by rw [bO,g4]) (by omega) gg (by omega)];exact dU
    ·rw [World.cell?_setCells_out _ _ _ _ _ (fun bQ _=>absurd bQ (by simp only [Place.at];exact Cz))];exact dU
   ·have bZ:I.ck≠q.ck:=by intro e;have:=r.apart id b.R I i v q ac aC e (fun e=>al e.symm);rw [g6 eR]at this;simp at this
    have nm:∀a:Addr,a.block=q.ck→(w.setCells I.ck (I.off+(b.bi.length-I.a7)*I.es) cd).cell? a=w.cell? a:=fun a aS=>World.cell?_setCells_out _ _ _ _ _ (fun bQ _=>absurd (bQ.symm.trans aS) bZ)
    refine⟨p,fr,by rw [j.e1 _ _ (fun e=>al e.symm)];exact ae,bg,bO,bJ,du,cI,?_⟩;refine⟨by rw [eQ];exact cr.ck,cr.base,fun eD gY=>by rw [nm _ rfl];exact cr.cells eD gY,fun fB eD gY=>by rw [World.frozen?_setCells];exact cr.free fB eD gY,fun fB=>(cr.mark fB).setCells _ _ _,fun t9 fB=>by rw [vo];exact cr.jp t9 fB,?_⟩;intro k e gg cw la;obtain⟨pe,Cw,Cx⟩:=cr.cont k e gg cw la;refine⟨pe,Cw,fun C bS af=> ?_⟩;obtain⟨x,dU,fA⟩:=Cx C bS af;exact⟨x,by rw [nm _ rfl];exact dU,fA.1.mono hle,fA.2⟩
 ·intro i v q C u jI aC eE kK iB;simp only [Map.add]at aC eE;split at aC<;>split at eE
  ·rename_i bu bC;exact absurd (bu.1.trans bC.1.symm) iB
  ·rename_i bu bC;simp at aC;subst aC;exact r.apart id b.R I C u jI ac eE kK (by rw [←bu.1];exact iB)
  ·rename_i bu bC;simp at eE;subst eE;exact r.apart i v q id b.R I aC ac kK (by rw [←bC.1];exact iB)
  ·exact r.apart i v q C u jI aC eE kK iB
 ·intro i v q u jI aC eE kK;simp only [Map.add]at aC eE;split at aC<;>split at eE
  ·simp at aC eE;subst aC eE;exact⟨rfl,rfl⟩
  ·rename_i bu bC;simp at aC;subst aC;exact r.same id b.R I u jI ac (by rw [←bu.1];exact eE) kK
  ·rename_i bu bC;simp at eE;subst eE;exact r.same id v q b.R I (by rw [←bC.1];exact aC) ac kK
  ·exact r.same i v q u jI aC eE kK
open Go.RowKit in
theorem vq{B:Nat→Prop}{a:World}(b:Nat)(av:¬B b):∀(cd:List Value)(U:Nat){w:World},Safe B a w→Safe B a (w.setCells b U cd)
 |[],_,_,h=>h
 |v::r,U,w,h=>vq b av r (U+1) (h.setCell (I:=⟨b,U,none⟩) av v)
end
end Go.cH
namespace Go.cH
noncomputable section
open Go.RowKit
theorem dI.dr.get{D:dI}{P:Program}(h:D.dr P){t:TypeId}{d:qi}(aD:D t=some d) :
 ∃i u,P.info? t=some i∧P.underlying t=some u∧d.kind=gV u∧d.size=i.size∧d.bytes=i.bytes∧d.zero=i.zero.map qh:=by
 have:=h t d aD;unfold yH at this;split at this
 ·rename_i i u al hu;simp at this;subst this;exact⟨i,u,al,hu,rfl,rfl,rfl,rfl⟩
 ·cases this
theorem ld{u:TypeDesc}{e:TypeId}(h:gV u=.slice e):u=.slice e:=by cases u<;>simp [gV]at h⊢; exact h
theorem ts{u:TypeDesc}{n:Nat}{e:TypeId}(h:gV u=.array n e):u=.array n e:=by cases u<;>simp [gV]at h⊢; exact h
theorem qs{u:TypeDesc}(h:gV u=.string):u=.string:=by cases u<;>simp [gV]at h⊢
theorem IQ{u:TypeDesc}(h:gV u=.bool):u=.bool:=by cases u<;>simp [gV]at h⊢
theorem vr{u:TypeDesc}{k:IntKind}(h:gV u=.int k):u=.int k:=by cases u<;>simp [gV]at h⊢; exact h
theorem yT{u:TypeDesc}{e:TypeId}(h:gV u=.ptr e):u=.pointer e:=by cases u<;>simp [gV]at h⊢; exact h
theorem CA{u:TypeDesc}(h:gV u=.func):∃a b c,u=.func a b c:=by cases u<;>simp [gV]at h⊢
theorem CB{u:TypeDesc}{U:Bool}(h:gV u=.iface U):∃yG,u=.interface yG∧U= !yG.isEmpty:=by cases u<;>simp [gV]at h⊢; rw [h];simp
theorem yU{u:TypeDesc}{l:List (Nat×TypeId)}(h:gV u=.struct l):∃cV,u=.struct cV∧l=cV.toList.map fun f=>(f.offset,f.type):=by cases u<;>simp [gV]at h⊢; exact h.symm
theorem rX{P:Program}{t:TypeId}{u:TypeDesc}(h:P.underlying t=some u)(w:World):(isAgg t).run P w=.ok (gV u).isAgg w:=by unfold isAgg;rw [Sem.run_bind,run_underlying h];cases u<;>rfl
theorem lf{P:Program}{t:TypeId}{i:TypeInfo}(h:P.info? t=some i)(w:World):(sizeOf t).run P w=.ok i.size w:=by simp [sizeOf,typeInfo,h]
theorem Q1{P:Program}{t:TypeId}{i:TypeInfo}(h:P.info? t=some i)(w:World):(typeInfo t).run P w=.ok i w:=by simp [typeInfo,h]
theorem vs{P:Program}{t:TypeId}{i:TypeInfo}{z:Value}(h:P.info? t=some i)(eO:i.zero=some z)(w:World):(zeroValue t).run P w=.ok z w:=by simp [zeroValue,typeInfo,h,eO]
section
variable {P:Program}{ak:Map}
theorem Q2{op:BinOp}{k:IntKind}{x y:Int}{v:o}(t:TypeId)(h:ke op k x y=some v)(w:World) :
 ∃bp,(binOp op t (.int k x) (.int k y)).run P w=.ok bp w∧aK ak v bp:=by
 cases op<;>simp only [ke]at h <;>
  first
   |(cases h;done)
   |(split at h<;>first|(cases h;done)|(rename_i bY;simp at h;subst h;exact⟨_,by simp [binOp,Op.intDiv,bY];rfl,by simp only [aK]⟩))
   |(simp at h;subst h;exact⟨_,by simp [binOp,Op.intArith,Op.intBits,Op.intCmp];rfl,by simp only [aK]⟩)
theorem IR{op:BinOp}{k fa:IntKind}{x y:Int}{v:o}(t:TypeId)(gZ:op=.shl∨op=.shr)(h:vg op k x y=some v)(w:World) :
 ∃bp,(binOp op t (.int k x) (.int fa y)).run P w=.ok bp w∧aK ak v bp:=by
 unfold vg at h;split at h
 ·cases h
 ·rename_i bY;rcases gZ with rfl|rfl
  ·simp at h;subst h;exact⟨_,by simp [binOp,Op.shift,bY];rfl,by simp only [aK]⟩
  ·simp at h;subst h;exact⟨_,by simp [binOp,Op.shift,bY];rfl,by simp only [aK]⟩
theorem Q3:IntKind.i64.max=9223372036854775807:=rfl
theorem Q4{op:BinOp}{a b:ByteArray}{v:o}(t:TypeId)(h:vh op a.data.toList b.data.toList=some v)(w:World) :
 ∃bp,(binOp op t (.string a) (.string b)).run P w=.ok bp w∧aK ak v bp:=by
 cases op <;> simp only [vh]at h <;>
  first
   |(cases h;done)
   |(split at h<;>first
    |(cases h;done)
    |(rename_i cM
      simp at h;subst h;refine⟨.string (a++b),?_,?_⟩
      ·simp only [binOp,Op.stringOp];rw [if_neg]
       ·rfl
       ·simp only [Array.length_toList]at cM;rw [Q3];simp only [ByteArray.size];omega
      ·simp [aK]))
   |(simp at h;subst h;exact⟨_,by simp [binOp,Op.stringOp,ByteArray.toList_eq];rfl,by simp only [aK]⟩)
def CC(P:Program)(t:TypeId):Bool :=
 !P.eqGuardType P.depth t&&!P.stoodInHeld t &&
 (match P.underlying t with
 |some (.struct cV)=>cV.toList.zipIdx.all fun(f,i)=>f.name != "_" && f.offset == i
 |some (.array _ _)=>true
 |_=>false)
def qt(P:Program)(t:TypeId):Prop:=CC P t=true
theorem qt.spec{t:TypeId}(h:qt P t):P.eqGuardType P.depth t=false∧P.stoodInHeld t=false∧∀cV,P.underlying t=some (.struct cV)→ ∀(i:Nat)(f:Field),cV.toList[i]? =some f→f.name≠ "_" ∧f.offset=i:=by unfold qt CC at h;simp only [Bool.and_eq_true,Bool.not_eq_true']at h;obtain⟨⟨p,ae⟩,bg⟩:=h;refine⟨p,ae,fun cV tt i f a6=> ?_⟩;rw [tt]at bg;simp only [List.all_eq_true]at bg;have:=bg (f,i) (by rw [List.mem_zipIdx_iff_getElem?];exact a6);simpa using this
theorem IS{k:j0}{a b:o}{x y:Value}(aS:aK ak a x)(av:aK ak b y){r:Bool}(h:yI k a b=some r){t:TypeId}{u:TypeDesc}(hu:P.underlying t=some u)(ao:k=gV u)(d:Nat)(w:World) :
 (Op.equalIn (d+1) t x y).run P w=.ok r w∧(gV u).isAgg=false:=by
 unfold yI at h;split at h
 ·rename_i bE aL a aQ b;have:=vr ao.symm;subst this;split at h
  ·rename_i e;subst e;simp at h;subst h;simp only [aK]at aS av;subst aS av;refine⟨?_,rfl⟩;simp only [Op.equalIn,Sem.run_bind,run_underlying hu,Result.andThen_ok,if_true,Sem.run_pure]
  ·cases h
 ·have:=IQ ao.symm;subst this;simp at h;subst h;simp only [aK]at aS av;subst aS av;refine⟨?_,rfl⟩;simp only [Op.equalIn,Sem.run_bind,run_underlying hu,Result.andThen_ok,Sem.run_pure]
 ·have:=qs ao.symm;subst this;simp at h;subst h;simp only [aK]at aS av;obtain⟨s,rfl,rfl⟩:=aS;obtain⟨bK,rfl,rfl⟩:=av;refine⟨?_,rfl⟩;rw [run_equalIn_string w d t s bK hu,ByteArray.toList_eq,ByteArray.toList_eq]
 ·cases h
theorem IT{D:dI}(b5:D.dr P){xs jq:Array Value}(d:Nat)(w:World):∀{cV:List Field}{i:Nat}{x y:List o}{b:Bool},(∀(C:Nat)(f:Field),cV[C]? =some f→f.name≠ "_" ∧f.offset=i+C) →
 bG ak x (xs.toList.drop i)→bG ak y (jq.toList.drop i)→rM D (cV.map fun f=>(f.offset,f.type)) x y=some b→(Op.eqFields (d+1) xs jq cV).run P w=.ok b w
 |[],i,x,y,b,_,_,_,h=>by simp only [List.map_nil]at h;cases x<;>cases y<;>simp [rM]at h;subst h;rfl
 |f ::cV,i,x,y,b,a6,af,bY,h=>by
  simp only [List.map_cons]at h;cases x with
  |nil=>cases y<;>simp [rM]at h
  |cons a x =>
   cases y with
   |nil=>simp [rM]at h
   |cons c y =>
    simp only [rM]at h;split at h
    ·rename_i aeM Q5;obtain⟨iW,u,hD,hu,ao, -⟩:=b5.get Q5;split at h
     ·rename_i I q ac aC;simp at h;subst h;obtain⟨aM,ai⟩:=a6 0 f (by simp);simp only [bG]at af bY;obtain⟨nn,fT,ex,CD,af⟩:=af;obtain⟨vt,an,j2,CE,bY⟩:=bY;obtain⟨g1,g2⟩:=IS (P:=P) CD CE ac hu ao d w
      have CF:xs[f.offset]? =some nn:=by have:=congrArg (fun l=>l[0]?) ex;simpa [ai]using this
      have CG:jq[f.offset]? =some vt:=by have:=congrArg (fun l=>l[0]?) j2;simpa [ai]using this
      have CH:xs.toList.drop (i+1)=fT:=by rw [←List.drop_drop,ex];rfl
      have CI:jq.toList.drop (i+1)=an:=by rw [←List.drop_drop,j2];rfl
      have CJ:(part f.type xs f.offset).run P w=.ok nn w:=by simp only [part,Sem.run_bind,rX hu,Result.andThen_ok,g2];simp [CF]
      have CK:(part f.type jq f.offset).run P w=.ok vt w:=by simp only [part,Sem.run_bind,rX hu,Result.andThen_ok,g2];simp [CG]
      have ih:=IT b5 (xs:=xs) (jq:=jq) d w (cV:=cV) (i:=i+1) (fun C g ah=>by
       have:=a6 (C+1) g (by simpa using ah)
       exact⟨this.1,by omega⟩) (by rw [CH];exact af) (by rw [CI];exact bY) aC
      simp only [Op.eqFields];rw [if_pos aM];simp only [Sem.run_bind,CJ,CK,Result.andThen_ok,g1];cases I
      ·rfl
      ·simp only [Bool.not_true,Bool.false_eq_true,if_false,Bool.true_and];exact ih
     ·cases h
    ·cases h
theorem IU{D:dI}{e:TypeId}{u:TypeDesc}(hu:P.underlying e=some u){xs jq:Array Value}(d:Nat)(w:World):∀{n i:Nat}{x y:List o}{b:Bool},x.length=n →
 bG ak x (xs.toList.drop i)→bG ak y (jq.toList.drop i)→tj (gV u) x y=some b→(Op.eqItems (d+1) e 1 xs jq (List.range' i n)).run P w=.ok b w
 |n,i,[],y,b,aM,_,_,h=>by simp at aM;subst aM;cases y<;>simp [tj]at h;subst h;rfl
 |n,i,a::x,[],b,aM,_,_,h=>by simp [tj]at h
 |n,i,a::x,c::y,b,aM,af,bY,h=>by
  obtain⟨m,rfl⟩:∃m,n=m+1:=⟨x.length,by simpa using aM.symm⟩
  simp only [tj]at h;split at h
  ·rename_i I q ac aC;simp at h;subst h;simp only [bG]at af bY;obtain⟨nn,fT,ex,CD,af⟩:=af;obtain⟨vt,an,j2,CE,bY⟩:=bY;obtain⟨g1,g2⟩:=IS (P:=P) CD CE ac hu rfl d w
   have CF:xs[i]? =some nn:=by have:=congrArg (fun l=>l[0]?) ex;simpa using this
   have CG:jq[i]? =some vt:=by have:=congrArg (fun l=>l[0]?) j2;simpa using this
   have CH:xs.toList.drop (i+1)=fT:=by rw [←List.drop_drop,ex];rfl
   have CI:jq.toList.drop (i+1)=an:=by rw [←List.drop_drop,j2];rfl
   have CJ:(part e xs (i*1)).run P w=.ok nn w:=by simp only [part,Sem.run_bind,rX hu,Result.andThen_ok,g2];simp [CF]
   have CK:(part e jq (i*1)).run P w=.ok vt w:=by simp only [part,Sem.run_bind,rX hu,Result.andThen_ok,g2];simp [CG]
   have ih:=IU (D:=D) hu (xs:=xs) (jq:=jq) d w (n:=m) (i:=i+1) (by simpa using aM) (by rw [CH];exact af) (by rw [CI];exact bY) aC;rw [List.range'_succ];simp only [Op.eqItems];simp only [Sem.run_bind,CJ,CK,Result.andThen_ok,g1];cases I
   ·rfl
   ·simp only [Bool.not_true,Bool.false_eq_true,if_false,Bool.true_and];exact ih
  ·cases h
theorem md:Op.maxDepth=9999+1:=rfl
theorem IV{D:dI}(b5:D.dr P){ie:TypeId→Bool}(cA:∀t,ie t=true→qt P t){lit:Bool}{t:TypeId}{x y:o}{bS gH:Value}{b:Bool}
 (af:aK ak x bS) (bY:aK ak y gH) (h:qj D ie lit t x y=some b) (w:World):(Op.equalIn Op.maxDepth t bS gH).run P w=.ok b w:=by
 unfold qj at h;split at h
 ·cases h
 ·rename_i d aD;obtain⟨i,u,al,hu,ao, -⟩:=b5.get aD;rw [ao]at h;split at h
  ·rename_i e;have:=IQ e;subst this;simp only [aK]at af bY;subst af bY;simp at h;subst h;rw [md];generalize 9999=ft;simp only [Op.equalIn,Sem.run_bind,run_underlying hu,Result.andThen_ok,Sem.run_pure,Option.isNone_some,Option.isNone_none]
  ·rename_i e;have:=yT e;subst this;simp only [aK]at af bY;subst af bY;simp at h;subst h;rw [md];generalize 9999=ft;simp only [Op.equalIn,Sem.run_bind,run_underlying hu,Result.andThen_ok,Sem.run_pure,Option.isNone_some,Option.isNone_none]
  ·rename_i e;have:=yT e;subst this;simp only [aK]at af bY;obtain⟨z,rfl,_⟩:=bY;subst af;simp at h;subst h;rw [md];generalize 9999=ft;simp only [Op.equalIn,Sem.run_bind,run_underlying hu,Result.andThen_ok,Sem.run_pure,Option.isNone_some,Option.isNone_none]
  ·rename_i e;have:=yT e;subst this;simp only [aK]at af bY;obtain⟨z,rfl,_⟩:=af;subst bY;simp at h;subst h;rw [md];generalize 9999=ft;simp only [Op.equalIn,Sem.run_bind,run_underlying hu,Result.andThen_ok,Sem.run_pure,Option.isNone_some,Option.isNone_none]
  ·rename_i e;have:=ld e;subst this;simp only [aK]at af bY;obtain⟨rfl,_⟩:=af;obtain⟨rfl,_⟩:=bY;simp at h;subst h;rw [md];generalize 9999=ft;simp only [Op.equalIn,Sem.run_bind,run_underlying hu,Result.andThen_ok,Sem.run_pure,Option.isNone_some,Option.isNone_none]
  ·rename_i e;have:=ld e;subst this;simp only [aK]at af bY;obtain⟨rfl,_⟩:=af;obtain⟨z,c,rfl,_⟩:=bY;simp at h;subst h;rw [md];generalize 9999=ft;simp only [Op.equalIn,Sem.run_bind,run_underlying hu,Result.andThen_ok,Sem.run_pure,Option.isNone_some,Option.isNone_none]
  ·rename_i e;have:=ld e;subst this;simp only [aK]at af bY;obtain⟨rfl,_⟩:=bY;obtain⟨z,c,rfl,_⟩:=af;simp at h;subst h;rw [md];generalize 9999=ft;simp only [Op.equalIn,Sem.run_bind,run_underlying hu,Result.andThen_ok,Sem.run_pure,Option.isNone_some,Option.isNone_none]
  ·rename_i e;obtain⟨_,_,_,rfl⟩:=CA e;simp only [aK]at af bY;subst af bY;simp at h;subst h;rw [md];generalize 9999=ft;simp only [Op.equalIn,Sem.run_bind,run_underlying hu,Result.andThen_ok,Sem.run_pure,Option.isNone_some,Option.isNone_none]
  ·rename_i e;obtain⟨_,_,_,rfl⟩:=CA e;simp only [aK]at af bY;obtain⟨_,_,rfl,_⟩:=bY;subst af;simp at h;subst h;rw [md];generalize 9999=ft;simp only [Op.equalIn,Sem.run_bind,run_underlying hu,Result.andThen_ok,Sem.run_pure,Option.isNone_some,Option.isNone_none]
  ·rename_i e;obtain⟨_,_,_,rfl⟩:=CA e;simp only [aK]at af bY;obtain⟨_,_,rfl,_⟩:=af;subst bY;simp at h;subst h;rw [md];generalize 9999=ft;simp only [Op.equalIn,Sem.run_bind,run_underlying hu,Result.andThen_ok,Sem.run_pure,Option.isNone_some,Option.isNone_none]
  ·rename_i e;obtain⟨_,rfl,_⟩:=CB e;simp only [aK]at af bY;subst af bY;split at h<;>simp at h;subst h;rw [md];generalize 9999=ft;simp only [Op.equalIn,Sem.run_bind,run_underlying hu,Result.andThen_ok,Sem.run_pure,Option.isNone_some,Option.isNone_none]
  ·rename_i e;obtain⟨_,rfl,_⟩:=CB e;simp only [aK]at af bY;obtain⟨_,rfl,_⟩:=bY;subst af;simp at h;subst h;rw [md];generalize 9999=ft;simp only [Op.equalIn,Sem.run_bind,run_underlying hu,Result.andThen_ok,Sem.run_pure,Option.isNone_some,Option.isNone_none]
  ·rename_i e;obtain⟨_,rfl,_⟩:=CB e;simp only [aK]at af bY;obtain⟨_,rfl,_⟩:=af;subst bY;simp at h;subst h;rw [md];generalize 9999=ft;simp only [Op.equalIn,Sem.run_bind,run_underlying hu,Result.andThen_ok,Sem.run_pure,Option.isNone_some,Option.isNone_none]
  ·rename_i cV x y e;obtain⟨aG,rfl,ml⟩:=yU e;simp only [aK]at af bY;obtain⟨xs,rfl,rx⟩:=af;obtain⟨jq,rfl,yV⟩:=bY;split at h
   ·rename_i he;obtain⟨p,ae,bg⟩:=(cA t he).spec;have IW:P.fieldsOf t=aG:=by simp [Program.fieldsOf,hu]
    rw [md,run_equalIn_struct w 9999 t xs jq (by rw [IW];exact hu) ae,IW];rw [ml]at h;exact IT b5 9998 w (i:=0) (fun C f a6=>by have:=bg aG hu C f a6;exact⟨this.1,by omega⟩) (by simpa using rx) (by simpa using yV) h
   ·cases h
  ·rename_i n e x y kL;have:=ts kL;subst this;simp only [aK]at af bY;obtain⟨xs,rfl,rx⟩:=af;obtain⟨jq,rfl,yV⟩:=bY;split at h
   ·split at h
    ·rename_i gW pg;obtain⟨yW,qu,oj,ph,lg,cs, -⟩:=b5.get pg;split at h
     ·rename_i ar
      have pi:P.cellsOf e=1:=by unfold Program.cellsOf;rw [oj];simp;omega
      rw [md,run_equalIn_array w 9999 xs jq hu oj,pi,List.range_eq_range'];rw [lg]at h;exact IU (D:=D) ph 9998 w ar.2 (by simpa using rx) (by simpa using yV) h
     ·cases h
    ·cases h
   ·cases h
  ·cases h
theorem IX{D:dI}{ie:TypeId→Bool}(cA:∀t,ie t=true→qt P t){op:BinOp}{t:TypeId}{kk ol:Operand}{x y:o}{bS gH:Value}{b:Bool}
 (af:aK ak x bS) (bY:aK ak y gH) (h:qj D ie (n8 kk || n8 ol) t x y=some b) (w:World):(eqGuard op t kk ol bS gH).run P w=.ok () w:=by
 have key :op=.eql∨op=.neq→(eqGuard op t kk ol bS gH).run P w=.ok () w:=by
  intro gZ;unfold qj at h;split at h
  ·cases h
  ·split at h
   all_goals first
    |(cases h;done)
    |(simp only [aK]at af bY;subst af bY;rcases gZ with rfl|rfl<;>rfl)
    |(simp only [aK]at af bY;obtain⟨rfl,_⟩:=af;obtain⟨rfl,_⟩:=bY;rcases gZ with rfl|rfl<;>rfl)
    |(simp only [aK]at af bY;subst af;obtain⟨_,rfl,_⟩:=bY;rcases gZ with rfl|rfl<;>rfl)
    |(simp only [aK]at af bY;subst bY;obtain⟨_,rfl,_⟩:=af;rcases gZ with rfl|rfl<;>rfl)
    |(simp only [aK]at af bY;obtain⟨rfl,_⟩:=af;obtain⟨_,_,rfl,_⟩:=bY;rcases gZ with rfl|rfl<;>rfl)
    |(simp only [aK]at af bY;obtain⟨rfl,_⟩:=bY;obtain⟨_,_,rfl,_⟩:=af;rcases gZ with rfl|rfl<;>rfl)
    |(simp only [aK]at af bY;subst af;obtain⟨_,_,rfl,_⟩:=bY;rcases gZ with rfl|rfl<;>rfl)
    |(simp only [aK]at af bY;subst bY;obtain⟨_,_,rfl,_⟩:=af;rcases gZ with rfl|rfl<;>rfl)
    |(simp only [aK]at af bY;subst af bY;split at h<;>first|(cases h;done)|skip
      rename_i aB;simp only [Bool.or_eq_true]at aB;rcases aB with aB|aB
      ·cases kk<;>first|(simp [n8]at aB;done)|(rcases gZ with rfl|rfl<;>rfl)
      ·cases ol<;>first|(simp [n8]at aB;done)|(rcases gZ with rfl|rfl<;>simp [eqGuard]))
    |(simp only [aK]at af bY;obtain⟨_,rfl,rx⟩:=af;obtain⟨_,rfl,yV⟩:=bY;split at h<;>first|(cases h;done)|skip
      rename_i he
      exact run_eqGuard_agg w op t kk ol _ _ (cA t he).spec.1)
 cases op<;>first|exact key (.inl rfl)|exact key (.inr rfl)|rfl
def vu:Value→Bool
 |.bool _|.pointer _|.slice _ _ _|.func _ _ _|.nilFunc|.nilIface|.iface _ _|.agg _=>true
 |_=>false
theorem Q6(t:TypeId)(x y:Value)(h:vu x=true):binOp .eql t x y=(do pure (.bool (←Op.equal t x y))):=by cases x<;>first|(simp [vu]at h;done)|(cases y<;>rfl)
theorem Q7(t:TypeId)(x y:Value)(h:vu x=true):binOp .neq t x y=(do pure (.bool (!(←Op.equal t x y)))):=by cases x<;>first|(simp [vu]at h;done)|(cases y<;>rfl)
theorem IY{D:dI}{ie:TypeId→Bool}{lit:Bool}{t:TypeId}{x y:o}{bS:Value}{b:Bool}(af:aK ak x bS)(h:qj D ie lit t x y=some b):vu bS=true:=by
 unfold qj at h;split at h
 ·cases h
 ·split at h
  all_goals first
   |(cases h;done)
   |(simp only [aK]at af;subst af;rfl)
   |(simp only [aK]at af;obtain⟨rfl,_⟩:=af;rfl)
   |(simp only [aK]at af;obtain⟨_,rfl,_⟩:=af;rfl)
   |(simp only [aK]at af;obtain⟨_,_,rfl,_⟩:=af;rfl)
theorem Q8{D:dI}(b5:D.dr P){ie:TypeId→Bool}(cA:∀t,ie t=true→qt P t){op:BinOp}{t:TypeId}{kk ol:Operand}{x y v:o}{bS gH:Value}
 (af:aK ak x bS) (bY:aK ak y gH) (h:n6 D ie (n8 kk || n8 ol) op t x y=some v) (w:World) :
 ∃bp,(eqGuard op t kk ol bS gH).run P w=.ok () w∧(binOp op t bS gH).run P w=.ok bp w∧aK ak v bp:=by
 unfold n6 at h;split at h
 ·rename_i k a fa b;simp only [aK]at af bY;subst af bY
  have ah:(eqGuard op t kk ol (.int k a) (.int fa b)).run P w=.ok () w:=by unfold eqGuard;split<;>rfl
  split at h
  ·obtain⟨bp,p,ae⟩:=IR (P:=P) (ak:=ak) (fa:=fa) t (.inl rfl) h w;exact⟨bp,ah,p,ae⟩
  ·obtain⟨bp,p,ae⟩:=IR (P:=P) (ak:=ak) (fa:=fa) t (.inr rfl) h w;exact⟨bp,ah,p,ae⟩
  ·split at h
   ·rename_i ao;subst ao;obtain⟨bp,p,ae⟩:=Q2 (P:=P) (ak:=ak) t h w;exact⟨bp,ah,p,ae⟩
   ·cases h
 ·rename_i a b;simp only [aK]at af bY;obtain⟨s,rfl,rfl⟩:=af;obtain⟨u,rfl,rfl⟩:=bY
  have ah:(eqGuard op t kk ol (.string s) (.string u)).run P w=.ok () w:=by unfold eqGuard;split<;>rfl
  obtain⟨bp,p,ae⟩:=Q4 (P:=P) (ak:=ak) t h w;exact⟨bp,ah,p,ae⟩
 ·rename_i a1 aP;split at h
  ·simp only [Option.map_eq_some_iff]at h;obtain⟨b,av,rfl⟩:=h;refine⟨.bool b,IX (D:=D) cA af bY av w,?_,by simp [aK]⟩;have he:=IV b5 cA af bY av w;rw [Q6 t bS gH (IY af av)];simp [Op.equal,he]
  ·simp only [Option.map_eq_some_iff]at h;obtain⟨b,av,rfl⟩:=h;refine⟨.bool (!b),IX (D:=D) cA af bY av w,?_,by simp [aK]⟩;have he:=IV b5 cA af bY av w;rw [Q7 t bS gH (IY af av)];simp [Op.equal,he]
  ·cases h
end
end
end Go.cH
namespace Go.cH
noncomputable section
open Go.RowKit
section
variable {P:Program}{ak:Map}
theorem Q9{op:UnOp}{x v:o}{bS:Value}(af:aK ak x bS)(h:vi op x=some v)(w:World):∃bp,(Op.unary op bS).run P w=.ok bp w∧aK ak v bp:=by
 unfold vi at h;split at h
 ·simp only [aK]at af;subst af;simp at h;subst h;exact⟨_,by simp [Op.unary,Op.intArith];rfl,by simp only [aK]⟩
 ·simp only [aK]at af;subst af;simp at h;subst h;exact⟨_,by simp [Op.unary];rfl,by simp only [aK]⟩
 ·simp only [aK]at af;subst af;simp [ke]at h;subst h;exact⟨_,by simp [Op.unary,Op.intBits];rfl,by simp only [aK]⟩
 ·cases h
theorem Q'{D:dI}(b5:D.dr P){s t:TypeId}{x v:o}{bS:Value}(af:aK ak x bS)(h:vl D s t x=some v)(w:World) :
 ∃bp,(convert s t bS).run P w=.ok bp w∧aK ak v bp:=by
 unfold vl at h;split at h
 ·rename_i th Ra k n aq b7;simp only [aK]at af;subst af;obtain⟨_,ig,_,yX,_⟩:=b5.get aq;obtain⟨_,ut,_,yY,ao,_⟩:=b5.get b7;rw [ao]at h;split at h
  ·rename_i lL e;have:=vr e;subst this;simp at h;subst h;refine⟨.int lL (lL.wrap n),?_,by simp only [aK]⟩;simp only [convert,Sem.run_bind,run_underlying yX,run_underlying yY,Result.andThen_ok];cases ig<;>simp [Conv.intToInt]
  ·rename_i e;have:=qs e;subst this;simp at h;subst h;exact⟨.string (Utf8.encode n),run_convert_int_string w s t k n (by rw [yX];rfl) yY,by simp only [aK];exact⟨_,rfl,rfl⟩⟩
  ·cases h
 ·rename_i th Ra l aq b7;simp only [aK]at af;obtain⟨bK,rfl,rfl⟩:=af;obtain⟨_,ig,_,yX,_⟩:=b5.get aq;obtain⟨_,ut,_,yY,ao,_⟩:=b5.get b7;rw [ao]at h;split at h
  ·rename_i e;have:=qs e;subst this;simp at h;subst h;refine⟨.string bK,?_,by simp [aK]⟩;simp only [convert,Sem.run_bind,run_underlying yX,run_underlying yY,Result.andThen_ok];cases ig<;>rfl
  ·cases h
 ·cases h
theorem Rb{x y v:o}{bS gH:Value}(af:aK ak x bS)(bY:aK ak y gH)(h:yJ x y=some v)(w:World):∃bp,(Builtin.max2 bS gH).run P w=.ok bp w∧aK ak v bp:=by
 unfold yJ at h;split at h
 ·simp only [aK]at af bY;subst af bY;split at h
  ·rename_i ao;subst ao;simp at h;subst h;exact⟨_,by simp only [Builtin.max2];rfl,by simp only [aK]⟩
  ·cases h
 ·cases h
theorem Rc{x y v:o}{bS gH:Value}(af:aK ak x bS)(bY:aK ak y gH)(h:yK x y=some v)(w:World):∃bp,(Builtin.min2 bS gH).run P w=.ok bp w∧aK ak v bp:=by
 unfold yK at h;split at h
 ·simp only [aK]at af bY;subst af bY;split at h
  ·rename_i ao;subst ao;simp at h;subst h;exact⟨_,by simp only [Builtin.min2];rfl,by simp only [aK]⟩
  ·cases h
 ·cases h
theorem CL{f:o→o→Option o}{g:Value→Value→Sem Value}(w:World)
 (a6:∀x y v bS gH,aK ak x bS→aK ak y gH→f x y=some v→ ∃bp,(g bS gH).run P w=.ok bp w∧aK ak v bp) :
 ∀{l:List o}{t:List Value}{x v:o}{bS:Value},aK ak x bS→bG ak l t→qk f x l=some v→ ∃bp,(t.foldlM g bS).run P w=.ok bp w∧aK ak v bp
 |[],t,x,v,bS,af,aB,h=>by simp only [bG]at aB;subst aB;simp [qk]at h;subst h;exact⟨bS,rfl,af⟩
 |a ::r,t,x,v,bS,af,aB,h=>by
  simp only [bG]at aB;obtain⟨u,fu,rfl,p,ae⟩:=aB;simp only [qk]at h;split at h
  ·rename_i z eO;obtain⟨fH,bu,bC⟩:=a6 _ _ _ _ _ af p eO;obtain⟨bp,b2,cp⟩:=CL w a6 bC ae h;exact⟨bp,by rw [List.foldlM_cons,Sem.run_bind,bu];exact b2,cp⟩
  ·cases h
theorem Rd{x v:o}{l:List o}{xs:Array Value}(e6:Array TypeId)(an:TypeId)(af:bG ak (x::l) xs.toList)(h:qk yJ x l=some v)(w:World) :
 ∃bp,(Builtin.max_ e6 an xs).run P w=.ok bp w∧aK ak v bp:=by
 simp only [bG]at af;obtain⟨bS,t,e,p,ae⟩:=af;unfold Builtin.max_;rw [e];exact CL w (fun _ _ _ _ _ a b c=>Rb a b c w) p ae h
theorem Re{x v:o}{l:List o}{xs:Array Value}(e6:Array TypeId)(an:TypeId)(af:bG ak (x::l) xs.toList)(h:qk yK x l=some v)(w:World) :
 ∃bp,(Builtin.min_ e6 an xs).run P w=.ok bp w∧aK ak v bp:=by
 simp only [bG]at af;obtain⟨bS,t,e,p,ae⟩:=af;unfold Builtin.min_;rw [e];exact CL w (fun _ _ _ _ _ a b c=>Rc a b c w) p ae h
theorem IZ{D:dI}(b5:D.dr P){t:TypeId}{bn:List o}{xs:Array Value}{off:Nat}{v:o}(af:bG ak bn xs.toList)(h:apart D t bn off=some v)(w:World) :
 ∃bp,(part t xs off).run P w=.ok bp w∧aK ak v bp:=by
 unfold apart at h;split at h
 ·rename_i d aD;obtain⟨i,u,al,hu,ao,aq, -⟩:=b5.get aD;rw [ao]at h;split at h
  ·rename_i aS;split at h
   ·rename_i hle;simp at h;subst h;refine⟨.agg (xs.extract off (off+i.size)),?_,?_⟩
    ·simp only [part,Sem.run_bind,rX hu,Result.andThen_ok,aS,if_true,lf al,Sem.run_pure]
    ·simp only [aK];refine⟨_,rfl,?_⟩
     have e:(xs.extract off (off+i.size)).toList=(xs.toList.drop off).take i.size:=by simp [List.extract]
     rw [e,aq];exact(af.drop off).take i.size
   ·cases h
  ·rename_i aS;obtain⟨bp,p,ae⟩:=af.get h;refine⟨bp,?_,ae⟩;have lM:xs[off]? =some bp:=by simpa using p
   simp only [part,Sem.run_bind,rX hu,Result.andThen_ok];simp only [aS];simp [lM]
 ·cases h
theorem Rf{D:dI}(b5:D.dr P){t:TypeId}{x:o}{bS:Value}{f:Nat}{v:o}(af:aK ak x bS)(h:Ck D t x f=some v)(w:World) :
 ∃bp,(Instr.field t bS f).run P w=.ok bp w∧aK ak v bp:=by
 unfold Ck at h;split at h
 ·rename_i d bn aD;obtain⟨i,u,al,hu,ao,aq, -⟩:=b5.get aD;rw [ao]at h;split at h
  ·rename_i cV e;obtain⟨aG,rfl,ml⟩:=yU e;split at h
   ·rename_i off ql a6;simp only [aK]at af;obtain⟨xs,rfl,fc⟩:=af;rw [ml]at a6;simp only [List.getElem?_map,Option.map_eq_some_iff]at a6;obtain⟨mm,qv,he⟩:=a6;simp at he;obtain⟨rfl,rfl⟩:=he;obtain⟨bp,p,ae⟩:=IZ b5 fc h w;refine⟨bp,?_,ae⟩;have vv:aG[f]? =some mm:=by simpa using qv
    simp [Instr.field,run_underlying hu,vv,asAgg,p]
   ·cases h
  ·cases h
 ·cases h
theorem Rg{D:dI}(b5:D.dr P){t:TypeId}{x i:o}{bS fe:Value}{v:o}(af:aK ak x bS)(al:aK ak i fe)(h:n7 D t x i=some v)(w:World) :
 ∃bp,(Instr.index t bS fe).run P w=.ok bp w∧aK ak v bp:=by
 unfold n7 at h;split at h
 ·rename_i d bn k n aD;obtain⟨iW,u,hD,hu,ao,aq, -⟩:=b5.get aD;rw [ao]at h;split at h
  ·rename_i len e he;have:=ts he;subst this;split at h
   ·rename_i cR fN;obtain⟨ea,om,fU,yZ,y0,fc, -⟩:=b5.get fN;split at h
    ·rename_i av;simp only [aK]at af al;obtain⟨xs,rfl,Rh⟩:=af;subst al;obtain⟨bp,p,ae⟩:=IZ b5 Rh h w;refine⟨bp,?_,ae⟩;rw [fc]at p;simp [Instr.index,asIntOf,run_underlying hu,av,lf fU,p]
    ·cases h
   ·cases h
  ·cases h
 ·rename_i d s k n aD;obtain⟨iW,u,hD,hu,ao,aq, -⟩:=b5.get aD;rw [ao]at h;split at h
  ·rename_i e;have:=qs e;subst this;split at h
   ·rename_i aM;simp only [aK]at af al;obtain⟨bK,rfl,rfl⟩:=af;subst al;simp only [Option.map_eq_some_iff]at h;obtain⟨b,av,rfl⟩:=h;refine⟨.int .u8 b.toNat,?_,by simp only [aK]⟩
    have fw:bK[n.toNat]? =some b:=by
     have cM:=(List.getElem?_eq_some_iff.1 av).1;have he:=(List.getElem?_eq_some_iff.1 av).2;have pf:n.toNat<bK.size:=by rw [Array.length_toList]at cM;exact cM
     rw [getElem?_pos bK n.toNat pf];rw [←he];rfl
    simp [Instr.index,asIntOf,run_underlying hu,aM,fw]
   ·cases h
  ·cases h
 ·cases h
theorem Ri{cd:List o}{bS:Value}{i:Nat}{v:o}(af:aK ak (.tuple cd) bS)(h:cd[i]? =some v)(w:World) :
 ∃bp,(Instr.extract bS i).run P w=.ok bp w∧aK ak v bp:=by
 simp only [aK]at af;obtain⟨xs,rfl,fc⟩:=af;obtain⟨bp,p,ae⟩:=fc.get h;have lM:xs[i]? =some bp:=by simpa using p
 exact⟨bp,by simp [Instr.extract,lM],ae⟩
theorem Place.qw(I:Place)(i f n:Nat):(I.at i f).add n=I.at i (f+n):=by unfold Place.at;rw [Addr.add_mid];rw [Nat.add_assoc]
theorem Rj{D:dI}(b5:D.dr P){t:TypeId}{x:o}{bS:Value}{f:Nat}{v:o}(af:aK ak x bS)(h:Cj D t x f=some v)(w:World) :
 ∃bp,(Instr.fieldAt t bS f).run P w=.ok bp w∧aK ak v bp:=by
 unfold Cj at h;split at h
 ·rename_i d a aD;obtain⟨i,u,al,hu,ao,aq, -⟩:=b5.get aD;rw [ao]at h;split at h
  ·rename_i cV e;obtain⟨aG,rfl,ml⟩:=yU e;split at h
   ·rename_i off ql a6;split at h
    ·rename_i fd Rk;obtain⟨Rl,aeN,Rm,aeO,aeP,tt, -⟩:=b5.get Rk;split at h
     ·rename_i ii;simp at h;subst h;rw [ml]at a6;simp only [List.getElem?_map,Option.map_eq_some_iff]at a6;obtain⟨mm,qv,he⟩:=a6;simp at he;obtain⟨rfl,rfl⟩:=he;simp only [aK]at af;obtain⟨fI,rfl,I,ac,cs,eS,rfl⟩:=af;have vv:aG[f]? =some mm:=by simpa using qv
      refine⟨.pointer (some (I.at a.idx (a.bP+mm.offset))),?_,?_⟩
      ·have bZ:¬Rl.size=0:=by omega
       simp [Instr.fieldAt,run_underlying hu,vv,Instr.sureAddr,fieldPlace,lf Rm,bZ,Place.qw]
      ·simp only [aK];exact⟨_,rfl,I,ac,cs,eS,rfl⟩
     ·cases h
    ·cases h
   ·cases h
  ·cases h
 ·cases h
theorem Rn{D:dI}(b5:D.dr P){t:TypeId}{x i:o}{bS fe:Value}{v:o}(af:aK ak x bS)(al:aK ak i fe)(h:rN D t x i=some v)(w:World) :
 ∃bp,(Instr.indexAt t bS fe).run P w=.ok bp w∧aK ak v bp:=by
 unfold rN at h;split at h
 ·rename_i d a len cap k n aD;obtain⟨iW,u,hD,hu,ao,aq, -⟩:=b5.get aD;rw [ao]at h;split at h
  ·rename_i e he;have:=ld he;subst this;split at h
   ·rename_i cR fN;obtain⟨ea,om,fU,yZ,y0,fc, -⟩:=b5.get fN;split at h
    ·rename_i av;simp at h;subst h;simp only [aK]at af al;obtain⟨fI,dk,rfl,eC,ci,iC⟩:=af;have a6:=av.2.2.2;obtain⟨I,ac,cs,j3,hex⟩:=iC.plain a6;subst al;rcases j3 with bm|⟨eS,rfl,oh⟩
     ·omega
     ·refine⟨.pointer (some (I.at (a.idx+n.toNat) 0)),?_,?_⟩
      ·have bu:(I.at a.idx 0).add (n.toNat*ea.size)=I.at (a.idx+n.toNat) 0:=by
        rw [Place.qw];unfold Place.at;have:a.idx+n.toNat-I.a7=(a.idx-I.a7)+n.toNat:=by omega
        rw [this,Nat.add_mul,←fc,←av.2.2.1,cs]
        congr 1;omega
       have hE:=av.1;have jJ:=av.2.1;simp [Instr.indexAt,asIntOf,run_underlying hu,hE,jJ,lf fU,bu]
      ·simp only [aK];exact⟨_,rfl,I,ac,cs,by show I.a7≤a.idx+n.toNat;omega,by simp only [a6]⟩
    ·split at h
     ·rename_i av;simp at h;subst h;simp only [aK]at af al;obtain⟨fI,dk,rfl,eC,ci,iC⟩:=af;subst al;rcases iC with ⟨a6,_⟩|⟨f,a6,I,ac,cs,eS,rfl⟩
      ·omega
      ·simp only at ac cs eS;have dU:ea.size=1:=by omega
       have hE:=av.1;have jJ:=av.2.1;refine⟨.pointer (some (I.at a.idx (f+n.toNat))),?_,?_⟩
       ·have bu:(I.at a.idx f).add (n.toNat*ea.size)=I.at a.idx (f+n.toNat):=by rw [Place.qw,dU,Nat.mul_one]
        simp [Instr.indexAt,asIntOf,run_underlying hu,hE,jJ,lf fU,bu]
       ·simp only [aK];exact⟨_,rfl,I,ac,cs,eS,by show I.at a.idx (f+n.toNat)=I.at a.idx (a.bP-1+n.toNat);rw [a6];rfl⟩
     ·cases h
   ·cases h
  ·cases h
 ·rename_i d a k n aD;obtain⟨iW,u,hD,hu,ao,aq, -⟩:=b5.get aD;rw [ao]at h;split at h
  ·rename_i len e he;have:=ts he;subst this;split at h
   ·rename_i cR fN;obtain⟨ea,om,fU,yZ,y0,fc, -⟩:=b5.get fN;split at h
    ·rename_i av;simp at h;subst h;simp only [aK]at af al;obtain⟨fI,rfl,I,ac,cs,eS,rfl⟩:=af;subst al;refine⟨.pointer (some (I.at a.idx (a.bP+n.toNat*ea.size))),?_,?_⟩
     ·have hE:=av.1;have jJ:=av.2;simp [Instr.indexAt,asIntOf,run_underlying hu,hE,jJ,lf fU,Instr.sureAddr,Place.qw]
     ·simp only [aK];exact⟨_,rfl,I,ac,cs,eS,by simp only [fc]⟩
    ·cases h
   ·cases h
  ·cases h
 ·cases h
end
end
end Go.cH
namespace Go.cH
noncomputable section
open Go.RowKit
section
variable {P:Program}{ak:Map}
def lN(ak:Map):Option o→Option Value→Prop
 |none,none=>True
 |some a,some b=>aK ak a b
 |_,_=>False
theorem vw{v:Option o}{bp:Option Value}(a':lN ak v bp){Ci vk r:Nat}(h:gX v Ci vk=some r)(aq:v.isSome=true)
 {CM:Nat} (hm:vk≤CM) (w:World) (code:BoundsCode):∃x,bp=some x∧(Instr.sliceBound x CM code).run P w=.ok r w∧r≤vk:=by
 cases v with
 |none=>cases aq
 |some a =>
  cases bp with
  |none=>exact a'.elim
  |some x =>
   refine⟨x,rfl,?_⟩;unfold gX at h;split at h
   ·rename_i e;cases e
   ·rename_i k i e;simp at e;subst e;split at h
    ·rename_i av;simp at h;subst h;simp only [lN,aK]at a';subst a';have hle:i≤(CM:Int):=by omega
     exact⟨by simp [Instr.sliceBound,asIntOf,av.1,hle],by omega⟩
    ·cases h
   ·cases h
theorem y1{a7 al fL:Option o}{h6 fS mn:Option Value}(eS:lN ak a7 h6)(kM:lN ak al fS)(rY:lN ak fL mn){len cap dk m bQ l:Nat}(rZ:len≤cap)(ec:cap≤dk)
 (hm:gX fL cap cap=some m) (tu:gX al len m=some bQ) (aB:gX a7 0 bQ=some l) (h7:¬(fL.isSome=true∧al.isNone=true)) (isSlice:Bool) (w:World) :
 ∃gI,(Instr.sliceBounds isSlice len dk h6 fS mn).run P w=.ok (l,bQ,gI) w∧m≤gI∧gI≤dk∧(dk=cap→gI=m)∧bQ≤m∧l≤bQ:=by
 have bg:∀code,(match h6 with|some v=>Instr.sliceBound v bQ code|none=>pure 0:Sem Nat).run P w=.ok l w∧l≤bQ:=by
  intro code;cases a7 with
  |none=>cases h6 with
   |none=>simp [gX]at aB;subst aB;exact⟨rfl,Nat.zero_le _⟩
   |some _=>exact eS.elim
  |some a =>
   obtain⟨x,rfl,p,ae⟩:=vw (P:=P) eS aB rfl (Nat.le_refl _) w code;exact⟨p,ae⟩
 cases fL with
 |none =>
  cases mn with
  |some _=>exact rY.elim
  |none =>
   simp [gX]at hm;subst hm;refine⟨dk,?_,ec,Nat.le_refl _,fun h=>h,?_⟩
   ·cases al with
    |none=>cases fS with
     |some _=>exact kM.elim
     |none =>
      simp [gX]at tu;subst tu;have:=(bg .sliceB).1;cases h6<;>simp_all [Instr.sliceBounds]
    |some b =>
     obtain⟨x,rfl,p,ae⟩:=vw (P:=P) kM tu rfl ec w (if isSlice then .sliceAcap else .sliceAlen);have:=(bg .sliceB).1;cases h6<;>simp_all [Instr.sliceBounds]
   ·refine⟨?_,(bg .sliceB).2⟩;cases al with
    |none=>simp [gX]at tu;omega
    |some b=>obtain⟨x,rfl,p,ae⟩:=vw (P:=P) kM tu rfl ec w .sliceB;exact ae
 |some a =>
  obtain⟨y,rfl,g1,g2⟩:=vw (P:=P) rY hm rfl ec w (if isSlice then .slice3Acap else .slice3Alen);cases al with
  |none=>simp at h7
  |some b =>
   obtain⟨x,rfl,p,ae⟩:=vw (P:=P) kM tu rfl (Nat.le_refl _) w .slice3B;refine⟨m,?_,Nat.le_refl _,by omega,fun _=>rfl,ae,(bg .sliceB).2⟩;have:=(bg .slice3C).1;cases h6<;>simp_all [Instr.sliceBounds]
theorem Ro(s:ByteArray)(l h:Nat):(s.extract l h).data.toList=(s.data.toList.take h).drop l:=by
 have:(s.extract l h).data=s.data.extract l h:=by simp
 rw [this];simp [List.extract,List.drop_take]
theorem Rp{D:dI}(b5:D.dr P){t:TypeId}{x v:o}{bS:Value}{a7 al fL:Option o}{h6 fS mn:Option Value}(af:aK ak x bS)
 (eS:lN ak a7 h6) (kM:lN ak al fS) (rY:lN ak fL mn) (h:kf D t x a7 al fL=some v) (w:World) :
 ∃bp,(Instr.sliceAt t bS h6 fS mn).run P w=.ok bp w∧aK ak v bp:=by
 unfold kf at h;split at h
 ·rename_i d a len cap aD;obtain⟨iW,u,hD,hu,ao,aq, -⟩:=b5.get aD;rw [ao]at h;split at h
  ·rename_i e he;have:=ld he;subst this;split at h
   ·rename_i cR m fN hm;obtain⟨ea,om,fU,yZ,y0,fc, -⟩:=b5.get fN;split at h
    ·rename_i bQ r0;split at h
     ·rename_i l aB;split at h
      ·cases h
      ·rename_i h7;split at h
       ·simp at h;subst h;simp only [aK]at af;obtain⟨rfl,rfl,rfl⟩:=af;obtain⟨gI,aL,aQ,bq,hk,ij,mo⟩:=y1 (P:=P) eS kM rY (Nat.le_refl _) (Nat.le_refl 0) hm r0 aB h7 true w;have bu:gI=0:=by omega
        have bC:m=0:=by omega
        have b2:bQ=0:=by omega
        have cp:l=0:=by omega
        subst bu bC b2 cp;refine⟨.slice none 0 0,?_,by simp [aK]⟩;simp [Instr.sliceAt,run_underlying hu,Instr.slice,aL,lf fU]
       ·rename_i a;split at h
        ·rename_i Rq;obtain⟨cs,a6⟩:=Rq;simp at h;subst h;simp only [aK]at af;obtain⟨fI,dk,rfl,eC,ci,iC⟩:=af;obtain⟨I,ac,jK,j3,hex⟩:=iC.plain a6;obtain⟨gI,aL,aQ,bq,hk,ij,mo⟩:=y1 (P:=P) eS kM rY eC ci hm r0 aB h7 true w;refine⟨.slice (if gI=l then some fI else some (fI.add (l*ea.size))) (bQ-l) (gI-l),?_,?_⟩
         ·simp [Instr.sliceAt,run_underlying hu,Instr.slice,aL,lf fU]
         ·simp only [aK];by_cases I0:gI=l
          ·rw [if_pos I0];exact⟨fI,gI-l,rfl,by omega,by omega,.inl ⟨a6,I,ac,jK,.inl (by omega),fun bQ=>by have:=hk (hex bQ);omega⟩⟩
          ·rw [if_neg I0];refine⟨_,gI-l,rfl,by omega,by omega,.inl ⟨a6,I,ac,jK,?_,fun bQ=>by have:=hk (hex bQ);omega⟩⟩;rcases j3 with bm|⟨g1,rfl,g3⟩
           ·left;omega
           ·right;refine⟨by show I.a7≤a.idx+l;omega,?_,by show a.idx+l-I.a7+(gI-l)≤I.fy;omega⟩;rw [Place.qw];unfold Place.at;have:a.idx+l-I.a7=(a.idx-I.a7)+l:=by omega
            simp only [this,Nat.add_mul,←fc,←cs,jK]
            congr 1;omega
        ·cases h
     ·cases h
    ·cases h
   ·cases h
  ·cases h
 ·rename_i d a aD;obtain⟨iW,u,hD,hu,ao,aq, -⟩:=b5.get aD;rw [ao]at h;split at h
  ·rename_i n el pj;have:=ts pj;subst this;split at h
   ·rename_i cR fN;obtain⟨ea,om,fU,yZ,y0,fc, -⟩:=b5.get fN;split at h
    ·cases h
    ·rename_i h7;split at h
     ·rename_i bQ r0;split at h
      ·rename_i l aB;split at h
       ·rename_i ar;obtain⟨lO,kN⟩:=ar;simp at h;subst h;simp only [aK]at af;obtain⟨fI,rfl,I,ac,jK,Rr,rfl⟩:=af;have CN:fL=none:=by cases fL<;>simp_all
        subst CN;have CO:mn=none:=by cases mn with|none=>rfl|some _=>exact rY.elim
        subst CO;obtain⟨gI,aL,aQ,bq,hk,ij,mo⟩:=y1 (P:=P) (fL:=none) (mn:=none) eS kM trivial (Nat.le_refl n) (Nat.le_refl n) (m:=n) (by simp [gX]) r0 aB (by simp) false w;have lP:=hk rfl;subst lP;have dU:ea.size=1:=by omega
        refine⟨.slice (some ((I.at a.idx a.bP).add (l*ea.size))) (bQ-l) (gI-l),?_,?_⟩
        ·have bZ:¬gI=l:=by omega
         simp [Instr.sliceAt,run_underlying hu,aL,lf fU,Instr.sureAddr,bZ]
        ·simp only [aK];refine⟨_,gI-l,rfl,by omega,Nat.le_refl _,.inr ⟨a.bP+l,rfl,I,ac,jK,Rr,?_⟩⟩;rw [Place.qw,dU,Nat.mul_one]
       ·cases h
      ·cases h
     ·cases h
   ·cases h
  ·cases h
 ·rename_i d s aD;obtain⟨iW,u,hD,hu,ao,aq, -⟩:=b5.get aD;rw [ao]at h;split at h
  ·rename_i e;have:=qs e;subst this;split at h
   ·cases h
   ·rename_i h7;split at h
    ·rename_i bQ r0;split at h
     ·rename_i l aB;simp at h;subst h;simp only [aK]at af;obtain⟨bK,rfl,rfl⟩:=af;rw [Array.length_toList]at r0;have CN:fL=none:=by cases fL<;>simp_all
      subst CN;have CO:mn=none:=by cases mn with|none=>rfl|some _=>exact rY.elim
      subst CO;obtain⟨gI,aL,aQ,bq,hk,ij,mo⟩:=y1 (P:=P) (fL:=none) (mn:=none) eS kM trivial (Nat.le_refl bK.size) (Nat.le_refl bK.size) (m:=bK.size) (by simp [gX]) r0 aB (by simp) false w;refine⟨.string (bK.extract l bQ),?_,by simp only [aK];exact⟨_,rfl,Ro _ _ _⟩⟩;simp [Instr.sliceAt,run_underlying hu,Instr.slice,aL]
     ·cases h
    ·cases h
  ·cases h
 ·cases h
theorem y2{w:World}{b U:Nat} :∀{l:List o},(∀C bS,l[C]? =some bS→ ∃x,w.cell? ⟨b,U+C,none⟩=some x∧aK ak bS x∧x.oneCell'=true) →
 ∃cd,bG ak l cd∧w.rangeAt b U cd∧∀x∈cd,x.oneCell'=true
 |[],_=>⟨[],by simp [bG],by intro C v a';simp at a',by simp⟩
 |a ::r,h=>by
  obtain⟨x,dU,fA⟩:=h 0 a (by simp)
  have ih:=y2 (w:=w) (b:=b) (U:=U+1) (l:=r) (fun C bS aX=>by
   obtain⟨x,g1,g2⟩:=h (C+1) bS (by simpa using aX)
   exact⟨x,by rw [show U+1+C=U+(C+1)by omega];exact g1,g2⟩)
  obtain⟨cd,i1,i2,i3⟩:=ih;refine⟨x::cd,by simp only [bG];exact⟨_,_,rfl,fA.1,i1⟩,?_,?_⟩
  ·intro C v a';cases C with
   |zero=>simp at a';subst a';exact dU
   |succ C=>simp at a';have:=i2 C v a';rw [show U+(C+1)=U+1+C by omega];exact this
  ·intro y bY;rcases List.mem_cons.1 bY with rfl|bY
   ·exact fA.2
   ·exact i3 y bY
theorem c2.Rs{bd:Nat→Prop}{h:j}{w:World}(r:c2 ak bd h w){a:bH}{fI:Addr}(aS:tm ak a fI){b:J}(av:h.get a.id=some b){e:o}(he:b.elem? a.R a.idx=some e) :
 ∃I,ak a.id a.R=some I∧fI=I.at a.idx a.bP∧I.a7≤a.idx∧e.cells.length=I.es∧∀C bS,e.cells[C]? =some bS→ ∃x,w.cell? (I.at a.idx C)=some x∧aK ak bS x∧x.oneCell'=true:=by
 obtain⟨I,ac,cs,eS,rfl⟩:=aS;obtain⟨p,c,ae,bg,bO,bJ,du,cI,cr⟩:=r.dB _ _ _ ac;rw [av]at ae;simp at ae;subst ae;unfold J.elem? at he;split at he
 ·rename_i aB;obtain⟨dJ,ef,fR⟩:=cr.cont _ _ eS aB he;exact⟨I,ac,rfl,eS,dJ,fR⟩
 ·cases he
theorem I1{D:dI}(b5:D.dr P){bd:Nat→Prop}{h:j}{w:World}(r:c2 ak bd h w){t:TypeId}{a:bH}{bS:Value}{v:o}(af:aK ak (.ptr (some a)) bS)(ai:cj D t a h=some v) :
 ∃bp,(Instr.loadAt t bS).run P w=.ok bp w∧aK ak v bp:=by
 unfold cj at ai;split at ai
 ·rename_i d b aD av;obtain⟨iW,u,hD,hu,ao,aq, -⟩:=b5.get aD;split at ai
  ·rename_i e he;simp only [aK]at af;obtain⟨fI,rfl,oo⟩:=af;obtain⟨I,ac,rfl,eS,hlen,pi⟩:=r.Rs oo av he;rw [ao,aq]at ai;cases y3:(gV u).isAgg with
   |true =>
    rw [y3]at ai;simp only [iR,if_true]at ai;split at ai
    ·rename_i bn
     have key:∀(l:List o),(∀(C:Nat)(bS:o),l[C]? =some bS→bn[a.bP+C]? =some bS)→l.length=iW.size→ ∃bp,(Instr.loadAt t (.pointer (some (I.at a.idx a.bP)))).run P w=.ok bp w∧aK ak (.agg l) bp:=by
      intro l aB kl
      obtain⟨cd,y4,tv, -⟩:=y2 (ak:=ak) (w:=w) (b:=I.ck) (U:=I.off+(a.idx-I.a7)*I.es+a.bP) (l:=l) (fun C bS aX=>by
       obtain⟨x,g1,g2⟩:=pi (a.bP+C) bS (aB C bS aX)
       exact⟨x,by rw [Place.at,←Nat.add_assoc]at g1;exact g1,g2⟩)
      refine⟨.agg cd.toArray,?_,by simp only [aK];exact⟨_,rfl,by simpa using y4⟩⟩;exact run_loadAt_mid w I.ck _ t cd u tv hu (by cases u<;>simp [gV,j0.isAgg]at y3⊢) (by rw [hD];simp [y4.length,kl])
     split at ai
     ·rename_i ar;simp at ai;subst ai;exact key bn (fun C bS aX=>by rw [ar.1,Nat.zero_add];exact aX) ar.2.symm
     ·split at ai
      ·rename_i ar;simp at ai;subst ai;refine key _ (fun C bS aX=> ?_) (by simp;omega);rw [List.getElem?_take]at aX;split at aX
       ·rw [List.getElem?_drop]at aX;exact aX
       ·simp at aX
      ·cases ai
    ·cases ai
   |false =>
    rw [y3]at ai
    have key:∀(C:Nat)(y:o),e.cells[C]? =some y→a.bP=C→ ∃bp,(Instr.loadAt t (.pointer (some (I.at a.idx a.bP)))).run P w=.ok bp w∧aK ak y bp:=by intro C y bY aX;subst aX;obtain⟨x,g1,g2⟩:=pi a.bP y bY;refine⟨x,?_,g2.1⟩;simp only [Instr.loadAt,Instr.sureAddr,Sem.run_bind,Sem.run_pure,Result.andThen_ok,loadVar,rX hu,y3];simp [g1]
    simp only [iR]at ai;cases e with
    |agg bn=>exact key a.bP v ai rfl
    |_ =>
     simp at ai;obtain⟨a6,rfl⟩:=ai;exact key 0 _ (by simp [o.cells]) a6
  ·cases ai
 ·cases ai
theorem aK.Rt{a:o}{v:Value}(h:aK ak a v)(aq:a.jD=true):v.oneCell'=true:=by
 cases a with
 |undef=>cases aq
 |agg bn=>cases aq
 |tuple bn=>cases aq
 |bool b=>simp only [aK]at h;subst h;rfl
 |int k n=>simp only [aK]at h;subst h;rfl
 |str s=>simp only [aK]at h;obtain⟨_,rfl,_⟩:=h;rfl
 |ptr U=>cases U with
  |none=>simp only [aK]at h;subst h;rfl
  |some x=>simp only [aK]at h;obtain⟨_,rfl,_⟩:=h;rfl
 |slice U l c=>cases U with
  |none=>simp only [aK]at h;obtain⟨rfl,_⟩:=h;rfl
  |some x=>simp only [aK]at h;obtain⟨_,_,rfl,_⟩:=h;rfl
 |func fn f c=>simp only [aK]at h;obtain⟨_,_,rfl,_⟩:=h;rfl
 |nilFunc=>simp only [aK]at h;subst h;rfl
 |iface t x=>simp only [aK]at h;obtain⟨_,rfl,_⟩:=h;rfl
 |nilIface=>simp only [aK]at h;subst h;rfl
end
end
end Go.cH
namespace Go.cH
noncomputable section
open Go.RowKit
section
variable {P:Program}{ak:Map}
theorem CP{v:o}(h:v.jD=true):v.cells=[v]:=by cases v<;>first|rfl|(simp [o.jD]at h)
theorem r1{v:o}{hC:Bool}{size:Nat}(h:v.fits hC size=true):v.cells.length=size∧v≠ .undef∧∀c∈v.cells,c.jD=true:=by cases v<;>simp [o.fits,o.cells,o.jD]at h⊢ <;>first|exact h.2.symm|exact⟨h.1.2,h.2⟩|skip
theorem bG.one{l:List o}{t:List Value}(h:bG ak l t)(aq:∀c∈l,c.jD=true):∀x∈t,x.oneCell'=true:=by
 intro x af;obtain⟨i,al,rfl⟩:=List.mem_iff_getElem.1 af;have fS:i<l.length:=by rw [←h.length];exact al
 obtain⟨v,a',pd⟩:=h.get (List.getElem?_eq_getElem fS);rw [List.getElem?_eq_getElem al]at a';simp at a';subst a';exact pd.Rt (aq _ (List.getElem_mem _))
theorem Ru{D:dI}(b5:D.dr P){bd:Nat→Prop}{h aa:j}{bo w:World}(r:c2 ak bd h w)(dC:Safe bd bo w){t:TypeId}{a:bH}{v:o}{bS bp:Value}
 (af:aK ak (.ptr (some a)) bS) (a':aK ak v bp) (ai:iA D t a v h=some aa) :
 ∃bA,(Instr.storeAt t bS bp).run P w=.ok () bA∧c2 ak bd aa bA∧Safe bd bo bA∧aa.next=h.next:=by
 unfold iA at ai;split at ai
 ·rename_i d b aD av;obtain⟨iW,u,hD,hu,ao,aq, -⟩:=b5.get aD;split at ai
  ·rename_i ar;simp only [Bool.and_eq_true,Bool.not_eq_true',beq_iff_eq]at ar;obtain⟨⟨CQ,eR⟩,oq⟩:=ar;split at ai
   ·rename_i e he;split at ai
    ·rename_i dT iX;simp at ai;subst ai;simp only [aK]at af;obtain⟨fI,rfl,I,ac,cs,eS,rfl⟩:=af;rw [oq]at ac;obtain⟨f1,f2,f3⟩:=r1 CQ;have dV:=a'.cells f2;have ki:=dV.one f3;obtain⟨p,c,ae,bg,bO,bJ,du,cI,cr⟩:=r.dB _ _ _ ac;rw [av]at ae;simp at ae;subst ae;have rV:a.idx<b.bi.length:=(List.getElem?_eq_some_iff.1 he).1;obtain⟨dJ,ef,fR⟩:=cr.cont a.idx e eS (by simp [J.cE];exact rV) he
     have I2:a.bP+v.cells.length≤I.es∧dT.cells=iQ e.cells a.bP v.cells:=by
      unfold rL at iX;split at iX
      ·rename_i bn;split at iX
       ·rename_i hle;simp at iX;subst iX;simp only [o.cells]at dJ;exact⟨by omega,rfl⟩
       ·cases iX
      ·rename_i bZ;split at iX
       ·rename_i ar;simp at iX;subst iX;have bu:e.cells=[e]:=by cases e<;>first|rfl|exact absurd rfl (bZ _)
        rw [bu]at dJ⊢;have bC:=CP ar.2;rw [ar.1,bC];simp at dJ;exact⟨by simp;omega,rfl⟩
       ·cases iX
     obtain⟨aL,aQ⟩:=r.store ac av eR eS he dV ki I2.1 I2.2;refine⟨_,?_,aL,?_,rfl⟩
     ·have eQ:bp.cells.size=iW.size:=by have:=dV.length;rw [Array.length_toList]at this;omega
      have km:=run_storeCells_cells (P:=P) I.ck (I.off+(a.idx-I.a7)*I.es+a.bP) bp.cells.toList 0 w (fun C aX=>by simpa using (aQ C aX).1) (fun C aX=>by simpa using (aQ C aX).2) ki;simp only [Nat.add_zero]at km;simp only [Instr.storeAt,Instr.sureAddr,Sem.run_bind,Sem.run_pure,Result.andThen_ok,storeVar,lf hD,eQ,Place.at];simp only [ne_eq,not_true_eq_false,if_false];exact km
     ·exact vq _ (cr.base (du eR)) _ _ dC
    ·cases ai
   ·cases ai
  ·cases ai
 ·cases ai
theorem Rv(v:o):flat [v]=v.cells:=by simp [flat]
theorem I3{D:dI}{bd:Nat→Prop}{h:j}{bo w:World}(r:c2 ak bd h w)(dC:Safe bd bo w)(dl:fv bd bo.heap.size){bh:Nat}(hid:∀v,ak bh v=none)(aM:bh<h.next)(t:TypeId){v:o}{bp:Value}{hC:Bool}{size:Nat}
 (a':aK ak v bp) (CQ:v.fits hC size=true) (ii:0<size) :
 ∃bA bM,(newVar t bp).run P w=.ok ⟨w.heap.size,0,none⟩ bA∧hj ak bM h.next bh∧aK bM (.ptr (some ⟨bh,0,0,0,size⟩)) (.pointer (some ⟨w.heap.size,0,none⟩))
  ∧c2 bM bd (h.set bh (.made [v] size true (some (t,size)))) bA∧Safe bd bo bA:=by
 obtain⟨f1,f2,f3⟩:=r1 CQ;have dV:=a'.cells f2;have ki:=dV.one f3;have hlen:bp.cells.toList.length=size:=by rw [dV.length,f1]
 have jL:fv bd w.heap.size:=dl.le dC.size;refine⟨w.alloc (.cells bp.cells t),ak.add bh 0 ⟨w.heap.size,0,0,size,1,true,false⟩,rfl,hj.add ak _ (hid 0) _,?_,?_,dC.alloc jL _⟩
 ·simp only [aK];refine⟨_,rfl,_,Map.yO _ _ _ _,rfl,Nat.le_refl _,?_⟩;simp [Place.at]
 ·refine r.made hid aM jL ii (by intro e he;simp at he;subst he;exact f1) ?_ ?_ (by simp) ?_ (fun q h=>by cases h;exact⟨rfl,fun _=>by rw [←Array.length_toList,hlen]⟩)
  ·rw [Rv,List.take_of_length_le (by simp [hlen])];exact dV
  ·rw [←Array.length_toList,hlen];omega
  ·intro x af;exact ki x (List.mem_of_mem_take af)
def vx(l:List Value)(i:Nat):List Value→List Value
 |[]=>l
 |v::cd=>vx (l.set i v) (i+1) cd
theorem bG.put{l m:List o}{t u:List Value}(h:bG ak l t)(k:bG ak m u)(i:Nat):bG ak (cH.iQ l i m) (vx t i u):=by
 induction m generalizing l t u i with
 |nil=>simp only [bG]at k;subst k;exact h
 |cons a r ih =>
  simp only [bG]at k;obtain⟨v,tw,rfl,p,ae⟩:=k;exact ih (h.set i p) ae (i+1)
theorem I4:∀(cd:List Value)(off k:Nat)(cells:Array Value),((cd.zipIdx k).foldl (fun bn (x:Value×Nat)=>bn.setIfInBounds (off+x.2) x.1) cells).toList=vx cells.toList (off+k) cd
 |[],off,k,cells=>rfl
 |v::cd,off,k,cells=>by simp only [List.zipIdx_cons,List.foldl_cons,vx];rw [I4 cd off (k+1),Array.toList_setIfInBounds,Nat.add_assoc]
theorem I5(cd:Array Value)(off:Nat)(cells:Array Value):(cd.zipIdx.foldl (fun bn (x:Value×Nat)=>bn.setIfInBounds (off+x.2) x.1) cells).toList=vx cells.toList off cd.toList:=by rw [←Array.foldl_toList,Array.toList_zipIdx];exact I4 cd.toList off 0 cells
theorem CR{place y5:Nat→Option (Nat×Nat)}(ac:∀i x,place i=some x→y5 i=some x):∀{parts:List (Nat×o)} {r2:List (Nat×Value)} {l c3:List o} {cells:Array Value},
 (parts.map (·.1)=r2.map (·.1))→bG ak (parts.map (·.2)) (r2.map (·.2))→bG ak l cells.toList→tk place l parts=some c3 →
 ∃kn,Instr.fill y5 cells r2=some kn∧bG ak c3 kn.toList
 |[],[],l,c3,cells,_,_,aB,h=>by simp [tk]at h;subst h;exact⟨cells,rfl,aB⟩
 |[],_::_,_,_,_,h,_,_,_=>by simp at h
 |_::_,[],_,_,_,h,_,_,_=>by simp at h
 |(i, v)::rest,(fe,bp)::Rw,l,c3,cells,p,ae,aB,h=>by
  simp at p;obtain⟨rfl,p⟩:=p;simp only [List.map_cons,bG]at ae;obtain⟨u,t,e,a',ae⟩:=ae;simp at e;obtain⟨rfl,rfl⟩:=e;simp only [tk]at h;split at h
  ·cases h
  ·rename_i off size qx;split at h
   ·rename_i ar;have dV:=a'.cells (by rintro rfl;simp [o.known]at ar);have eQ:bp.cells.size=size:=by have:=dV.length;rw [Array.length_toList]at this;omega
    have hl:cells.size=l.length:=by have:=aB.length;rw [Array.length_toList]at this;omega
    have key:=CR ac p ae (l:=iQ l off v.cells) (cells:=bp.cells.zipIdx.foldl (fun bn (x:Value×Nat)=>bn.setIfInBounds (off+x.2) x.1) cells)
     (by rw [I5];exact aB.put dV off) h
    obtain⟨kn,aL,aQ⟩:=key;refine⟨kn,?_,aQ⟩;simp only [Instr.fill,ac _ _ qx];split
    ·rename_i dq;exfalso;simp only [ne_eq,Bool.or_eq_true,decide_eq_true_eq]at dq;omega
    ·exact aL
   ·cases h
theorem CS(parts:Array (Nat×Operand))(bf:Operand→o)(dW:Operand→Value) :
 (parts.toList.map fun I=>(I.1,bf I.2)).map (·.1)=((parts.map fun(i,x)=>(i,dW x)).toList).map (·.1):=by
 simp only [Array.toList_map,List.map_map];rfl
theorem CT{bf:Operand→o}{dW:Operand→Value}(cZ:∀x,aK ak (bf x) (dW x))(parts:Array (Nat×Operand)) :
 bG ak ((parts.toList.map fun I=>(I.1,bf I.2)).map (·.2)) (((parts.map fun(i,x)=>(i,dW x)).toList).map (·.2)):=by
 simp only [Array.toList_map,List.map_map];exact bG.map _ _ _ fun x _=>cZ x.2
theorem tx{D:dI}(b5:D.dr P){t:TypeId}{d:qi}{i:TypeInfo}{z:o}(h:d.zero=i.zero.map qh)(eO:d.zero=some z):∃fH,i.zero=some fH∧aK ak z fH:=by
 rw [eO]at h;cases al:i.zero with
 |none=>rw [al]at h;cases h
 |some fH=>rw [al]at h;simp at h;subst h;exact⟨fH,rfl,IC ak fH⟩
theorem Rx{cV:Array Field}{w:World}{g:Field→Nat}(ah:∀f∈cV.toList,(sizeOf f.type).run P w=.ok (g f) w) :
 ((cV.mapM fun f=>(do pure (f.offset,←sizeOf f.type):Sem (Nat×Nat)))).run P w=.ok (cV.map fun f=>(f.offset,g f)) w:=by
 have key:∀(l:List Field),(∀f∈l,(sizeOf f.type).run P w=.ok (g f) w)→(l.mapM fun f=>(do pure (f.offset,←sizeOf f.type):Sem (Nat×Nat))).run P w=.ok (l.map fun f=>(f.offset,g f)) w:=by
  intro l;induction l with
  |nil=>intro _;rfl
  |cons f r ih =>
   intro h;simp only [List.mapM_cons,Sem.run_bind,h f (by simp),Result.andThen_ok,Sem.run_pure,ih (fun f a6=>h f (by simp [a6])),List.map_cons]
 have:=key cV.toList ah;rw [←Array.toArray_toList (xs:=cV)];simp only [List.mapM_toArray,Sem.run_map,this,Result.andThen_ok,List.map_toArray]
theorem Ry{D:dI}(b5:D.dr P){t:TypeId}{parts:Array (Nat×Operand)}{bf:Operand→o}{dW:Operand→Value}(cZ:∀x,aK ak (bf x) (dW x)){v:o}
 (h:Ch D t (parts.toList.map fun I=>(I.1,bf I.2))=some v) (w:World) :
 ∃bp,(Instr.build t (parts.map fun(i,x)=>(i,dW x))).run P w=.ok bp w∧aK ak v bp:=by
 unfold Ch at h;split at h
 ·rename_i d aD;obtain⟨iW,u,hD,hu,ao,aq, -,eO⟩:=b5.get aD;split at h
  ·rename_i cV z eg CU;split at h
   ·rename_i kO;rw [ao]at eg;obtain⟨aG,rfl,ml⟩:=yU eg;obtain⟨fH,lQ,np⟩:=tx (P:=P) (ak:=ak) (t:=t) b5 eO CU;simp only [Option.map_eq_some_iff]at h;obtain⟨cells,ar,rfl⟩:=h
    have eQ:∀f∈aG.toList,∃x,D f.type=some x:=by intro f a6;have CV:=kO.2;unfold IA at CV;rw [ml,List.all_eq_true]at CV;have:=CV (f.offset,f.type) (List.mem_map.2 ⟨f,a6,rfl⟩);exact Option.isSome_iff_exists.1 this
    have km:=Rx (P:=P) (w:=w) (cV:=aG) (g:=fun f=>((D f.type).map (·.size)).getD 0) (fun f a6=>by
     obtain⟨x,af⟩:=eQ f a6;obtain⟨ea,om,fU, -, -,fc, -⟩:=b5.get af
     rw [lf fU,af];simp [fc])
    have CW:z≠ .undef:=by rintro rfl;simp [o.known]at kO
    obtain⟨kn,aL,aQ⟩:=CR (ak:=ak) (y5:=fun i=>(aG.map fun f=>(f.offset,((D f.type).map (·.size)).getD 0))[i]?) (fun i x af=>by
     split at af
     ·rename_i off ql a6;simp only [Option.map_eq_some_iff]at af;obtain⟨y,bY,rfl⟩:=af;rw [ml]at a6;simp only [List.getElem?_map,Option.map_eq_some_iff]at a6;obtain⟨mm,qv,he⟩:=a6;simp at he;obtain⟨rfl,rfl⟩:=he;have vv:aG[i]? =some mm:=by simpa using qv
      simp [vv,bY]
     ·cases af) (CS parts bf dW) (CT cZ parts) (np.cells CW) ar
    refine⟨.agg kn,?_,by simp only [aK];exact⟨_,rfl,aQ⟩⟩;simp only [Instr.build,Sem.run_bind,vs hD lQ,Result.andThen_ok,run_underlying hu,km,aL,Sem.run_pure]
   ·cases h
  ·rename_i n e z eg CU;split at h
   ·rename_i cR fN;split at h
    ·rename_i kO;rw [ao]at eg;have:=ts eg;subst this;obtain⟨fH,lQ,np⟩:=tx (P:=P) (ak:=ak) (t:=t) b5 eO CU;obtain⟨ea,om,fU, -, -,fc, -⟩:=b5.get fN;simp only [Option.map_eq_some_iff]at h;obtain⟨cells,ar,rfl⟩:=h;have CW:z≠ .undef:=by rintro rfl;simp [o.known]at kO
     obtain⟨kn,aL,aQ⟩:=CR (ak:=ak) (y5:=fun i=>some (i*ea.size,ea.size)) (fun i x af=>by rw [←fc];exact af) (CS parts bf dW) (CT cZ parts) (np.cells CW) ar;refine⟨.agg kn,?_,by simp only [aK];exact⟨_,rfl,aQ⟩⟩;simp only [Instr.build,Sem.run_bind,vs hD lQ,Result.andThen_ok,run_underlying hu,lf fU,aL,Sem.run_pure]
    ·cases h
   ·cases h
  ·cases h
 ·cases h
end
end
end Go.cH
namespace Go.cH
noncomputable section
open Go.RowKit
section
variable {P:Program}{ak:Map}
def pk(P:Program)(ak:Map)(bd:Nat→Prop)(bo:World)(h:j)(bh:Nat)(v:o)(aa:j)(s:Sem Value)(w:World):Prop :=
 ∃bp bA bM,s.run P w=.ok bp bA∧hj ak bM h.next bh∧aK bM v bp∧c2 bM bd aa bA∧Safe bd bo bA∧aa.next=h.next
theorem pk.pure{bd:Nat→Prop}{bo:World}{h:j}{bh:Nat}{v:o}{s:Sem Value}{w:World}(r:c2 ak bd h w)(av:Safe bd bo w)(k:∃bp,s.run P w=.ok bp w∧aK ak v bp):pk P ak bd bo h bh v h s w :=
 let ⟨bp,p,ae⟩:=k;⟨bp,w,ak,p,hj.refl _ _ _,ae,r,av,rfl⟩
theorem Rz(lh:Array Value)(i:Nat)(h:i<lh.size):lh[i]! =lh[i]:=by simp [getElem!_pos,h]
theorem I6{z:o}{fH:Value}{es:Nat}(eO:aK ak z fH)(ao:z≠ .undef)(hlen:z.cells.length=es)(cs:0<es)(n:Nat) :
 bG ak (flat (List.replicate n z)) ((Array.range (n*es)).map (fun i=>fH.cells[i%fH.cells.size]!)).toList:=by
 have ar:=eO.cells ao;have eQ:fH.cells.size=es:=by have:=ar.length;rw [Array.length_toList]at this;omega
 have gi:∀e∈List.replicate n z,e.cells.length=es:=by intro e he;rw [List.eq_of_mem_replicate he];exact hlen
 refine bG.eX (by rw [k' gi];simp) fun i a v aS a'=> ?_
 have al:i<(flat (List.replicate n z)).length:=(List.getElem?_eq_some_iff.1 aS).1;obtain⟨q,C,e,rfl,he,aX⟩:=yR gi i al;have RA:e=z:=List.eq_of_mem_replicate (List.mem_of_getElem? he);subst RA;have vy:e.cells[C]? =some (e.cells[C]'(by omega)):=List.getElem?_eq_getElem _;have a6:=og gi he vy;rw [a6]at aS;simp at aS;subst aS;have nq:(q*es+C)%es=C:=by rw [Nat.add_comm,Nat.add_mul_mod_self_right];exact Nat.mod_eq_of_lt aX
 have cM:q*es+C<n*es:=by rw [k' gi]at al;simpa using al
 obtain⟨u,hu,Cs⟩:=ar.get vy
 have RB:fH.cells[C]'(by omega)=u:=by have:=(List.getElem?_eq_some_iff.1 hu).2;simpa using this
 simp only [Array.toList_map,Array.toList_range,List.getElem?_map,List.getElem?_range cM,Option.map_some,Option.some.injEq]at a';rw [eQ,nq,Rz _ _ (by omega),RB]at a';subst a';exact Cs
theorem I7:∀{parts:List (Nat×o)} {l c3:List o},nj l parts=some c3→c3.length=l.length
 |[],l,c3,h=>by simp [nj]at h;subst h;rfl
 |(i,v)::r,l,c3,h=>by
  simp only [nj]at h;split at h
  ·rw [I7 h];simp
  ·cases h
theorem RC{es:Nat} :∀{l:List o}(aB:∀e∈l,e.cells.length=es){i:Nat}{v:o},i<l.length→v.cells.length=es→flat (l.set i v)=iQ (flat l) (i*es) v.cells:=by
 intro l aB i v al a'
 have ot:∀e∈l.set i v,e.cells.length=es:=by
  intro e he;rcases List.mem_or_eq_of_mem_set he with h|h
  ·exact aB e h
  ·rw [h];exact a'
 apply List.ext_getElem?;intro k;rw [yP];by_cases ao:k<(flat (l.set i v)).length
 ·obtain⟨q,C,e,rfl,he,aX⟩:=yR ot k ao;have RD:e.cells.length=es:=ot e (List.mem_of_getElem? he);rw [og ot he (List.getElem?_eq_getElem (by omega:C<e.cells.length))];have jC:q*es+C<(flat l).length:=by rw [k' aB];rw [k' ot,List.length_set]at ao;exact ao
  by_cases I8:i=q
  ·subst I8;rw [List.getElem?_set_self al]at he;simp at he;subst he;rw [if_pos ⟨by omega,by rw [a'];omega,jC⟩,show i*es+C-i*es=C by omega,List.getElem?_eq_getElem (by omega)]
  ·rw [List.getElem?_set_ne I8]at he;rw [if_neg]
   ·rw [og aB he (List.getElem?_eq_getElem (by omega:C<e.cells.length))]
   ·intro ar;rcases Nat.lt_or_ge q i with cM|gh
    ·have:=tq (i:=q) (k:=i) (C:=C) (es:=es) cM aX;omega
    ·have:=tq (i:=i) (k:=q) (C:=es-1) (es:=es) (by omega) (by omega);omega
 ·rw [List.getElem?_eq_none (by omega),if_neg (by rw [k' ot,List.length_set]at ao;rw [k' aB];omega),List.getElem?_eq_none (by rw [k' aB];rw [k' ot,List.length_set]at ao;omega)]
theorem I9{es:Nat} :∀{parts:List (Nat×o)} {r2:List (Nat×Value)} {l c3:List o} {cells:Array Value},
 (parts.map (·.1)=r2.map (·.1))→bG ak (parts.map (·.2)) (r2.map (·.2))→(∀I∈parts,I.2≠ .undef∧I.2.cells.length=es)→(∀e∈l,e.cells.length=es)→bG ak (flat l) cells.toList→nj l parts=some c3 →
 ∃kn,Instr.fill (fun i=>some (i*es,es)) cells r2=some kn∧bG ak (flat c3) kn.toList∧(∀e∈c3,e.cells.length=es)
 |[],[],l,c3,cells,_,_,_,jG,aB,h=>by simp [nj]at h;subst h;exact⟨cells,rfl,aB,jG⟩
 |[],_::_,_,_,_,h,_,_,_,_,_=>by simp at h
 |_::_,[],_,_,_,h,_,_,_,_,_=>by simp at h
 |(i, v)::rest,(fe,bp)::Rw,l,c3,cells,p,ae,bg,jG,aB,h=>by
  simp at p;obtain⟨rfl,p⟩:=p;simp only [List.map_cons,bG]at ae;obtain⟨u,t,e,a',ae⟩:=ae;simp at e;obtain⟨rfl,rfl⟩:=e;simp only [nj]at h;split at h
  ·rename_i al;obtain⟨RE,lc⟩:v≠ .undef∧v.cells.length=es:=bg (i,v) (by simp);have dV:=a'.cells RE;have eQ:bp.cells.size=es:=by have:=dV.length;rw [Array.length_toList]at this;omega
   have hl:cells.size=l.length*es:=by have:=aB.length;rw [Array.length_toList,k' jG]at this;omega
   have hle:i*es+es≤l.length*es:=by have:=Nat.mul_le_mul_right es (show i+1≤l.length by omega);rw [Nat.succ_mul]at this;exact this
   have key:=I9 p ae (fun I ei=>bg I (by simp [ei])) (l:=l.set i v) (cells:=bp.cells.zipIdx.foldl (fun bn (x:Value×Nat)=>bn.setIfInBounds (i*es+x.2) x.1) cells)
    (by
     intro e he;rcases List.mem_or_eq_of_mem_set he with h|h
     ·exact jG e h
     ·rw [h];exact lc)
    (by rw [I5,RC jG al lc];exact aB.put dV _) h
   obtain⟨kn,aL,aQ,bq⟩:=key;refine⟨kn,?_,aQ,bq⟩;simp only [Instr.fill];split
   ·rename_i dq;exfalso;simp only [ne_eq,Bool.or_eq_true,decide_eq_true_eq]at dq;omega
   ·exact aL
  ·cases h
theorem I'{l:List o}{hC:Bool}{es:Nat}(h:∀e∈l,e.fits hC es=true):∀c∈flat l,c.jD=true:=by intro c ar;obtain⟨e,he,RF⟩:=List.mem_flatMap.1 ar;exact(r1 (h e he)).2.2 c RF
theorem Ja(t:TypeId)(c:Array Value)(w:World):(newRow t c).run P w=.ok ⟨w.heap.size,0,none⟩ (w.alloc (.cells c t)):=rfl
theorem aK.j1{ak:Map}{bh b es len cap fy:Nat}{ex:Bool}{dk:Nat}(rZ:len≤cap)(ec:cap≤dk)(b7:dk≤fy)(hex:ex=true→dk=cap) :
 aK (ak.add bh 0 ⟨b,0,0,es,fy,ex,false⟩) (j1 bh es len cap) (.slice (some ⟨b,0,none⟩) len dk):=by
 simp only [cH.j1,aK];refine⟨_,_,rfl,rZ,ec,.inl ⟨rfl,_,Map.yO _ _ _ _,rfl,.inr ⟨Nat.le_refl _,?_,by simpa using b7⟩,hex⟩⟩;simp [Place.at]
theorem RG{D:dI}(b5:D.dr P){bd:Nat→Prop}{h aa:j}{bo w:World}(r:c2 ak bd h w)(dC:Safe bd bo w)(dl:fv bd bo.heap.size){bh:Nat}(hid:∀v,ak bh v=none)(aM:bh<h.next)
 {t:TypeId} {n:Nat} {parts:Array (Nat×Operand)} {bf:Operand→o} {dW:Operand→Value} (cZ:∀x,aK ak (bf x) (dW x)) {v:o}
 (ai:qm D t n (parts.toList.map fun I=>(I.1,bf I.2)) bh h=some (v,aa)) :
 pk P ak bd bo h bh v aa (Instr.buildSlice t n (parts.map fun(i,x)=>(i,dW x))) w:=by
 unfold qm at ai;split at ai
 ·rename_i d aD;obtain⟨iW,u,hD,hu,ao,aq, -, -⟩:=b5.get aD;split at ai
  ·rename_i e eg;rw [ao]at eg;have:=ld eg;subst this;split at ai
   ·rename_i cR fN;obtain⟨ea,om,fU, -, -,fc, -,vz⟩:=b5.get fN;split at ai
    ·rename_i z eO;obtain⟨fH,lQ,np⟩:=tx (P:=P) (ak:=ak) (t:=e) b5 vz eO;split at ai
     ·rename_i ar;obtain⟨lO,kN,r3,qy⟩:=ar;split at ai
      ·rename_i l aB;simp at ai;obtain⟨rfl,rfl⟩:=ai;obtain⟨f1,f2,f3⟩:=r1 r3;have ii:0<ea.size:=by omega
       have CX:∀e∈List.replicate n z,e.fits cR.kind.isAgg cR.size=true:=by intro e he;rw [List.eq_of_mem_replicate he];exact r3
       have RH:∀e∈l,e.fits cR.kind.isAgg cR.size=true:=by
        have key:∀(parts:List (Nat×o)) (m gI:List o),(∀I∈parts,I.2.fits cR.kind.isAgg cR.size=true)→(∀e∈m,e.fits cR.kind.isAgg cR.size=true)→nj m parts=some gI→ ∀e∈gI,e.fits cR.kind.isAgg cR.size=true:=by
         intro parts;induction parts with
         |nil=>intro m gI _ hm aq;simp [nj]at aq;subst aq;exact hm
         |cons I r ih =>
          obtain⟨i,v⟩:=I;intro m gI ac hm aq;simp only [nj]at aq;split at aq
          ·refine ih (m.set i v) gI (fun I ei=>ac I (by simp [ei])) ?_ aq;intro e he;rcases List.mem_or_eq_of_mem_set he with h|h
           ·exact hm e h
           ·rw [h];exact ac (i,v) (by simp)
          ·cases aq
        exact key _ _ _ (fun I ac=>List.all_eq_true.1 qy I ac) CX aB
       obtain⟨kn,aL,aQ,bq⟩:=I9 (ak:=ak) (es:=ea.size) (CS parts bf dW) (CT cZ parts)
        (fun I ac=>by have:=r1 (List.all_eq_true.1 qy I ac);exact⟨this.2.1,by omega⟩)
        (by intro e he;rw [List.eq_of_mem_replicate he];omega)
        (I6 np f2 (by omega:z.cells.length=ea.size) ii n) aB
       have kl:l.length=n:=by rw [I7 aB];simp
       have jL:fv bd w.heap.size:=dl.le dC.size;have ml:(flat l).length=n*ea.size:=by rw [k' bq,kl]
       have hl:kn.size=n*ea.size:=by have:=aQ.length;rw [Array.length_toList]at this;omega
       refine⟨.slice (some ⟨w.heap.size,0,none⟩) n n,w.alloc (.cells kn e),ak.add bh 0 ⟨w.heap.size,0,0,cR.size,n,true,false⟩,?_,hj.add ak _ (hid 0) _,aK.j1 (Nat.le_refl _) (Nat.le_refl _) (Nat.le_refl _) (fun _=>rfl),?_,dC.alloc jL _,rfl⟩
       ·have hle:¬n*ea.size>2^24:=by rw [←fc];omega
        simp only [Instr.buildSlice,Sem.run_bind,run_underlying hu,Result.andThen_ok,lf fU];rw [if_neg hle];by_cases mg:n*ea.size=0
        ·have RI:n=0:=by rcases Nat.mul_eq_zero.1 mg with h|h<;>omega
         subst RI;simp only [Nat.zero_mul,if_true,Sem.run_bind,Sem.run_pure,Result.andThen_ok]at aL⊢;have b':(Array.range 0).map (fun i=>(#[]:Array Value)[i%(#[]:Array Value).size]!)=(Array.range 0).map (fun i=>fH.cells[i%fH.cells.size]!):=by simp
         rw [b',aL];rfl
        ·rw [if_neg mg];simp only [Sem.run_bind,vs fU lQ,Result.andThen_ok,Sem.run_pure,aL];rfl
       ·refine r.made hid aM jL kN (by intro e he;rw [bq e he,fc]) ?_ (by rw [hl,fc];exact Nat.le_refl _) (by omega) ?_ nofun
        ·rw [List.take_of_length_le (by rw [Array.length_toList,hl,kl,fc];exact Nat.le_refl _)];exact aQ
        ·intro x af;exact aQ.one (I' RH) x (List.mem_of_mem_take af)
      ·cases ai
     ·cases ai
    ·cases ai
   ·cases ai
  ·cases ai
 ·cases ai
theorem CY{k:IntKind}{n:Int}(h:0≤n)(ae:n<2^62)(ao:k=.i64):k.wrap n=n:=by
 subst ao;have e:(2:Int)^62=4611686018427387904:=by decide
 exact IntWalk.i64_in _ (by omega)
theorem RJ{D:dI}(b5:D.dr P){bd:Nat→Prop}{h aa:j}{bo w:World}(r:c2 ak bd h w)(dC:Safe bd bo w)(dl:fv bd bo.heap.size){bh:Nat}(hid:∀v,ak bh v=none)(aM:bh<h.next)
 {t:TypeId} {x y v:o} {bS gH:Value} (af:aK ak x bS) (bY:aK ak y gH) (ai:vj D t x y bh h=some (v,aa)) :
 pk P ak bd bo h bh v aa (Instr.makeSlice t bS gH) w:=by
 unfold vj at ai;split at ai
 ·rename_i d aL l aQ c aD;simp only [aK]at af bY;subst af bY;obtain⟨iW,u,hD,hu,ao,aq, -, -⟩:=b5.get aD;split at ai
  ·rename_i e eg;rw [ao]at eg;have:=ld eg;subst this;split at ai
   ·rename_i cR fN;obtain⟨ea,om,fU, -, -,fc,CZ,vz⟩:=b5.get fN;split at ai
    ·rename_i z eO;obtain⟨fH,lQ,np⟩:=tx (P:=P) (ak:=ak) (t:=e) b5 vz eO;split at ai
     ·rename_i ar;obtain⟨lO,kN,r3,qy,RL,Jb⟩:=ar;simp at ai;obtain⟨rfl,rfl⟩:=ai;obtain⟨f1,f2,f3⟩:=r1 Jb;have ii:0<ea.size:=by omega
      have jL:fv bd w.heap.size:=dl.le dC.size;have RM:IntKind.i64.wrap l=l:=CY lO (by omega) rfl;have RN:IntKind.i64.wrap c=c:=CY (by omega) r3 rfl;have Jc:=I6 np f2 (by omega:z.cells.length=ea.size) ii c.toNat;have CX:∀e∈List.replicate c.toNat z,e.fits cR.kind.isAgg cR.size=true:=by intro e he;rw [List.eq_of_mem_replicate he];exact Jb
      have gi:∀e∈List.replicate c.toNat z,e.cells.length=ea.size:=by intro e he;rw [List.eq_of_mem_replicate he];omega
      refine⟨.slice (some ⟨w.heap.size,0,none⟩) l.toNat c.toNat,w.alloc (.cells ((Array.range (c.toNat*ea.size)).map (fun i=>fH.cells[i%fH.cells.size]!)) e),
       ak.add bh 0 ⟨w.heap.size,0,0,cR.size,c.toNat,true,false⟩,?_,hj.add ak _ (hid 0) _,aK.j1 (by omega) (Nat.le_refl _) (Nat.le_refl _) (fun _=>rfl),?_,dC.alloc jL _,rfl⟩
      ·have ec:¬c<0:=by omega
       have kl:¬l<0:=by omega
       have ty:¬l>c:=by omega
       have vA:¬((ea.bytes:Int)*c>2^48):=by rw [←CZ];omega
       simp only [Instr.makeSlice,Sem.run_bind,run_underlying hu,Result.andThen_ok,asInt,asIntOf,Sem.run_pure,Q1 fU,RM,RN];rw [if_neg (by simp only [Bool.or_eq_true,decide_eq_true_eq];omega)];simp only [Sem.run_bind,Sem.run_pure,run_askRoom,Result.andThen_ok,lf fU];by_cases mg:c.toNat*ea.size=0
       ·have b':c.toNat*ea.size=0:=mg;rw [if_pos mg];have bu:Array.range 0= #[]:=rfl;simp only [Sem.run_bind,Sem.run_pure,Result.andThen_ok,b',Ja,bu];simp
       ·rw [if_neg mg];simp only [Sem.run_bind,vs fU lQ,Result.andThen_ok,Sem.run_pure,Ja]
      ·refine r.made hid aM jL RL (by intro e he;rw [gi e he,fc]) ?_ (by rw [fc];simp) (by simp) ?_ nofun
       ·rw [List.take_of_length_le (by simp [fc])];exact Jc
       ·intro x af;exact Jc.one (I' CX) x (List.mem_of_mem_take af)
     ·cases ai
    ·cases ai
   ·cases ai
  ·cases ai
 ·cases ai
theorem RO{D:dI}(b5:D.dr P){t:TypeId}{x v:o}{xs:Array Value}{e6:Array TypeId}(an:TypeId)(af:bG ak [x] xs.toList)(b7:e6[0]? =some t)(h:Cl D t x=some v)(w:World) :
 ∃bp,(Builtin.len_ e6 an xs).run P w=.ok bp w∧aK ak v bp:=by
 simp only [bG]at af;obtain⟨bS,l,e,af,aB⟩:=af;have rI:xs[0]? =some bS:=by rw [←Array.getElem?_toList,e];rfl
 unfold Cl at h;split at h
 ·rename_i d a n c aD;obtain⟨iW,u,hD,hu,ao, -⟩:=b5.get aD;split at h
  ·rename_i e eg;rw [ao]at eg;have:=ld eg;subst this;simp at h;subst h;refine⟨.int .i64 n,?_,by simp only [aK]⟩
   have:∃cz fr,bS=.slice cz n fr:=by
    cases a with
    |none=>simp only [aK]at af;obtain⟨rfl,rfl,rfl⟩:=af;exact⟨_,_,rfl⟩
    |some a=>simp only [aK]at af;obtain⟨_,_,rfl,_⟩:=af;exact⟨_,_,rfl⟩
   obtain⟨cz,fr,rfl⟩:=this;simp [Builtin.len_,b7,rI,run_underlying hu,goInt]
  ·cases h
 ·rename_i d s aD;obtain⟨iW,u,hD,hu,ao, -⟩:=b5.get aD;split at h
  ·rename_i eg;rw [ao]at eg;have:=qs eg;subst this;simp at h;subst h;simp only [aK]at af;obtain⟨bK,rfl,rfl⟩:=af;refine⟨.int .i64 bK.size,?_,by simp only [aK];rfl⟩;simp [Builtin.len_,b7,rI,run_underlying hu,goInt]
  ·cases h
 ·rename_i d aD _ _;obtain⟨iW,u,hD,hu,ao, -⟩:=b5.get aD;split at h
  ·rename_i n e eg;rw [ao]at eg;have:=ts eg;subst this;simp at h;subst h;refine⟨.int .i64 n,?_,by simp only [aK]⟩;simp [Builtin.len_,b7,rI,run_underlying hu,goInt]
  ·cases h
 ·cases h
end
end
end Go.cH
namespace Go.cH
noncomputable section
open Go.RowKit
section
variable {P:Program}{ak:Map}
theorem c2.C0{bd:Nat→Prop}{h:j}{w:World}(r:c2 ak bd h w){id R:Nat}{I:Place}(ac:ak id R=some I){b:J}(av:h.get id=some b){idx len:Nat}
 (eS:I.a7≤idx) (aB:idx+len≤b.cE R) (hle:idx+len≤b.bi.length) :
 ∃news,bG ak (flat ((b.bi.drop idx).take len)) news∧w.rangeAt I.ck (I.off+(idx-I.a7)*I.es) news∧(∀x∈news,x.oneCell'=true)∧(∀e∈(b.bi.drop idx).take len,e.cells.length=I.es)∧news.length=len*I.es:=by
 obtain⟨p,c,ae,bg,bO,bJ,du,cI,cr⟩:=r.dB _ _ _ ac;rw [av]at ae;simp at ae;subst ae
 have eT:∀(i:Nat)(e:o),((b.bi.drop idx).take len)[i]? =some e→i<len∧b.bi[idx+i]? =some e:=by
  intro i e he;rw [List.getElem?_take]at he;split at he
  ·rw [List.getElem?_drop]at he;exact⟨by assumption,he⟩
  ·simp at he
 have gi:∀e∈(b.bi.drop idx).take len,e.cells.length=I.es:=by intro e he;obtain⟨i,al⟩:=List.getElem?_of_mem he;obtain⟨g1,g2⟩:=eT i e al;exact(cr.cont (idx+i) e (by omega) (by omega) g2).1
 obtain⟨news,a1,aP,fi⟩:=y2 (ak:=ak) (w:=w) (b:=I.ck) (U:=I.off+(idx-I.a7)*I.es) (l:=flat ((b.bi.drop idx).take len)) (fun k bS ao=>by
  have jC:=(List.getElem?_eq_some_iff.1 ao).1;obtain⟨i,C,e,rfl,he,aX⟩:=yR gi k jC;obtain⟨g1,g2⟩:=eT i e he;have RD:e.cells.length=I.es:=gi e (List.mem_of_getElem? he);obtain⟨dJ,ef,fR⟩:=cr.cont (idx+i) e (by omega) (by omega) g2;have vy:e.cells[C]? =some (e.cells[C]'(by omega)):=List.getElem?_eq_getElem _;rw [og gi he vy]at ao;simp at ao;subst ao;obtain⟨x,ko,qz⟩:=fR C _ vy;refine⟨x,?_,qz⟩;have bC:(idx+i-I.a7)*I.es=(idx-I.a7)*I.es+i*I.es:=by rw [←Nat.add_mul];congr 1;omega
  rw [show I.off+(idx-I.a7)*I.es+(i*I.es+C)=I.off+(idx+i-I.a7)*I.es+C by omega]
  exact ko)
 exact⟨news,a1,aP,fi,gi,by rw [a1.length,k' gi];congr 1;simp;omega⟩
theorem y6{bd : Nat→Prop}{h:j}{w:World}(r:c2 ak bd h w){es:Nat}{x:o}{bS:Value}(af:aK ak x bS){l:List o}(he:eW es x h=some l)(cs:0<es){fT:TypeId}
 (ao:(∃dT,P.underlying fT=some (.slice dT))∨P.underlying fT=some .string) :
 ∃news,Src P es fT bS l.length news w∧bG ak (flat l) news∧(∀e∈l,e.cells.length=es):=by
 unfold eW at he;split at he
 ·rename_i c;simp at he;subst he;simp only [aK]at af;obtain⟨rfl,_,_⟩:=af;refine⟨[],⟨ao,fun _=>rfl,run_firstCells_none w es 0 0 0,run_firstCells_none w.drew es 0 0 0,by simp,by simp⟩,by simp [flat,bG],by simp⟩
 ·rename_i a len cap;simp only [aK]at af;obtain⟨fI,dk,rfl,eC,ci,iC⟩:=af
  have tz:len=0→l=[]→ ∃news,Src P es fT (.slice (some fI) len dk) l.length news w∧bG ak (flat l) news∧(∀e∈l,e.cells.length=es):=by rintro rfl rfl;exact⟨[],⟨ao,fun _=>rfl,run_firstCells_some w es 0 fI 0 dk [] (by simp) (by simp),run_firstCells_some w.drew es 0 fI 0 dk [] (by simp) (by simp),by simp,by simp⟩,by simp [flat,bG],by simp⟩
  split at he
  ·rename_i a6;obtain⟨I,ac,jK,j3,hex⟩:=iC.plain a6;split at he
   ·rename_i pj;split at he
    ·rename_i b av;split at he
     ·rename_i bm;simp at he;subst he;exact tz bm rfl
     ·rename_i bm;split at he
      ·rename_i aB;simp at he;subst he;rcases j3 with eO|⟨eS,rfl,oh⟩
       ·omega
       ·obtain⟨_,c,ae,_⟩:=r.dB _ _ _ ac;have hle:a.idx+len≤b.bi.length:=aB.2;obtain⟨news,a1,aP,fi,iD,hn⟩:=r.C0 ac av eS aB.1 hle;have hlen:((b.bi.drop a.idx).take len).length=len:=by simp;omega
        have lR:I.es=es:=by omega
        refine⟨news,?_,a1,by rw [←lR];exact iD⟩;rw [hlen]
        have ar:∀C v,news[C]? =some v→w.cell? ((I.at a.idx 0).add C)=some v:=by intro C v a';rw [Place.qw,Nat.zero_add];exact aP C v a'
        exact⟨ao,fun _=>rfl,run_firstCells_some w es len _ len dk news (by rw [hn,lR]) ar,run_firstCells_some w.drew es len _ len dk news (by rw [hn,lR]) (by simpa using ar),by rw [hn,lR],fi⟩
      ·cases he
    ·split at he
     ·rename_i bm;simp at he;subst he;exact tz bm rfl
     ·cases he
   ·cases he
  ·rename_i a6;split at he
   ·rename_i bm;simp at he;subst he;exact tz bm rfl
   ·rename_i bm;split at he
    ·rename_i p;subst p;split at he
     ·rename_i b av;split at he
      ·rename_i bn dV;split at he
       ·rename_i ar;simp only [Option.some.injEq]at he;subst he;rcases iC with ⟨RP,_⟩|⟨f,qv,I,ac,jK,eS,rfl⟩
        ·exact absurd RP a6
        ·simp only at ac jK eS;obtain⟨g1,iV,g2,g3,g4,g5,g6,g7,g8⟩:=r.dB _ _ _ ac;rw [av]at g2;simp at g2;subst g2;have RQ:a.bP-1=f:=by omega
         rw [RQ]at ar⊢;unfold J.elem? at dV;split at dV
         ·rename_i lb;obtain⟨dK,dL,gd⟩:=g8.cont a.idx _ eS lb dV;have r4:((bn.drop f).take len).length=len:=by simp;omega
          obtain⟨cd,v1,v2,v3⟩:=y2 (ak:=ak) (w:=w) (b:=I.ck) (U:=I.off+(a.idx-I.a7)*I.es+f) (l:=(bn.drop f).take len) (fun C bS af=>by
           rw [List.getElem?_take]at af;split at af
           ·rw [List.getElem?_drop]at af;obtain⟨x,pn,r5⟩:=gd (f+C) bS af;refine⟨x,?_,r5⟩;rw [←pn];unfold Place.at;congr 2;omega
           ·cases af)
          have lc:cd.length=len:=by have:=v1.length;omega
          have ml:flat ((bn.drop f).take len)=(bn.drop f).take len:=by
           have aq:=ar.2;generalize (bn.drop f).take len=l at aq;induction l with
           |nil=>rfl
           |cons x r ih =>
            simp only [List.all_cons,Bool.and_eq_true]at aq;have ih:=ih aq.2;simp only [flat,List.flatMap_cons]at ih⊢;rw [CP aq.1,ih];rfl
          refine⟨cd,?_,by rw [ml];exact v1,fun e he=>by rw [CP (List.all_eq_true.1 ar.2 e he)];rfl⟩;rw [r4]
          have nm:∀C v,cd[C]? =some v→w.cell? ((I.at a.idx f).add C)=some v:=by intro C v a';rw [Place.qw];have:=v2 C v a';rw [←this];unfold Place.at;congr 2;omega
          exact⟨ao,fun _=>rfl,run_firstCells_some w 1 len _ len dk cd (by omega) nm,run_firstCells_some w.drew 1 len _ len dk cd (by omega) (by simpa using nm),by omega,v3⟩
         ·cases dV
       ·cases he
      ·cases he
     ·cases he
    ·cases he
 ·rename_i s;split at he
  ·rename_i p;subst p;simp at he;subst he;simp only [aK]at af;obtain⟨bK,rfl,rfl⟩:=af;have hlen:(bK.data.toList.map fun b=>o.int .u8 b.toNat).length=bK.size:=by rw [List.length_map,Array.length_toList];rfl
   refine⟨byteCells bK,?_,?_,?_⟩
   ·rw [hlen]
    exact⟨ao,fun _=>rfl,firstCells_string bK w,firstCells_string bK w.drew,by rw [byteCells_length,Nat.mul_one],fun u hu=>by
     obtain⟨_,_,rfl⟩:=List.mem_map.1 hu
     rfl⟩
   ·have:flat (bK.data.toList.map fun b=>o.int .u8 b.toNat)=bK.data.toList.map fun b=>o.int .u8 b.toNat:=by
     generalize bK.data.toList=l;induction l with
     |nil=>rfl
     |cons a r ih=>simp only [List.map_cons,flat,List.flatMap_cons,o.cells]at ih⊢; rw [ih];rfl
    rw [this];exact bG.map _ _ _ fun b _=>by simp only [aK]
   ·intro e he;obtain⟨b,_,rfl⟩:=List.mem_map.1 he;rfl
  ·cases he
 ·cases he
theorem Jd(n:Nat):∀(r c:Nat),c≤n+n/4+512→Builtin.growBy n r c≤n+n/4+512
 |0,c,h=>h
 |r+1,c,h=>by
  simp only [Builtin.growBy];split
  ·exact h
  ·exact Jd n r _ (by omega)
theorem nextslicecap_le{jl cap:Nat}(h:cap<jl):Builtin.nextslicecap jl cap≤jl+jl/4+512:=by
 unfold Builtin.nextslicecap;split
 ·omega
 ·split
  ·omega
  ·exact Jd _ _ _ (by omega)
theorem RR(lh:Array Value)(n:Nat):(Builtin.zeroCells lh n).size=n*lh.size:=by simp [Builtin.zeroCells]
theorem Alike.vB(w:World):Alike w w.drew:=Alike.drew w _
theorem C1{cd:List Value}{lh:Array Value}{n c es:Nat}(aB:cd.length=n*es)(eO:lh.size=es)(aM:n≤c) :
 (cd.toArray++Builtin.zeroCells lh (c-n)).size=c*es∧(cd.toArray++Builtin.zeroCells lh (c-n)).toList.take (n*es)=cd:=by
 constructor
 ·simp only [Array.size_append,List.size_toArray,RR,aB,eO];rw [←Nat.add_mul];congr 1;omega
 ·simp only [Array.toList_append];rw [List.take_left' (by simpa using aB)]
theorem Je(l m:List o):flat (l++m)=flat l++flat m:=by simp [flat]
theorem RS{D : dI}(b5:D.dr P){bd:Nat→Prop}{h aa:j}{bo w:World}(r:c2 ak bd h w)(dC:Safe bd bo w)(dl:fv bd bo.heap.size){bh:Nat}(hid:∀v,ak bh v=none)(aM:bh<h.next)
 {t fT:TypeId} (an:TypeId) {s x v:o} {bK bS:Value} (aq:aK ak s bK) (af:aK ak x bS)
 (ao:(∃dT,P.underlying fT=some (.slice dT))∨P.underlying fT=some .string) (ai:hi D t s x bh h=some (v,aa)) :
 pk P ak bd bo h bh v aa (Builtin.append_ #[t,fT] an #[bK,bS]) w:=by
 unfold hi at ai;split at ai
 ·rename_i d base len cap aD;obtain⟨iW,u,hD,hu,vC,_, -, -⟩:=b5.get aD;split at ai
  ·rename_i e eg;rw [vC]at eg;have:=ld eg;subst this;split at ai
   ·rename_i cR fN;obtain⟨ea,om,fU, -, -,fc,CZ,vz⟩:=b5.get fN;split at ai
    ·rename_i new fb;simp only at ai;split at ai
     ·rename_i ar;obtain⟨lO,kN,r3,qy⟩:=ar;obtain⟨news,src,po,fC⟩:=y6 (P:=P) (fT:=fT) r af fb lO ao;rw [fc]at src;have jL:fv bd w.heap.size:=dl.le dC.size
      have RT:∃fH,ea.zero=some fH∧fH.cells.size=ea.size:=by
       unfold qi.rO at qy;cases vD:cR.zero with
       |none=>simp [vD]at qy
       |some z =>
        rw [vD]at qy;obtain⟨fH,lQ,np⟩:=tx (P:=P) (ak:=ak) (t:=e) b5 vz vD;obtain⟨f1,f2,f3⟩:=r1 qy;have:=(np.cells f2).length;rw [Array.length_toList]at this;exact⟨fH,lQ,by omega⟩
      obtain⟨fH,lQ,C2⟩:=RT;have aeQ:(2:Nat)^62=4611686018427387904:=by decide
      have aeR:(2:Nat)^48=281474976710656:=by decide
      have grow:∀(y7:Option Addr)(dk:Nat)(olds:List Value),(Builtin.firstCells ea.size len (.slice y7 len dk)).run P w.drew=.ok olds.toArray w.drew→dk<len+new.length →
       (Builtin.append_ #[t,fT] an #[.slice y7 len dk,bS]).run P w =
        .ok (.slice (some ⟨w.heap.size,0,none⟩) (len+new.length) (grownCap w (len+new.length) dk e))
         (w.drew.alloc (.cells ((olds++news).toArray++Builtin.zeroCells fH.cells (grownCap w (len+new.length) dk e- (len+new.length))) e)):=by
       intro y7 dk olds hold cM;refine run_append_grow_src w t fT an e ea fH hu fU lQ y7 len dk olds hold bS new.length news src cM (by omega) ?_;have p:=nextslicecap_le cM;have ae:=Nat.mul_le_mul_right ea.bytes p;rw [CZ]at kN;omega
      have C3:Safe bd bo w.drew:=dC.drew;split at ai
      ·
        simp only [aK]at aq;obtain⟨rfl,rfl,rfl⟩:=aq;split at ai
        ·rename_i bm;simp only [Option.some.injEq,Prod.mk.injEq]at ai;obtain⟨rfl,rfl⟩:=ai;have mg:new=[]:=List.length_eq_zero_iff.1 (by omega);subst mg;have vf:news=[]:=by have:=po.length;simp [flat]at this;exact this
         subst vf;refine⟨.slice none 0 0,w,ak,?_,hj.refl _ _ _,by simp [aK],r,dC,rfl⟩;exact run_append_nothing w t fT an e ea hu fU none 0 0 (Nat.le_refl _) bS src
        ·rename_i bm;split at ai
         ·simp only [Option.some.injEq,Prod.mk.injEq]at ai;obtain⟨rfl,rfl⟩:=ai;have ah:=grow none 0 [] (run_firstCells_none _ _ _ _ _) (by omega);have gh:=grownCap_ge w (0+new.length) 0 e;have lc:news.length=new.length*ea.size:=by rw [src.newsLen]
          obtain⟨g1,g2⟩:=C1 (cd:=news) (lh:=fH.cells) (n:=0+new.length) (c:=grownCap w (0+new.length) 0 e) (es:=ea.size) (by rw [lc,Nat.zero_add]) C2 gh
          refine⟨_,_,ak.add bh 0 ⟨w.heap.size,0,0,cR.size,grownCap w (0+new.length) 0 e,false,false⟩,ah,hj.add ak _ (hid 0) _,
           aK.j1 (ex:=false) (Nat.le_refl _) gh (Nat.le_refl _) (by simp),?_,C3.alloc (by simpa using jL) _,rfl⟩
          refine(r.alike (Alike.vB w)).made hid aM (by simpa using jL) lO fC ?_ ?_ (by omega) ?_ (fun q h=>by cases h;exact⟨rfl,fun h=>absurd rfl h⟩)
          ·simp only [List.nil_append];rw [show new.length*cR.size=(0+new.length)*ea.size by rw [fc,Nat.zero_add],g2];exact po
          ·simp only [List.nil_append];rw [g1,fc];exact Nat.le_refl _
          ·simp only [List.nil_append];rw [show new.length*cR.size=(0+new.length)*ea.size by rw [fc,Nat.zero_add],g2];exact src.one
         ·cases ai
      ·rename_i a;split at ai
       ·rename_i RU;obtain⟨pj,a6⟩:=RU;split at ai
        ·rename_i b av;simp only [aK]at aq;obtain⟨fI,dk,rfl,eC,ci,iC⟩:=aq;obtain⟨I,ac,jK,j3,hex⟩:=iC.plain a6;obtain⟨g1,iV,g2,g3,g4,g5,g6,g7,g8⟩:=r.dB _ _ _ ac;rw [av]at g2;simp at g2;subst g2;have lR:I.es=ea.size:=by omega
         split at ai
         ·rename_i oi;split at ai
          ·rename_i bm;subst bm;simp only [Option.some.injEq,Prod.mk.injEq]at ai;obtain⟨rfl,rfl⟩:=ai;have vf:news=[]:=by have:=po.length;simp [flat]at this;exact this
           subst vf;refine⟨.slice (some fI) len dk,w,ak,?_,hj.refl _ _ _,?_,r,dC,rfl⟩
           ·exact run_append_nothing w t fT an e ea hu fU (some fI) len dk (by omega) bS src
           ·simp only [aK,List.length_nil,Nat.add_zero];exact⟨fI,dk,rfl,eC,ci,.inl ⟨a6,I,ac,jK,j3,hex⟩⟩
          ·rename_i bZ;split at ai
           ·rename_i ec;obtain⟨eR,oq,lb⟩:=ec;simp only [Option.some.injEq,Prod.mk.injEq]at ai;obtain⟨rfl,rfl⟩:=ai;have C4:0<new.length:=List.length_pos_iff.2 bZ;rcases j3 with eO|⟨eS,rfl,oh⟩
            ·omega
            ·rw [oq]at ac;obtain⟨aL,aQ⟩:=r.QV ac av eR (idx:=a.idx+len) (l:=new) (by omega) (by omega) bZ (by rw [lR,←fc];exact fC) po src.one
             have iE:I.off+(a.idx+len-I.a7)*I.es=I.off+(a.idx-I.a7)*I.es+0+len*ea.size:=by
              have:a.idx+len-I.a7=(a.idx-I.a7)+len:=by omega
              rw [this,Nat.add_mul,←lR];omega
             rw [iE]at aL aQ;have km:=run_append_room_src (P:=P) w t fT an e ea hu fU I.ck (I.off+(a.idx-I.a7)*I.es+0) len dk bS new.length news src (by omega) (fun C aX=>(aQ C aX).1) (fun C aX=>(aQ C aX).2);refine⟨_,_,ak,km,hj.refl _ _ _,?_,aL,?_,rfl⟩
             ·simp only [aK];exact⟨_,dk,rfl,oi,ci,.inl ⟨a6,I,by rw [oq];exact ac,jK,.inr ⟨eS,rfl,oh⟩,hex⟩⟩
             ·exact vq _ (g8.base (g6 eR)) _ _ dC
           ·cases ai
         ·rename_i oi;split at ai
          ·rename_i C5;split at ai
           ·rename_i old hold;simp only [Option.some.injEq,Prod.mk.injEq]at ai;obtain⟨rfl,rfl⟩:=ai;have ou:dk=cap:=hex (by rw [g5,C5])
            have eK:aK ak (.slice (some a) len cap) (.slice (some fI) len dk):=by simp only [aK];exact⟨fI,dk,rfl,eC,ci,.inl ⟨a6,I,ac,jK,j3,hex⟩⟩
            obtain⟨olds,nr,y8,y9⟩:=y6 (P:=P) (fT:=t) r eK hold lO (.inl ⟨e,hu⟩)
            have r6:old.length=len:=by have bu:=nr.len w;simp [Builtin.lenOf]at bu;exact bu.symm
            rw [r6,fc]at nr;have ah:=grow (some fI) dk olds nr.cellsD (by omega);have gh:=grownCap_ge w (len+new.length) dk e;have lc:(olds++news).length=(len+new.length)*ea.size:=by rw [List.length_append,src.newsLen,nr.newsLen,Nat.add_mul]
            obtain⟨dK,dL⟩:=C1 (cd:=olds++news) (lh:=fH.cells) (n:=len+new.length) (c:=grownCap w (len+new.length) dk e) (es:=ea.size) lc C2 gh;have r4:(old++new).length*cR.size=(len+new.length)*ea.size:=by rw [List.length_append,r6,fc]
            refine⟨_,_,ak.add bh 0 ⟨w.heap.size,0,0,cR.size,grownCap w (len+new.length) dk e,false,false⟩,ah,hj.add ak _ (hid 0) _,
             aK.j1 (ex:=false) (Nat.le_refl _) gh (Nat.le_refl _) (by simp),?_,C3.alloc (by simpa using jL) _,rfl⟩
            refine(r.alike (Alike.vB w)).made hid aM (by simpa using jL) lO (fun e he=> ?_) ?_ ?_ (by rw [List.length_append,r6];exact gh) ?_ (fun q h=>by cases h;exact⟨rfl,fun h=>absurd rfl h⟩)
            ·rcases List.mem_append.1 he with he|he
             ·exact y9 e he
             ·exact fC e he
            ·rw [r4,dL,Je];exact y8.append po
            ·rw [dK,fc];exact Nat.le_refl _
            ·rw [r4,dL];intro y bY;rcases List.mem_append.1 bY with bY|bY
             ·exact nr.one y bY
             ·exact src.one y bY
           ·cases ai
          ·rename_i C5;split at ai
           ·rename_i ec;obtain⟨eR,oq,vE,tA,kJ⟩:=ec;simp only [Option.some.injEq,Prod.mk.injEq]at ai;obtain⟨rfl,rfl⟩:=ai;have Jf:b.exact=false:=by simpa using C5
            rw [oq]at ac;by_cases yS:len+new.length≤dk
            ·
              rcases j3 with eO|⟨eS,rfl,oh⟩
              ·exfalso;have mg:new.length=0:=by omega
               omega
              ·obtain⟨aL,aQ⟩:=r.QX ac av eR (new:=new) (by omega) (by omega) (by rw [lR,←fc];exact fC) po src.one
               have iE:I.off+(b.bi.length-I.a7)*I.es=I.off+(a.idx-I.a7)*I.es+0+len*ea.size:=by
                have:b.bi.length-I.a7=(a.idx-I.a7)+len:=by omega
                rw [this,Nat.add_mul,←lR];omega
               rw [iE]at aL aQ;have km:=run_append_room_src (P:=P) w t fT an e ea hu fU I.ck (I.off+(a.idx-I.a7)*I.es+0) len dk bS new.length news src yS (fun C aX=>(aQ C aX).1) (fun C aX=>(aQ C aX).2)
               have jH:ak a.id (b.R+1)=none:=by
                cases aC:ak a.id (b.R+1)with
                |none=>rfl
                |some q=>obtain⟨_,iV,ae,bg,_⟩:=r.dB _ _ _ aC;rw [av]at ae;simp at ae;subst ae;omega
               refine⟨_,_,ak.add a.id (b.R+1) I,km,⟨ak.rU I jH,fun i al bZ lS u=> ?_,ak.Ct I (g6 eR)⟩,?_,aL,?_,rfl⟩
               ·have:i≠a.id:=by rintro rfl;rw [lS]at ac;cases ac
                simp [Map.add,this,lS u]
               ·simp only [aK];refine⟨_,dk,rfl,Nat.le_refl _,yS,.inl ⟨a6,I,by rw [oq];exact Map.yO _ _ _ _,jK,.inr ⟨eS,rfl,oh⟩,fun h=> ?_⟩⟩;rw [g5,Jf]at h;cases h
               ·exact vq _ (g8.base (g6 eR)) _ _ dC
            ·
              have eK:aK ak (.slice (some a) len cap) (.slice (some fI) len dk):=by simp only [aK];exact⟨fI,dk,rfl,eC,ci,.inl ⟨a6,I,by rw [oq];exact ac,jK,j3,hex⟩⟩
              have hold:eW cR.size (.slice (some a) len cap) h=some ((b.bi.drop a.idx).take len):=by
               simp only [eW,a6,pj,if_true,av];split
               ·rename_i bm;simp [bm]
               ·rw [if_pos];rw [oq];simp [J.cE];omega
              obtain⟨olds,nr,y8,y9⟩:=y6 (P:=P) (fT:=t) r eK hold lO (.inl ⟨e,hu⟩);have RV:(b.bi.drop a.idx).take len=b.bi.drop a.idx:=List.take_of_length_le (by simp;omega);rw [RV]at y8 y9 nr;have r6:(b.bi.drop a.idx).length=len:=by simp;omega
              rw [r6,fc]at nr;have ah:=grow (some fI) dk olds nr.cellsD (by omega);have gh:=grownCap_ge w (len+new.length) dk e;have lc:(olds++news).length=(len+new.length)*ea.size:=by rw [List.length_append,src.newsLen,nr.newsLen,Nat.add_mul]
              obtain⟨dK,dL⟩:=C1 (cd:=olds++news) (lh:=fH.cells) (n:=len+new.length) (c:=grownCap w (len+new.length) dk e) (es:=ea.size) lc C2 gh;have Jg:b.es=ea.size:=by omega
              have r4:(b.bi.drop a.idx++new).length*b.es=(len+new.length)*ea.size:=by rw [List.length_append,r6,Jg]
              have jH:ak a.id (b.R+1)=none:=by
               cases aC:ak a.id (b.R+1)with
               |none=>rfl
               |some q=>obtain⟨_,iV,ae,bg,_⟩:=r.dB _ _ _ aC;rw [av]at ae;simp at ae;subst ae;omega
              refine⟨_,_,ak.add a.id (b.R+1) ⟨w.heap.size,0,a.idx,b.es,grownCap w (len+new.length) dk e,false,false⟩,ah,⟨ak.rU _ jH,fun i al bZ lS u=> ?_,ak.Ct _ rfl⟩,?_,?_,C3.alloc (by simpa using jL) _,rfl⟩
              ·have:i≠a.id:=by rintro rfl;rw [lS]at ac;cases ac
               simp [Map.add,this,lS u]
              ·simp only [aK];refine⟨_,_,rfl,Nat.le_refl _,gh,.inl ⟨a6,_,by rw [oq];exact Map.yO _ _ _ _,by rw [←g4,jK],.inr ⟨Nat.le_refl _,by simp [Place.at],by simp⟩,by simp⟩⟩
              ·refine(r.alike (Alike.vB w)).QW ac av eR Jf (by simpa using jL) (by omega) (fun e he=>by rw [y9 e he];omega) (fun e he=>by rw [fC e he];omega) ?_ (by rw [dK,Jg];exact Nat.le_refl _) (by rw [List.length_append,r6];exact gh) ?_ (fun q h=>by rcases kJ with kJ|kJ<;>rw [kJ]at h<;>cases h;exact⟨rfl,fun h=>absurd rfl h⟩)
               ·rw [r4,dL,Je];exact y8.append po
               ·rw [r4,dL];intro y bY;rcases List.mem_append.1 bY with bY|bY
                ·exact nr.one y bY
                ·exact src.one y bY
           ·cases ai
        ·cases ai
       ·cases ai
     ·cases ai
    ·cases ai
   ·cases ai
  ·cases ai
 ·cases ai
end
end
end Go.cH
namespace Go.cH
noncomputable section
open Go.RowKit
section
variable {P:Program}{ak:Map}
theorem Jh:∀{l:List o}{s:List UInt8}{news:List Value},bytesOf l=some s→bG ak (flat l) news→ ∃bL:List Int,news=bL.map (Value.int .u8)∧s=bL.map (fun n=>UInt8.ofNat n.toNat)
 |[],s,news,h,k=>by simp only [bytesOf,Option.some.injEq]at h;subst h;simp only [flat,List.flatMap_nil,bG]at k;subst k;exact⟨[],rfl,rfl⟩
 |a ::r,s,news,h,k=>by
  unfold bytesOf at h;split at h
  ·rename_i bm;cases bm
  ·rename_i n fG e;simp only [List.cons.injEq]at e;obtain⟨rfl,rfl⟩:=e;cases av:bytesOf r with
   |none=>rw [av]at h;cases h
   |some q =>
    rw [av]at h;simp only [Option.map_some,Option.some.injEq]at h;subst h;simp only [flat,List.flatMap_cons,o.cells,List.cons_append,List.nil_append,bG]at k;obtain⟨v,t,rfl,aL,aQ⟩:=k;simp only [aK]at aL;subst aL;obtain⟨bL,bu,bC⟩:=Jh av aQ;exact⟨n::bL,by rw [bu];rfl,by rw [bC];rfl⟩
  ·cases h
theorem Ji:∀{l:List o}{s:List UInt8}{news:List Value},bytesOf l=some s→rP l=true→bG ak (flat l) news→news=s.map fun x=>Value.int .u8 x.toNat
 |[],s,news,h,av,k=>by simp only [bytesOf,Option.some.injEq]at h;subst h;simp only [flat,List.flatMap_nil,bG]at k;subst k;rfl
 |a ::r,s,news,h,av,k=>by
  unfold bytesOf at h;split at h
  ·rename_i bm;cases bm
  ·rename_i n fG e;simp only [List.cons.injEq]at e;obtain⟨rfl,rfl⟩:=e;cases aC:bytesOf r with
   |none=>rw [aC]at h;cases h
   |some q =>
    rw [aC]at h;simp only [Option.map_some,Option.some.injEq]at h;subst h;simp only [rP,Bool.and_eq_true,decide_eq_true_eq]at av;simp only [flat,List.flatMap_cons,o.cells,List.cons_append,List.nil_append,bG]at k;obtain⟨v,t,rfl,aL,aQ⟩:=k;simp only [aK]at aL;subst aL;rw [Ji aC av.2 aQ,List.map_cons]
    have:((UInt8.ofNat n.toNat).toNat:Int)=n:=by rw [UInt8.toNat_ofNat',Nat.mod_eq_of_lt (by omega)];omega
    rw [this]
  ·cases h
theorem y'(w:World)(a:Addr){n:Nat}(aM:n≠0)(k:Nat):(w.freeze a n).heap[k]? =if a.block=k then(w.heap[k]?).map fun U=>match U with
 |.cells c elem (a7,al)=> .cells c elem (if a7 == al then(a.off,a.off+n)else(min a7 a.off,max al (a.off+n)))
 |U=>U else w.heap[k]? :=by
 unfold World.freeze;rw [if_neg aM];simp only [Array.getElem?_modify];rfl
theorem za(w:World)(a x:Addr){n:Nat}(aM:n≠0):(w.freeze a n).cell? x=w.cell? x:=by
 unfold World.cell?;rw [y' w a aM];by_cases h:a.block=x.block
 ·rw [if_pos h];cases bQ:w.heap[x.block]? with
  |none=>rfl
  |some U =>
   cases U;case cells c t f=>obtain⟨a7,al⟩:=f;rfl
   all_goals rfl
 ·rw [if_neg h]
theorem RW{w:World}{a:Addr}{m:Nat}(hm:m≠0){k:Nat}{t:TypeId}{n a7 al:Nat}(h:fz w k=some (t,n,a7,al)):∃a7 al,fz (w.freeze a m) k=some (t,n,a7,al):=by
 unfold fz at h⊢;rw [y' w a hm];by_cases e:a.block=k
 ·rw [if_pos e];cases bQ:w.heap[k]? with
  |none=>rw [bQ]at h;cases h
  |some U =>
   rw [bQ]at h;cases U
   case cells c fu f =>
    obtain⟨h6,fS⟩:=f;simp only [Option.some.injEq,Prod.mk.injEq]at h;obtain⟨rfl,rfl,rfl,rfl⟩:=h;simp only [Option.map_some];by_cases aB:h6=fS
    ·exact⟨a.off,a.off+m,by simp [aB]⟩
    ·exact⟨min h6 a.off,max fS (a.off+m),by simp [aB]⟩
   all_goals cases h
 ·rw [if_neg e];exact⟨a7,al,h⟩
theorem C6(w:World)(a:Addr)(n:Nat):(w.freeze a n).heap.size=w.heap.size:=by unfold World.freeze;split<;>simp
theorem c2.RX{bd:Nat→Prop}{h:j}{w:World}(r:c2 ak bd h w){id v:Nat}{I:Place}{b:J}(ac:ak id v=some I)(av:h.get id=some b)(eR:b.ro=false){a:Addr}(aS:a.block=I.ck){n:Nat}(aM:n≠0) :
 c2 ak bd (h.set id {b with ro:=true}) (w.freeze a n) where
 dB i u q aC:=by
  obtain⟨p,c,ae,bg,bO,bJ,du,cI,cr⟩:=r.dB i u q aC;by_cases e:id=i
  ·subst e;rw [av]at ae;simp at ae;subst ae;refine⟨p,_,j.gG _ _ _,bg,bO,bJ,nofun,cI,⟨by rw [C6];exact cr.ck,cr.base,fun U ai=>by rw [za w a _ aM];exact cr.cells U ai,nofun,nofun,fun t9 fB=> ?_,fun i e g1 g2 g3=> ?_⟩⟩
   ·obtain⟨r7,C7,i9,C8,C9,C'⟩:=cr.jp t9 fB;obtain⟨li,i8,vF⟩:=RW (a:=a) aM C8;exact⟨r7,li,i8,vF,C9,C'⟩
   ·obtain⟨dK,dL,gd⟩:=cr.cont i e g1 g2 g3
    exact⟨dK,dL,fun C bS af=>by
     obtain⟨x,pn,r5⟩:=gd C bS af
     exact⟨x,by rw [za w a _ aM];exact pn,r5⟩⟩
  ·obtain⟨_,iV,g2,_,_,_,g6,_,_⟩:=r.dB id v I ac;rw [av]at g2;simp at g2;subst g2
   have bZ:I.ck≠q.ck:=fun k=>by have:=(r.apart id v I i u q ac aC k e).1;rw [g6 eR]at this;cases this
   have vG:(w.freeze a n).heap[q.ck]? =w.heap[q.ck]? :=by rw [y' w a aM,if_neg (by rw [aS];exact bZ)]
   refine⟨p,c,by rw [j.e1 _ _ e];exact ae,bg,bO,bJ,du,cI,⟨by rw [C6];exact cr.ck,cr.base,fun U ai=>by rw [za w a _ aM];exact cr.cells U ai,fun be U ai=> ?_,fun be=>(cr.mark be).of_eq (rT vG),fun t9 fB=>by rw [rT vG];exact cr.jp t9 fB,fun i e g1 g2 g3=> ?_⟩⟩
   ·have:=cr.free be U ai;unfold World.frozen? at this⊢;rw [vG];exact this
   ·obtain⟨dK,dL,gd⟩:=cr.cont i e g1 g2 g3
    exact⟨dK,dL,fun C bS af=>by
     obtain⟨x,pn,r5⟩:=gd C bS af
     exact⟨x,by rw [za w a _ aM];exact pn,r5⟩⟩
 apart:=r.apart
 same:=r.same
theorem Safe.RY{S:Nat→Prop}{a w:World}(h:Safe S a w){I:Addr}(ac:¬S I.block){n:Nat}(aM:n≠0):Safe S a (w.freeze I n) :=
 h.trans ⟨by unfold World.freeze;rw [if_neg aM],by unfold World.freeze;rw [if_neg aM],by unfold World.freeze;rw [if_neg aM],by rw [C6];exact Nat.le_refl _,fun k ao=>by
  have bZ:¬I.block=k:=fun e=>ac (by rw [e];exact ao)
  rw [y' w I aM,if_neg bZ]⟩
theorem RZ{w:World}{k:Nat}{t:TypeId}{n a7 al:Nat}(h:fz w k=some (t,n,a7,al)):w.shape? k=some (t,n):=by
 unfold fz at h;unfold World.shape?;cases bQ:w.heap[k]? with
 |none=>rw [bQ]at h;cases h
 |some U =>
  rw [bQ]at h;cases U
  case cells c fu f =>
   obtain⟨h6,fS⟩:=f;simp only [Option.some.injEq,Prod.mk.injEq]at h;obtain⟨rfl,rfl,rfl,rfl⟩:=h;rfl
  all_goals cases h
theorem R0{w:World}{k:Nat}{t:TypeId}{n a7 al U:Nat}(h:fz w k=some (t,n,a7,al))(ar:(w.cell? ⟨k,U,none⟩).isSome=true):U<n:=by
 unfold fz at h;unfold World.cell? at ar;cases bQ:w.heap[k]? with
 |none=>rw [bQ]at h;cases h
 |some Da =>
  simp only at ar;rw [bQ]at h ar;cases Da
  case cells c fu f =>
   obtain⟨h6,fS⟩:=f;simp only [Option.some.injEq,Prod.mk.injEq]at h;obtain⟨rfl,rfl,rfl,rfl⟩:=h;simp only [Option.isSome_none,Bool.false_eq_true,if_false]at ar;rcases Nat.lt_or_ge U c.size with h|h
   ·exact h
   ·rw [Array.getElem?_eq_none h]at ar;cases ar
  all_goals cases h
theorem R1{e6:Array TypeId}{an:TypeId}{x v:o}{bS:Value}(af:aK ak x bS)(h:Co x=some v)(w:World) :
 ∃bp,(Builtin.unsafeSliceData_ e6 an #[bS]).run P w=.ok bp w∧aK ak v bp:=by
 unfold Co at h;split at h
 ·simp only [Option.some.injEq]at h;subst h;simp only [aK]at af;obtain⟨rfl,_,_⟩:=af;exact⟨.pointer none,rfl,by simp only [aK]⟩
 ·rename_i a n c;split at h
  ·rename_i ar;simp only [Option.some.injEq]at h;subst h;simp only [aK]at af;obtain⟨fI,dk,rfl,eC,ci,iC⟩:=af;obtain⟨I,ac,jK,j3,hex⟩:=iC.plain ar.1;rcases j3 with eO|⟨eS,rfl,oh⟩
   ·omega
   ·have ou:dk≠0:=by omega
    refine⟨.pointer (some (I.at a.idx 0)),?_,?_⟩
    ·have r8:Builtin.unsafeSliceData_ e6 an #[.slice (some (I.at a.idx 0)) n dk] =
      (do
       if dk≠0 then pure (.pointer (some (I.at a.idx 0)))
       else if(←viewAt (I.at a.idx 0).block).isSome then pure (.pointer (some (I.at a.idx 0)))
       else pure (.pointer (some ⟨←newObj (.view (I.at a.idx 0) (←elemOf an)),0,none⟩))):=rfl
     rw [r8,if_pos ou];rfl
    ·simp only [aK];exact⟨_,rfl,I,ac,jK,eS,by rw [ar.1]⟩
  ·cases h
 ·cases h
theorem R2{D:dI}(b5:D.dr P){bd:Nat→Prop}{h aa:j}{bo w:World}(r:c2 ak bd h w)(dC:Safe bd bo w){e6:Array TypeId}{t an:TypeId}(b7:e6[0]? =some t){I:Option bH}{n:Int}{bS:Value}(af:aK ak (.ptr I) bS){v:o}
 (ai:Cm D t I n h=some (v,aa)) :
 ∃bp bA,(Builtin.unsafeString_ e6 an #[bS,.int .i64 n]).run P w=.ok bp bA∧aK ak v bp∧c2 ak bd aa bA∧Safe bd bo bA∧aa.next=h.next:=by
 have r8:∀(e6:Array TypeId) q,Builtin.unsafeString_ e6 an #[.pointer q,.int .i64 n]=(do
  let n ←asInt (.int .i64 n)
  let some Cn:=e6[0]? | stuck "unsafe.String: no argument types"
  if n<0 then runtimePanic (.error "unsafe.String: len out of range")
  if n>IntKind.i64.max then unsupported (.unsafePointer "String: a length above the largest int")
  match q with
  |none =>
   if n=0 then pure (.string .empty)
   else runtimePanic (.error "unsafe.String: ptr is nil and len is not zero")
  |some a =>
   if n=0 then pure (.string .empty)
   else if ←variablesAt a (←elemOf Cn) n.toNat then do
    let s ←loadBytes a .empty n.toNat
    freeze a n.toNat
    pure (.string s)
   else unsupported (.unsafePointer "String: not so many bytes at ptr")):=fun _ _=>rfl
 have Jj:∀q,(Builtin.unsafeString_ e6 an #[.pointer q,.int .i64 n]).run P w=(Builtin.unsafeString_ #[t,t] an #[.pointer q,.int .i64 n]).run P w:=fun q=>by
  have e:e6[0]? =(#[t,t]:Array TypeId)[0]? :=by rw [b7];rfl
  rw [r8,r8,e]
 unfold Cm at ai;split at ai
 ·rename_i bm;subst bm;simp only [Option.some.injEq,Prod.mk.injEq]at ai;obtain⟨rfl,rfl⟩:=ai
  obtain⟨q,rfl⟩:∃q,bS=.pointer q:=by
   cases I with
   |none=>simp only [aK]at af;exact⟨_,af⟩
   |some a=>simp only [aK]at af;obtain⟨x,rfl,_⟩:=af;exact⟨_,rfl⟩
  refine⟨_,w,by rw [Jj];exact Go.Lib.run_unsafeString_none w _ _ _ q,?_,r,dC,rfl⟩;simp only [aK];exact⟨_,rfl,rfl⟩
 ·rename_i bm;split at ai
  ·rename_i d a aD;obtain⟨Db,Dc,Dd,qA,qB, -⟩:=b5.get aD;split at ai
   ·rename_i e b ao av;rw [qB]at ao;have:=yT ao;subst this;split at ai
    ·rename_i gW pg;obtain⟨yW,qu,oj,ph,lg,cs, -⟩:=b5.get pg;split at ai
     ·rename_i ar;obtain⟨dJ,ef,fR,kP,lT,kp,pq,mq,vH,zb,Jk⟩:=ar;cases De:bytesOf (b.bi.take n.toNat)with
      |none=>rw [De]at ai;cases ai
      |some s =>
       rw [De]at ai;simp only [Option.map_some,Option.some.injEq,Prod.mk.injEq]at ai;obtain⟨rfl,rfl⟩:=ai;simp only [aK]at af;obtain⟨x,rfl,pl,ac,lR,eS,rfl⟩:=af;obtain⟨g1,iV,g2,g3,g4,g5,g6,g7,g8⟩:=r.dB _ _ _ ac;rw [av]at g2;simp at g2;subst g2;obtain⟨m,a7,al,aL,aQ,bq⟩:=g8.jp _ pq;obtain⟨news,a1,aP,fi,iD,hn⟩:=r.C0 ac av (idx:=0) (len:=n.toNat) (by omega) (by omega) (by omega);rw [List.drop_zero]at a1;have Jl:=Ji De Jk a1;have R3:pl.es=1:=by omega
       have zc:s.length=n.toNat:=by have:=hn;rw [Jl,List.length_map,R3,Nat.mul_one]at this;exact this
       have R4:pl.at a.idx a.bP=⟨pl.ck,0,none⟩:=by simp [Place.at,fR,kP,bq]
       have nm:∀C x,s[C]? =some x→w.cell? ((⟨pl.ck,0,none⟩:Addr).add C)=some (.int .u8 x.toNat):=by intro C x aX;have aM:=aP C (.int .u8 x.toNat) (by rw [Jl,List.getElem?_map,aX];rfl);rw [Addr.add_mid,Nat.zero_add];simpa [bq]using aM
       have Df:s≠[]:=by rintro rfl;simp at zc;omega
       have hle:s.length≤m:=by
        have cM:s.length-1<s.length:=by have:=List.length_pos_iff.2 Df;omega
        have Jm:=nm (s.length-1) _ (List.getElem?_eq_getElem cM);rw [Addr.add_mid,Nat.zero_add]at Jm;have:=R0 aL (U:=s.length-1) (by rw [Jm];rfl);omega
       have pi:P.cellsOf e=1:=by unfold Program.cellsOf;rw [oj];simp;omega
       have km:=Go.Lib.run_unsafeString_row (P:=P) w t t an e qA pi pl.ck m (RZ aL) s Df hle (by omega) nm;have lS:(n:Int)=s.length:=by rw [zc];omega
       have nh:s.length≠0:=by simp only [ne_eq,List.length_eq_zero_iff];exact Df
       have dK:c2 ak bd (h.set a.id {b with ro:=true}) (w.freeze ⟨pl.ck,0,none⟩ s.length):=r.RX (a:=⟨pl.ck,0,none⟩) ac av kp rfl nh;have dL:Safe bd bo (w.freeze ⟨pl.ck,0,none⟩ s.length):=Safe.RY dC (I:=⟨pl.ck,0,none⟩) (g8.base (g6 kp)) nh;refine⟨.string ⟨s.toArray⟩,w.freeze ⟨pl.ck,0,none⟩ s.length,?_,?_,dK,dL,rfl⟩
       ·rw [Jj,R4,lS];exact km
       ·simp only [aK];exact⟨_,rfl,by simp⟩
     ·cases ai
    ·cases ai
   ·cases ai
  ·cases ai
end
end
end Go.cH
