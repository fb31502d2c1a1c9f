/-
  Parts of the proof of KeysEach.
-/
import Derived.Calls
import Derived.Orders
import Derived.Lib.Bytealg
import Derived.Below
import Derived.Deep.MidRow
import Derived.WalkKit
import Derived.ChangeKeysEq
import Derived.WalkLawsBesides
import Derived.Deep.AppendSrc
import Derived.Deep.Upon
import Derived.Lib.UnsafeStr
set_option linter.unusedVariables false
set_option linter.unusedSimpArgs false
namespace Go.cM
inductive aU(α:Type) where
 |nil
 |node (v:Option α) (l r:aU α)
section
variable {α:Type}
noncomputable def aU.get(t:aU α):Nat→Option α :=
 aU.rec (motive:=fun _=>Nat→Option α) (fun _=>none)
  (fun v _ _ Rz RA k=>cond (Nat.beq k 0) v (cond (Nat.beq (k%2) 1) (Rz (k/2)) (RA (k/2-1)))) t
noncomputable def aU.h7(f:Nat):Nat→α→aU α :=
 Nat.rec (motive:=fun _=>Nat→α→aU α) (fun _ v=> .node (some v) .nil .nil)
  (fun _ ih k v=>cond (Nat.beq k 0) (.node (some v) .nil .nil) (cond (Nat.beq (k%2) 1) (.node none (ih (k/2) v) .nil) (.node none .nil (ih (k/2-1) v)))) f
noncomputable def aU.set(t:aU α):Nat→α→aU α :=
 aU.rec (motive:=fun _=>Nat→α→aU α) (fun k v=>aU.h7 k k v)
  (fun ab l r pH CI k v=>cond (Nat.beq k 0) (.node (some v) l r) (cond (Nat.beq (k%2) 1) (.node ab (pH (k/2) v) r) (.node ab l (CI (k/2-1) v)))) t
theorem beq_true{a b:Nat}(h:a=b):Nat.beq a b=true:=by subst h;exact Nat.beq_refl a
theorem beq_false{a b:Nat}(h:a≠b):Nat.beq a b=false:=by
 cases au:Nat.beq a b with
 |false=>rfl
 |true=>exact absurd (Nat.eq_of_beq_eq_true au) h
theorem aU.oB(k:Nat):(aU.nil:aU α).get k=none:=rfl
theorem aU.lc(v:Option α)(l r:aU α):(aU.node v l r).get 0=v:=rfl
theorem aU.kN(v:Option α)(l r:aU α)(m:Nat):(aU.node v l r).get (2*m+1)=l.get m:=by show cond (Nat.beq (2*m+1) 0) v (cond (Nat.beq ((2*m+1)%2) 1) (l.get ((2*m+1)/2)) (r.get ((2*m+1)/2-1)))=_;rw [beq_false (by omega),beq_true (by omega),show(2*m+1)/2=m by omega];rfl
theorem aU.kO(v:Option α)(l r:aU α)(m:Nat):(aU.node v l r).get (2*m+2)=r.get m:=by show cond (Nat.beq (2*m+2) 0) v (cond (Nat.beq ((2*m+2)%2) 1) (l.get ((2*m+2)/2)) (r.get ((2*m+2)/2-1)))=_;rw [beq_false (by omega),beq_false (by omega),show(2*m+2)/2-1=m by omega];rfl
theorem aU.r6(f:Nat)(v:α):aU.h7 f 0 v=.node (some v) .nil .nil:=by cases f<;>rfl
theorem aU.y0(f m:Nat)(v:α):aU.h7 (f+1) (2*m+1) v=.node none (aU.h7 f m v) .nil:=by show cond (Nat.beq (2*m+1) 0) (aU.node (some v) .nil .nil) (cond (Nat.beq ((2*m+1)%2) 1) (aU.node none (aU.h7 f ((2*m+1)/2) v) .nil) (aU.node none .nil (aU.h7 f ((2*m+1)/2-1) v)))=_;rw [beq_false (by omega),beq_true (by omega),show(2*m+1)/2=m by omega];rfl
theorem aU.y1(f m:Nat)(v:α):aU.h7 (f+1) (2*m+2) v=.node none .nil (aU.h7 f m v):=by show cond (Nat.beq (2*m+2) 0) (aU.node (some v) .nil .nil) (cond (Nat.beq ((2*m+2)%2) 1) (aU.node none (aU.h7 f ((2*m+2)/2) v) .nil) (aU.node none .nil (aU.h7 f ((2*m+2)/2-1) v)))=_;rw [beq_false (by omega),beq_false (by omega),show(2*m+2)/2-1=m by omega];rfl
theorem aU.set_nil(k:Nat)(v:α):(aU.nil:aU α).set k v=aU.h7 k k v:=rfl
theorem aU.lY(ab:Option α)(l r:aU α)(v:α):(aU.node ab l r).set 0 v=.node (some v) l r:=rfl
theorem aU.jh(ab:Option α)(l r:aU α)(m:Nat)(v:α):(aU.node ab l r).set (2*m+1) v=.node ab (l.set m v) r:=by show cond (Nat.beq (2*m+1) 0) (aU.node (some v) l r) (cond (Nat.beq ((2*m+1)%2) 1) (aU.node ab (l.set ((2*m+1)/2) v) r) (aU.node ab l (r.set ((2*m+1)/2-1) v)))=_;rw [beq_false (by omega),beq_true (by omega),show(2*m+1)/2=m by omega];rfl
theorem aU.ji(ab:Option α)(l r:aU α)(m:Nat)(v:α):(aU.node ab l r).set (2*m+2) v=.node ab l (r.set m v):=by show cond (Nat.beq (2*m+2) 0) (aU.node (some v) l r) (cond (Nat.beq ((2*m+2)%2) 1) (aU.node ab (l.set ((2*m+2)/2) v) r) (aU.node ab l (r.set ((2*m+2)/2-1) v)))=_;rw [beq_false (by omega),beq_false (by omega),show(2*m+2)/2-1=m by omega];rfl
theorem three(k:Nat):k=0∨(∃m,k=2*m+1)∨ ∃m,k=2*m+2:=by
 rcases Nat.eq_zero_or_pos k with h|h
 ·exact .inl h
 ·rcases Nat.mod_two_eq_zero_or_one k with ad|ad
  ·exact .inr (.inr ⟨k/2-1,by omega⟩)
  ·exact .inr (.inl ⟨k/2,by omega⟩)
theorem aU.Jh(v:α):∀(k f g:Nat),k≤f→k≤g→aU.h7 f k v=aU.h7 g k v:=by
 intro k;induction k using Nat.strongRecOn with
 |_ k ih =>
  intro f g a8 ag;rcases three k with rfl|⟨m,rfl⟩|⟨m,rfl⟩
  ·rw [aU.r6,aU.r6]
  ·obtain⟨f,rfl⟩:∃gk,f=gk+1:=⟨f-1,by omega⟩
   obtain⟨g,rfl⟩:∃dv,g=dv+1:=⟨g-1,by omega⟩
   rw [aU.y0,aU.y0,ih m (by omega) f g (by omega) (by omega)]
  ·obtain⟨f,rfl⟩:∃gk,f=gk+1:=⟨f-1,by omega⟩
   obtain⟨g,rfl⟩:∃dv,g=dv+1:=⟨g-1,by omega⟩
   rw [aU.y1,aU.y1,ih m (by omega) f g (by omega) (by omega)]
theorem aU.RB(v:α):∀(k f C:Nat),k≤f→(aU.h7 f k v).get C=if k=C then some v else none:=by
 intro k;induction k using Nat.strongRecOn with
 |_ k ih =>
  intro f C a8;rcases three k with rfl|⟨m,rfl⟩|⟨m,rfl⟩
  ·rw [aU.r6];rcases three C with rfl|⟨i,rfl⟩|⟨i,rfl⟩
   ·rw [aU.lc,if_pos rfl]
   ·rw [aU.kN,aU.oB,if_neg (by omega)]
   ·rw [aU.kO,aU.oB,if_neg (by omega)]
  ·obtain⟨f,rfl⟩:∃gk,f=gk+1:=⟨f-1,by omega⟩
   rw [aU.y0];rcases three C with rfl|⟨i,rfl⟩|⟨i,rfl⟩
   ·rw [aU.lc,if_neg (by omega)]
   ·rw [aU.kN,ih m (by omega) f i (by omega)];by_cases h:m=i
    ·rw [if_pos h,if_pos (by omega)]
    ·rw [if_neg h,if_neg (by omega)]
   ·rw [aU.kO,aU.oB,if_neg (by omega)]
  ·obtain⟨f,rfl⟩:∃gk,f=gk+1:=⟨f-1,by omega⟩
   rw [aU.y1];rcases three C with rfl|⟨i,rfl⟩|⟨i,rfl⟩
   ·rw [aU.lc,if_neg (by omega)]
   ·rw [aU.kN,aU.oB,if_neg (by omega)]
   ·rw [aU.kO,ih m (by omega) f i (by omega)];by_cases h:m=i
    ·rw [if_pos h,if_pos (by omega)]
    ·rw [if_neg h,if_neg (by omega)]
theorem aU.kP(v:α):∀(t:aU α)(k C:Nat),(t.set k v).get C=if k=C then some v else t.get C
 |.nil,k,C=>by rw [aU.set_nil,aU.RB v k k C (Nat.le_refl _),aU.oB]
 |.node ab l r,k,C=>by
  rcases three k with rfl|⟨m,rfl⟩|⟨m,rfl⟩
  ·rw [aU.lY];rcases three C with rfl|⟨i,rfl⟩|⟨i,rfl⟩
   ·rw [aU.lc,if_pos rfl]
   ·rw [aU.kN,aU.kN,if_neg (by omega)]
   ·rw [aU.kO,aU.kO,if_neg (by omega)]
  ·rw [aU.jh];rcases three C with rfl|⟨i,rfl⟩|⟨i,rfl⟩
   ·rw [aU.lc,aU.lc,if_neg (by omega)]
   ·rw [aU.kN,aU.kN,aU.kP v l m i];by_cases h:m=i
    ·rw [if_pos h,if_pos (by omega)]
    ·rw [if_neg h,if_neg (by omega)]
   ·rw [aU.kO,aU.kO,if_neg (by omega)]
  ·rw [aU.ji];rcases three C with rfl|⟨i,rfl⟩|⟨i,rfl⟩
   ·rw [aU.lc,aU.lc,if_neg (by omega)]
   ·rw [aU.kN,aU.kN,if_neg (by omega)]
   ·rw [aU.kO,aU.kO,aU.kP v r m i];by_cases h:m=i
    ·rw [if_pos h,if_pos (by omega)]
    ·rw [if_neg h,if_neg (by omega)]
theorem aU.RC(x y:α):∀(a b:Nat),a≠b→(aU.h7 a a x).set b y=(aU.h7 b b y).set a x:=by
 intro a;induction a using Nat.strongRecOn with
 |_ a ih =>
  intro b r7
  have tI:∀(m:Nat)(v:α),aU.h7 (2*m+1) (2*m+1) v=.node none (aU.h7 m m v) .nil:=fun m v=>by rw [aU.y0,aU.Jh v m (2*m) m (by omega) (Nat.le_refl _)]
  have even:∀(m:Nat)(v:α),aU.h7 (2*m+2) (2*m+2) v=.node none .nil (aU.h7 m m v):=fun m v=>by rw [aU.y1,aU.Jh v m (2*m+1) m (by omega) (Nat.le_refl _)]
  rcases three a with rfl|⟨m,rfl⟩|⟨m,rfl⟩<;>rcases three b with rfl|⟨i,rfl⟩|⟨i,rfl⟩
  ·exact absurd rfl r7
  ·rw [aU.r6,tI,aU.jh,aU.lY,aU.set_nil]
  ·rw [aU.r6,even,aU.ji,aU.lY,aU.set_nil]
  ·rw [aU.r6,tI,aU.jh,aU.lY,aU.set_nil]
  ·rw [tI,tI,aU.jh,aU.jh,ih m (by omega) i (by omega)]
  ·rw [tI,even,aU.jh,aU.ji,aU.set_nil,aU.set_nil]
  ·rw [aU.r6,even,aU.ji,aU.lY,aU.set_nil]
  ·rw [tI,even,aU.jh,aU.ji,aU.set_nil,aU.set_nil]
  ·rw [even,even,aU.ji,aU.ji,ih m (by omega) i (by omega)]
theorem aU.set_comm(x y:α):∀(t:aU α)(a b:Nat),a≠b→(t.set a x).set b y=(t.set b y).set a x
 |.nil,a,b,h=>by rw [aU.set_nil,aU.set_nil,aU.RC x y a b h]
 |.node ab l r,a,b,h=>by
  rcases three a with rfl|⟨m,rfl⟩|⟨m,rfl⟩<;>rcases three b with rfl|⟨i,rfl⟩|⟨i,rfl⟩
  ·exact absurd rfl h
  ·rw [aU.lY,aU.jh,aU.jh,aU.lY]
  ·rw [aU.lY,aU.ji,aU.ji,aU.lY]
  ·rw [aU.lY,aU.jh,aU.jh,aU.lY]
  ·rw [aU.jh,aU.jh,aU.jh,aU.jh,aU.set_comm x y l m i (by omega)]
  ·rw [aU.jh,aU.ji,aU.ji,aU.jh]
  ·rw [aU.ji,aU.lY,aU.lY,aU.ji]
  ·rw [aU.ji,aU.jh,aU.jh,aU.ji]
  ·rw [aU.ji,aU.ji,aU.ji,aU.ji,aU.set_comm x y r m i (by omega)]
def CJ(f:α→α→Bool):Option α→Option α→Bool
 |none,none=>true
 |some a,some b=>f a b
 |_,_=>false
def aU.qF(cO:Nat):aU α→Nat→Nat→Bool
 |.nil,_,_=>true
 |.node v l r,I,s=>(!decide (I<cO) || v.isNone)&&l.qF cO (I+s) (2*s)&&r.qF cO (I+2*s) (2*s)
def aU.nC(f:α→α→Bool)(cO:Nat):aU α→aU α→Nat→Nat→Bool
 |.nil,u,I,s=>u.qF cO I s
 |.node v l r,.nil,I,s=>(aU.node v l r).qF cO I s
 |.node v l r,.node bt c5 fL,I,s=>(!decide (I<cO) || CJ f v bt)&&aU.nC f cO l c5 (I+s) (2*s)&&aU.nC f cO r fL (I+2*s) (2*s)
theorem y2(I s m:Nat):I+s* (2*m+1)=I+s+2*s*m:=by rw [Nat.mul_add,Nat.mul_one,←Nat.mul_assoc,Nat.mul_comm s 2];omega
theorem y3(I s m:Nat):I+s* (2*m+2)=I+2*s+2*s*m:=by rw [Nat.mul_add,←Nat.mul_assoc,Nat.mul_comm s 2];omega
theorem aU.y4(cO:Nat):∀(t:aU α)(I s:Nat),t.qF cO I s=true→ ∀k,I+s*k<cO→t.get k=none
 |.nil,I,s,_,k,_=>rfl
 |.node v l r,I,s,h,k,ap=>by
  simp only [aU.qF,Bool.and_eq_true,Bool.or_eq_true,Bool.not_eq_true',decide_eq_false_iff_not]at h;obtain⟨⟨p,ad⟩,bd⟩:=h;rcases three k with rfl|⟨m,rfl⟩|⟨m,rfl⟩
  ·rw [aU.lc];rcases p with p|p
   ·simp at ap;omega
   ·simpa using p
  ·rw [aU.kN];rw [y2]at ap;exact aU.y4 cO l _ _ ad m ap
  ·rw [aU.kO];rw [y3]at ap;exact aU.y4 cO r _ _ bd m ap
theorem aU.y5(cO:Nat):∀(t:aU α)(I s:Nat),(∀k,I+s*k<cO→t.get k=none)→t.qF cO I s=true
 |.nil,I,s,_=>rfl
 |.node v l r,I,s,h=>by
  simp only [aU.qF,Bool.and_eq_true,Bool.or_eq_true,Bool.not_eq_true',decide_eq_false_iff_not];refine⟨⟨?_,?_⟩,?_⟩
  ·by_cases ac:I<cO
   ·right;have:=h 0 (by simpa using ac);rw [aU.lc]at this;simp [this]
   ·exact .inl ac
  ·exact aU.y5 cO l _ _ fun m hm=>by have:=h (2*m+1) (by rw [y2];exact hm);rwa [aU.kN]at this
  ·exact aU.y5 cO r _ _ fun m hm=>by have:=h (2*m+2) (by rw [y3];exact hm);rwa [aU.kO]at this
theorem aU.CK{f:α→α→Bool}(a8:∀a b,f a b=true→a=b)(cO:Nat):∀(t u:aU α)(I s:Nat),aU.nC f cO t u I s=true→ ∀k,I+s*k<cO→t.get k=u.get k
 |.nil,u,I,s,h,k,ap=>by rw [aU.oB,aU.y4 cO u I s (by simpa [aU.nC]using h) k ap]
 |.node v l r,.nil,I,s,h,k,ap=>by rw [aU.oB,aU.y4 cO _ I s (by simpa [aU.nC]using h) k ap]
 |.node v l r,.node bt c5 fL,I,s,h,k,ap=>by
  simp only [aU.nC,Bool.and_eq_true,Bool.or_eq_true,Bool.not_eq_true',decide_eq_false_iff_not]at h;obtain⟨⟨p,ad⟩,bd⟩:=h;rcases three k with rfl|⟨m,rfl⟩|⟨m,rfl⟩
  ·rw [aU.lc,aU.lc];rcases p with p|p
   ·simp at ap;omega
   ·cases v<;>cases bt<;>simp [CJ]at p<;>first|rfl|(rw [a8 _ _ p])
  ·rw [aU.kN,aU.kN];rw [y2]at ap;exact aU.CK a8 cO l c5 _ _ ad m ap
  ·rw [aU.kO,aU.kO];rw [y3]at ap;exact aU.CK a8 cO r fL _ _ bd m ap
theorem aU.CL{f:α→α→Bool}(a8:∀a,f a a=true)(cO:Nat):∀(t u:aU α)(I s:Nat),(∀k,I+s*k<cO→t.get k=u.get k)→aU.nC f cO t u I s=true
 |.nil,u,I,s,h=>by simp only [aU.nC];exact aU.y5 cO u I s fun k ap=>by rw [←h k ap,aU.oB]
 |.node v l r,.nil,I,s,h=>by simp only [aU.nC];exact aU.y5 cO _ I s fun k ap=>by rw [h k ap,aU.oB]
 |.node v l r,.node bt c5 fL,I,s,h=>by
  simp only [aU.nC,Bool.and_eq_true,Bool.or_eq_true,Bool.not_eq_true',decide_eq_false_iff_not];refine⟨⟨?_,?_⟩,?_⟩
  ·by_cases ac:I<cO
   ·right;have:=h 0 (by simpa using ac);rw [aU.lc,aU.lc]at this;subst this;cases v<;>simp [CJ,a8]
   ·exact .inl ac
  ·exact aU.CL a8 cO l c5 _ _ fun m hm=>by have:=h (2*m+1) (by rw [y2];exact hm);rwa [aU.kN,aU.kN]at this
  ·exact aU.CL a8 cO r fL _ _ fun m hm=>by have:=h (2*m+2) (by rw [y3];exact hm);rwa [aU.kO,aU.kO]at this
end
end Go.cM
namespace Go.cM
noncomputable section
structure bG where
 id:Nat
 J:Nat
 idx:Nat
 bR:Nat
 es:Nat
 deriving DecidableEq
inductive o where
 |undef
 |bool (b:Bool)
 |int (k:IntKind) (n:Int)
 |str (s:List UInt8)
 |ptr (a:Option bG)
 |slice (a:Option bG) (len cap:Nat)
 |func (fn:Fn) (first captured:List o)
 |nilFunc
 |iface (t:TypeId) (v:o)
 |nilIface
 |agg (bp:List o)
 |tuple (ci:List o)
 deriving Inhabited
abbrev gp:o:= .tuple []
def o.cells:o→List o
 |.agg bp=>bp
 |v=> [v]
def gI:Value→o
 |.bool b=> .bool b
 |.int k n=> .int k n
 |.string s=> .str s.data.toList
 |.pointer none=> .ptr none
 |.slice none 0 0=> .slice none 0 0
 |.nilFunc=> .nilFunc
 |.nilIface=> .nilIface
 |_=> .undef
def qG:Value→o
 |.agg bp=> .agg (bp.toList.map gI)
 |.iface t v=> .iface t (gI v)
 |v=>gI v
inductive kh where
 |int (k:IntKind)|bool|string|ptr (e:TypeId)|slice (e:TypeId)|array (n:Nat) (e:TypeId)
 |struct (b4:List (Nat×TypeId))|func|iface (own:Bool)|other
 deriving Inhabited
structure qH where
 kind:kh
 size:Nat
 bytes:Nat
 zero:Option o
 deriving Inhabited
def kh.isAgg:kh→Bool
 |.struct _|.array _ _=>true
 |_=>false
def hb:TypeDesc→kh
 |.int k=> .int k
 |.bool=> .bool
 |.string=> .string
 |.pointer e=> .ptr e
 |.slice e=> .slice e
 |.array n e=> .array n e
 |.struct b4=> .struct (b4.toList.map fun f=>(f.offset,f.type))
 |.func _ _ _=> .func
 |.interface y6=> .iface (!y6.isEmpty)
 |_=> .other
def y7(P:Program)(t:TypeId):Option qH :=
 match P.info? t,P.underlying t with
 |some i,some d=>some {kind:=hb d,size:=i.size,bytes:=i.bytes,zero:=i.zero.map qG}
 |_,_=>none
abbrev dL:=TypeId→Option qH
def dL.dw(D:dL)(P:Program):Prop:= ∀t d,D t=some d→y7 P t=some d
structure R where
 bi:List o
 es:Nat
 exact:Bool
 ro:Bool
 J:Nat
 fX:Nat
 gQ:Nat
 aq:Option (TypeId×Nat)
 deriving Inhabited
structure j where
 next:Nat
 aJ:aU R
def j.get(h:j)(id:Nat):Option R:=h.aJ.get id
def j.set(h:j)(id:Nat)(b:R):j:= {h with aJ:=h.aJ.set id b}
def R.cO(b:R)(J:Nat):Nat :=
 if J=b.J then b.bi.length else if b.fX≤J∧J<b.J then b.gQ else 0
def R.elem?(b:R)(J idx:Nat):Option o :=
 if idx<b.cO J then b.bi[idx]? else none
def R.made(bi:List o)(es:Nat)(exact:Bool)(aq:Option (TypeId×Nat):=none):R :=
 {bi,es,exact,ro:=false,J:=0,fX:=0,gQ:=0,aq}
def R.grow(b:R)(new:List o):R :=
 {b with bi:=b.bi++new,J:=b.J+1,gQ:=if b.fX=b.J then b.bi.length else min b.gQ b.bi.length}
def jC(l:List o)(i:Nat):List o→List o
 |[]=>l
 |v::ci=>jC (l.set i v) (i+1) ci
def R.put(b:R)(idx:Nat)(ci:List o):R :=
 {b with bi:=jC b.bi idx ci,fX:=b.J}
def iD(hI:Bool)(size bR:Nat)(e:o):Option o :=
 if hI then
  match e with
  |.agg bp=>if bR=0∧size=bp.length then some (.agg bp)else if bR+size≤bp.length then some (.agg ((bp.drop bR).take size))else none
  |_=>none
 else
  match e with
  |.agg bp=>bp[bR]?
  |_=>if bR=0 then some e else none
def cj(D:dL)(t:TypeId)(a:bG)(h:j):Option o :=
 match D t,h.get a.id with
 |some d,some b =>
  match b.elem? a.J a.idx with
  |some e=>iD d.kind.isAgg d.size a.bR e
  |none=>none
 |_,_=>none
def o.j4:o→Bool
 |.agg _|.tuple _|.undef=>false
 |_=>true
def vJ(bR:Nat)(v:o)(e:o):Option o :=
 match e with
 |.agg bp=>if bR+v.cells.length≤bp.length then some (.agg (jC bp bR v.cells))else none
 |_=>if bR=0∧v.j4 then some v else none
def o.fits(v:o)(hI:Bool)(size:Nat):Bool :=
 match v with
 |.agg bp=>hI&&bp.length == size&&bp.all (·.j4)
 |.tuple _=>false
 |.undef=>false
 |_=> !hI&&size == 1
def ki(D:dL)(t:TypeId)(a:bG)(v:o)(h:j):Option j :=
 match D t,h.get a.id with
 |some d,some b =>
  if v.fits d.kind.isAgg d.size&&!b.ro&&a.J == b.J then
   match b.bi[a.idx]? with
   |some e =>
    match vJ a.bR v e with
    |some dT=>some (h.set a.id {b with bi:=b.bi.set a.idx dT,fX:=b.J})
    |none=>none
   |none=>none
  else none
 |_,_=>none
def kj(op:BinOp)(k:IntKind)(x y:Int):Option o :=
 match op with
 |.add=>some (.int k (k.wrap (x+y)))
 |.sub=>some (.int k (k.wrap (x-y)))
 |.mul=>some (.int k (k.wrap (x*y)))
 |.quo=>if y=0 then none else some (.int k (k.wrap (x.tdiv y)))
 |.rem=>if y=0 then none else some (.int k (x.tmod y))
 |.and=>some (.int k (k.wrap (BitVec.ofInt k.bits x &&& BitVec.ofInt k.bits y).toNat))
 |.or=>some (.int k (k.wrap (BitVec.ofInt k.bits x ||| BitVec.ofInt k.bits y).toNat))
 |.xor=>some (.int k (k.wrap (BitVec.ofInt k.bits x ^^^ BitVec.ofInt k.bits y).toNat))
 |.andNot=>some (.int k (k.wrap (BitVec.ofInt k.bits x &&& ~~~(BitVec.ofInt k.bits y)).toNat))
 |.eql=>some (.bool (x == y))
 |.neq=>some (.bool (x != y))
 |.lss=>some (.bool (decide (x<y)))
 |.leq=>some (.bool (decide (x≤y)))
 |.gtr=>some (.bool (decide (x>y)))
 |.geq=>some (.bool (decide (x≥y)))
 |_=>none
def vK(op:BinOp)(k:IntKind)(x y:Int):Option o :=
 if y<0 then none else
 match op with
 |.shl=>some (.int k (k.wrap (x*2^(min y.toNat k.bits))))
 |.shr=>some (.int k (x.fdiv (2^(min y.toNat k.bits))))
 |_=>none
def vL(op:BinOp)(x y:List UInt8):Option o :=
 match op with
 |.add=>if x.length+y.length<2^62 then some (.str (x++y))else none
 |.eql=>some (.bool (x == y))
 |.neq=>some (.bool (!(x == y)))
 |.lss=>some (.bool (Op.bytesLess x y))
 |.leq=>some (.bool (Op.bytesLess x y || x == y))
 |.gtr=>some (.bool (!(Op.bytesLess x y || x == y)))
 |.geq=>some (.bool (!Op.bytesLess x y))
 |_=>none
def y8(k:kh)(a b:o):Option Bool :=
 match k,a,b with
 |.int _,.int k a,.int fy b=>if k=fy then some (a == b)else none
 |.bool,.bool a,.bool b=>some (a == b)
 |.string,.str a,.str b=>some (a == b)
 |_,_,_=>none
def r8(D:dL):List (Nat×TypeId)→List o→List o→Option Bool
 |[],[],[]=>some true
 |(_,t)::b4,a::x,b::y =>
  match D t with
  |some d =>
   match y8 d.kind a b,r8 D b4 x y with
   |some I,some q=>some (I&&q)
   |_,_=>none
  |none=>none
 |_,_,_=>none
def tJ(k:kh):List o→List o→Option Bool
 |[],[]=>some true
 |a::x,b::y =>
  match y8 k a b,tJ k x y with
  |some I,some q=>some (I&&q)
  |_,_=>none
 |_,_=>none
def qI(D:dL)(ho:TypeId→Bool)(lit:Bool)(t:TypeId)(x y:o):Option Bool :=
 match D t with
 |none=>none
 |some d =>
  match d.kind,x,y with
  |.bool,.bool a,.bool b=>some (a == b)
  |.ptr _,.ptr none,.ptr none=>some true
  |.ptr _,.ptr none,.ptr (some _)=>some false
  |.ptr _,.ptr (some _),.ptr none=>some false
  |.slice _,.slice none _ _,.slice none _ _=>some true
  |.slice _,.slice none _ _,.slice (some _) _ _=>some false
  |.slice _,.slice (some _) _ _,.slice none _ _=>some false
  |.func,.nilFunc,.nilFunc=>some true
  |.func,.nilFunc,.func _ _ _=>some false
  |.func,.func _ _ _,.nilFunc=>some false
  |.iface _,.nilIface,.nilIface=>if lit then some true else none
  |.iface _,.nilIface,.iface _ _=>some false
  |.iface _,.iface _ _,.nilIface=>some false
  |.struct b4,.agg x,.agg y=>if ho t then r8 D b4 x y else none
  |.array n e,.agg x,.agg y =>
   if ho t then
    match D e with
    |some hc=>if hc.size=1∧x.length=n then tJ hc.kind x y else none
    |none=>none
   else none
  |_,_,_=>none
def ld(D:dL)(ho:TypeId→Bool)(lit:Bool)(op:BinOp)(t:TypeId)(x y:o):Option o :=
 match x,y with
 |.int k a,.int fy b =>
  match op with
  |.shl|.shr=>vK op k a b
  |_=>if k=fy then kj op k a b else none
 |.str a,.str b=>vL op a b
 |_,_ =>
  match op with
  |.eql=>(qI D ho lit t x y).map fun b=> .bool b
  |.neq=>(qI D ho lit t x y).map fun b=> .bool (!b)
  |_=>none
def vM(op:UnOp)(x:o):Option o :=
 match op,x with
 |.neg,.int k n=>some (.int k (k.wrap (0-n)))
 |.not,.bool b=>some (.bool (!b))
 |.xor,.int k n=>kj .xor k (if k.signed then-1 else k.max) n
 |_,_=>none
def y9:o→o→Option o
 |.int k x,.int fy y=>if k=fy then some (.int k (if y>x then y else x))else none
 |_,_=>none
def y':o→o→Option o
 |.int k x,.int fy y=>if k=fy then some (.int k (if y<x then y else x))else none
 |_,_=>none
def qJ(f:o→o→Option o):o→List o→Option o
 |x,[]=>some x
 |x,y::r =>
  match f x y with
  |some z=>qJ f z r
  |none=>none
def o.known:o→Bool
 |.undef=>false
 |_=>true
def tK(place:Nat→Option (Nat×Nat))(cells:List o):List (Nat×o)→Option (List o)
 |[]=>some cells
 |(i,v)::rest =>
  match place i with
  |none=>none
  |some (off,size) =>
   if v.cells.length=size∧off+size≤cells.length∧v.known=true then tK place (jC cells off v.cells) rest else none
def Ji(D:dL)(b4:List (Nat×TypeId)):Bool:=b4.all fun f=>(D f.2).isSome
def CM(D:dL)(t:TypeId)(parts:List (Nat×o)):Option o :=
 match D t with
 |some d =>
  match d.kind,d.zero with
  |.struct b4,some z =>
   if z.known=true∧Ji D b4=true then
    (tK (fun i=>match b4[i]? with|some (off,qK)=>(D qK).map fun x=>(off,x.size)|none=>none) z.cells parts).map .agg
   else none
  |.array _ e,some z =>
   match D e with
   |some x=>if z.known=true then(tK (fun i=>some (i*x.size,x.size)) z.cells parts).map .agg else none
   |none=>none
  |_,_=>none
 |none=>none
def nD(l:List o):List (Nat×o)→Option (List o)
 |[]=>some l
 |(i,v)::rest=>if i<l.length then nD (l.set i v) rest else none
def j5(bh es len cap:Nat):o:= .slice (some ⟨bh,0,0,0,es⟩) len cap
def oC(D:dL)(t:TypeId)(len:Nat)(parts:List (Nat×o))(bh:Nat)(h:j):Option (o×j) :=
 match D t with
 |some d =>
  match d.kind with
  |.slice e =>
   match D e with
   |some x =>
    match x.zero with
    |some z =>
     if len*x.size≤2^24∧0<x.size∧z.fits x.kind.isAgg x.size∧(parts.all fun I=>I.2.fits x.kind.isAgg x.size)then
      match nD (List.replicate len z) parts with
      |some l=>some (j5 bh x.size len len,h.set bh (.made l x.size true))
      |none=>none
     else none
    |none=>none
   |none=>none
  |_=>none
 |none=>none
def vN(D:dL)(t:TypeId)(len cap:o)(bh:Nat)(h:j):Option (o×j) :=
 match D t,len,cap with
 |some d, .int _ l,.int _ c =>
  match d.kind with
  |.slice e =>
   match D e with
   |some x =>
    match x.zero with
    |some z =>
     if 0≤l∧l≤c∧c<2^62∧x.bytes*c≤2^48∧0<x.size∧z.fits x.kind.isAgg x.size then
      some (j5 bh x.size l.toNat c.toNat,h.set bh (.made (List.replicate c.toNat z) x.size true))
     else none
    |none=>none
   |none=>none
  |_=>none
 |_,_,_=>none
def hd(v:Option o)(CN vO:Nat):Option Nat :=
 match v with
 |none=>some CN
 |some (.int _ i)=>if 0≤i∧i≤vO then some i.toNat else none
 |_=>none
def kk(D:dL)(t:TypeId)(x:o)(a1 ak fR:Option o):Option o :=
 match D t,x with
 |some d, .slice a len cap =>
  match d.kind with
  |.slice e =>
   match D e,hd fR cap cap with
   |some cT,some m =>
    match hd ak len m with
    |some bW =>
     match hd a1 0 bW with
     |some l =>
      if fR.isSome∧ak.isNone then none else
      match a with
      |none=>some (.slice none (bW-l) (m-l))
      |some a=>if a.es=cT.size∧a.bR=0 then some (.slice (some {a with idx:=a.idx+l}) (bW-l) (m-l))else none
     |none=>none
    |none=>none
   |_,_=>none
  |_=>none
 |some d,.ptr (some a) =>
  match d.kind with
  |.array n e =>
   match D e with
   |some cT =>
    if fR.isSome then none else
    match hd ak n n with
    |some bW =>
     match hd a1 0 bW with
     |some l=>if l<n∧cT.size=1 then some (.slice (some {a with bR:=a.bR+l+1}) (bW-l) (n-l))else none
     |none=>none
    |none=>none
   |none=>none
  |_=>none
 |some d,.str s =>
  match d.kind with
  |.string =>
   if fR.isSome then none else
   match hd ak s.length s.length with
   |some bW =>
    match hd a1 0 bW with
    |some l=>some (.str ((s.take bW).drop l))
    |none=>none
   |none=>none
  |_=>none
 |_,_=>none
def r9(D:dL)(t:TypeId)(x i:o):Option o :=
 match D t,x,i with
 |some d,.slice (some a) len _,.int _ i =>
  match d.kind with
  |.slice e =>
   match D e with
   |some cT =>
    if 0≤i∧i<len∧a.es=cT.size∧a.bR=0 then some (.ptr (some {a with idx:=a.idx+i.toNat}))
    else if 0≤i∧i<len∧0<a.bR∧cT.size=1 then some (.ptr (some {a with bR:=a.bR-1+i.toNat}))
    else none
   |none=>none
  |_=>none
 |some d,.ptr (some a),.int _ i =>
  match d.kind with
  |.array n e =>
   match D e with
   |some cT=>if 0≤i∧i<n then some (.ptr (some {a with bR:=a.bR+i.toNat*cT.size}))else none
   |none=>none
  |_=>none
 |_,_,_=>none
def apart(D:dL)(t:TypeId)(bp:List o)(off:Nat):Option o :=
 match D t with
 |some d=>if d.kind.isAgg then(if off+d.size≤bp.length then some (.agg ((bp.drop off).take d.size))else none)else bp[off]?
 |none=>none
def oD(D:dL)(t:TypeId)(x i:o):Option o :=
 match D t,x,i with
 |some d,.agg bp,.int _ i =>
  match d.kind with
  |.array n e =>
   match D e with
   |some cT=>if 0≤i∧i<n then apart D e bp (i.toNat*cT.size)else none
   |none=>none
  |_=>none
 |some d,.str s,.int _ i =>
  match d.kind with
  |.string=>if 0≤i then(s[i.toNat]?).map fun b=> .int .u8 b.toNat else none
  |_=>none
 |_,_,_=>none
def CO(D:dL)(t:TypeId)(x:o)(f:Nat):Option o :=
 match D t,x with
 |some d,.ptr (some a) =>
  match d.kind with
  |.struct b4 =>
   match b4[f]? with
   |some (off,qK) =>
    match D qK with
    |some fd=>if 0<fd.size then some (.ptr (some {a with bR:=a.bR+off}))else none
    |none=>none
   |none=>none
  |_=>none
 |_,_=>none
def CP(D:dL)(t:TypeId)(x:o)(f:Nat):Option o :=
 match D t,x with
 |some d,.agg bp =>
  match d.kind with
  |.struct b4 =>
   match b4[f]? with
   |some (off,qK)=>apart D qK bp off
   |none=>none
  |_=>none
 |_,_=>none
def e2(es:Nat)(x:o)(h:j):Option (List o) :=
 match x with
 |.slice none 0 _=>some []
 |.slice (some a) len _ =>
  if a.bR=0 then
   if a.es=es then
    match h.get a.id with
    |some b=>if len=0 then some []else if a.idx+len≤b.cO a.J∧a.idx+len≤b.bi.length then some ((b.bi.drop a.idx).take len)else none
    |none=>if len=0 then some []else none
   else none
  else if len=0 then some []
  else if es=1 then
   match h.get a.id with
   |some b =>
    match b.elem? a.J a.idx with
    |some (.agg bp)=>if a.bR-1+len≤bp.length∧((bp.drop (a.bR-1)).take len).all (·.j4)=true then some ((bp.drop (a.bR-1)).take len)else none
    |_=>none
   |none=>none
  else none
 |.str s=>if es=1 then some (s.map fun b=> .int .u8 b.toNat)else none
 |_=>none
def qH.r'(d:qH):Bool :=
 match d.zero with
 |some z=>z.fits d.kind.isAgg d.size
 |none=>false
def hp(D : dL)(t:TypeId)(s x:o)(bh:Nat)(h:j):Option (o×j) :=
 match D t,s with
 |some d, .slice base len cap =>
  match d.kind with
  |.slice e =>
   match D e with
   |some cT =>
    match e2 cT.size x h with
    |some new =>
     let jj:=len+new.length
     if 0 < cT.size∧(jj+jj/4+512)*cT.bytes≤2^48∧jj<2^62∧cT.r'=true then
      match base with
      |none=>if jj=0 then some (.slice none 0 cap,h)else if cap=0∧len=0 then some (j5 bh cT.size jj jj,h.set bh (.made new cT.size false (some (e,0))))else none
      |some a =>
       if a.es =cT.size∧a.bR=0 then
        match h.get a.id with
        |some b =>
         if jj≤cap then
          if new=[]then some (.slice base jj cap,h)else
          if b.ro=false∧a.J=b.J∧a.idx+jj≤b.bi.length then some (.slice base jj cap,h.set a.id (b.put (a.idx+len) new))else none
         else if b.exact then
          match e2 cT.size s h with
          |some old=>some (j5 bh cT.size jj jj,h.set bh (.made (old++new) cT.size false (some (e,0))))
          |none=>none
         else if b.ro=false∧a.J=b.J∧a.idx+len=b.bi.length∧new≠[]∧(b.aq=none∨b.aq=some (e,0))then
          some (.slice (some {a with J:=a.J+1}) jj jj,
           h.set a.id (b.grow new))
         else none
        |none=>none
       else none
     else none
    |none=>none
   |none=>none
  |_=>none
 |_,_=>none
def CQ(D:dL)(t:TypeId)(x:o):Option o :=
 match D t,x with
 |some d,.slice _ n _=>match d.kind with|.slice _=>some (.int .i64 n)|_=>none
 |some d,.str s=>match d.kind with|.string=>some (.int .i64 s.length)|_=>none
 |some d,_=>match d.kind with|.array n _=>some (.int .i64 n)|_=>none
 |_,_=>none
def vP(D:dL)(src dst:TypeId)(x:o):Option o :=
 match D src,D dst,x with
 |some _,some d,.int _ n=>match d.kind with|.int k=>some (.int k (k.wrap n))|.string=>some (.str (Utf8.encode n).data.toList)|_=>none
 |some _,some d,.str s=>match d.kind with|.string=>some (.str s)|_=>none
 |_,_,_=>none
abbrev dX:=FuncId→List o→j→Option (o×j)
abbrev za:=List o→j→Option (o×j)
structure b5 where
 D:dL
 eqs:List TypeId
 tL:FuncId→Option za:=fun _=>none
 ext:FuncId→Option Nat:=fun _=>none
 cond:(Nat→Prop)→World→Prop:=fun _ _=>True
def b5.ho(E:b5)(t:TypeId):Bool:=E.eqs.contains t
def di(s:List o):Operand→o
 |.tmp t=>s.getD t .undef
 |.const v=>qG v
 |.global _=> .undef
 |.func f=> .func (.func f) [] []
def lf:Operand→Bool
 |.const _=>true
 |_=>false
def oE(call:dX)(f:o)(args:List o)(h:j):Option (o×j) :=
 match f with
 |.func (.func g) first captured=>call g (first++args++captured) h
 |_=>none
def bytesOf:List o→Option (List UInt8)
 |[]=>some []
 |.int .u8 n::r=>(bytesOf r).map fun l=>UInt8.ofNat n.toNat::l
 |_=>none
def sa:List o→Bool
 |[]=>true
 |.int .u8 n::r=>decide (0≤n)&&decide (n<256)&&sa r
 |_=>false
def CR(D:dL)(CS:TypeId)(I:Option bG)(n:Int)(h:j):Option (o×j) :=
 if n=0 then some (.str [],h)else
 match D CS,I with
 |some d,some a =>
  match d.kind,h.get a.id with
  |.ptr e,some b =>
   match D e with
   |some hc =>
    if 0<n∧n≤1048576∧a.idx=0∧a.bR=0∧a.es=1∧b.ro=false∧b.aq=some (e,0)∧hc.size=1∧n.toNat≤b.cO a.J∧n.toNat≤b.bi.length∧sa (b.bi.take n.toNat)=true then
     (bytesOf (b.bi.take n.toNat)).map fun s=>(.str s,h.set a.id {b with ro:=true})
    else none
   |none=>none
  |_,_=>none
 |_,_=>none
def CT:o→Option o
 |.slice none _ _=>some (.ptr none)
 |.slice (some a) _ c=>if a.bR=0∧0<c then some (.ptr (some a))else none
 |_=>none
def CU(D:dL)(t:TypeId)(s x:o)(h:j):Option (o×j) :=
 match D t,s,x with
 |some d, .slice (some a) len _,.slice (some h8) n _ =>
  match d.kind with
  |.slice e =>
   match D e,h.get h8.id,h.get a.id with
   |some cT,some oF,some b =>
    if cT.size=1∧0<a.bR∧h8.bR=0∧h8.es=1∧0<n∧n≤len∧h8.idx+n≤oF.cO h8.J∧h8.idx+n≤oF.bi.length∧b.ro=false∧a.J=b.J then
     match b.bi[a.idx]? with
     |some (.agg bp) =>
      if a.bR-1+n≤bp.length∧((oF.bi.drop h8.idx).take n).all (·.j4)=true then
       some (.int .i64 n,h.set a.id {b with bi:=b.bi.set a.idx (.agg (jC bp (a.bR-1) ((oF.bi.drop h8.idx).take n))),fX:=b.J})
      else none
     |_=>none
    else none
   |_,_,_=>none
  |_=>none
 |_,_,_=>none
def fZ(E:b5)(b:Builtin)(eN:Array TypeId)(args:List o)(bh:Nat)(h:j):Option (o×j) :=
 match b with
 |.len =>
  match args,eN[0]? with
  |[x],some t=>(CQ E.D t x).map fun v=>(v,h)
  |_,_=>none
 |.append =>
  match args,eN[0]?,eN[1]? with
  |[s,x],some t,some u=>match E.D u with|some lg=>(match lg.kind with|.slice _=>hp E.D t s x bh h|.string=>hp E.D t s x bh h|_=>none)|none=>none
  |_,_,_=>none
 |.max =>
  match args with
  |x::r=>(qJ y9 x r).map fun v=>(v,h)
  |_=>none
 |.min =>
  match args with
  |x::r=>(qJ y' x r).map fun v=>(v,h)
  |_=>none
 |.copy =>
  match args,eN[0]?,eN[1]? with
  |[s,x],some t,some u=>CU E.D t s x h
  |_,_,_=>none
 |.unsafeSliceData =>
  match args with
  |[x]=>(CT x).map fun v=>(v,h)
  |_=>none
 |.unsafeString =>
  match args,eN[0]? with
  |[.ptr I,.int .i64 n],some t=>CR E.D t I n h
  |_,_=>none
 |_=>none
def b0(E:b5)(call:dX)(bh:Nat)(bf:Operand→o)(h:j)(ab:Op):Option (o×j) :=
 match ab with
 |.move x|.assign x=>some (bf x,h)
 |.pick c a b=>match bf c with|.bool t=>some (if t then bf a else bf b,h)|_=>none
 |.alloc t =>
  match E.D t with
  |some d=>match d.zero with|some z=>if z.fits d.kind.isAgg d.size&&decide (0<d.size)then some (.ptr (some ⟨bh,0,0,0,d.size⟩),h.set bh (.made [z] d.size true (some (t,d.size))))else none|none=>none
  |none=>none
 |.box t x =>
  match E.D t with
  |some d=>if(bf x).fits d.kind.isAgg d.size&&decide (0<d.size)then some (.ptr (some ⟨bh,0,0,0,d.size⟩),h.set bh (.made [bf x] d.size true (some (t,d.size))))else none
  |none=>none
 |.build t parts=>(CM E.D t (parts.toList.map fun I=>(I.1,bf I.2))).map fun v=>(v,h)
 |.buildSlice t n parts=>oC E.D t n (parts.toList.map fun I=>(I.1,bf I.2)) bh h
 |.load t a=>match bf a with|.ptr (some a)=>(cj E.D t a h).map fun v=>(v,h)|_=>none
 |.store t a x=>match bf a with|.ptr (some a)=>(ki E.D t a (bf x) h).map fun aa=>(gp,aa)|_=>none
 |.nilCheck x=>match bf x with|.ptr (some a)=>some (.ptr (some a),h)|.func (.func g) b4 bp=>some (.func (.func g) b4 bp,h)|_=>none
 |.binOp op t x y _=>(ld E.D E.ho (lf x || lf y) op t (bf x) (bf y)).map fun v=>(v,h)
 |.unOp op _ x=>(vM op (bf x)).map fun v=>(v,h)
 |.convert s d x=>(vP E.D s d (bf x)).map fun v=>(v,h)
 |.makeFunc (.func g) b4 bp=>some (.func (.func g) (b4.toList.map bf) (bp.toList.map bf),h)
 |.makeInterface t x=>match E.D t with|some d=>(match d.kind with|.iface _=>none|_=>some (.iface t (bf x),h))|none=>none
 |.makeSlice t l c=>vN E.D t (bf l) (bf c) bh h
 |.slice t x a1 ak fR=>(kk E.D t (bf x) (a1.map bf) (ak.map bf) (fR.map bf)).map fun v=>(v,h)
 |.fieldAddr t x f=>(CO E.D t (bf x) f).map fun v=>(v,h)
 |.field t x f=>(CP E.D t (bf x) f).map fun v=>(v,h)
 |.indexAddr t x i=>(r9 E.D t (bf x) (bf i)).map fun v=>(v,h)
 |.index t x i=>(oD E.D t (bf x) (bf i)).map fun v=>(v,h)
 |.extract x i=>match bf x with|.tuple ci=>(ci[i]?).map fun v=>(v,h)|_=>none
 |.call c =>
  match c.callee with
  |.value f=>oE call (bf f) (c.args.toList.map bf) h
  |.builtin b=>fZ E b c.argTypes (c.args.toList.map bf) bh h
  |_=>none
 |_=>none
def oG(D:dL)(src dst:TypeId)(x:o)(bh:Nat)(h:j):Option (o×j) :=
 match D src,D dst,x with
 |some nE,some fM,.str s =>
  match nE.kind,fM.kind with
  |.string,.slice e =>
   match D e with
   |some hc =>
    match hc.kind with
    |.int .u8=>some (j5 bh 1 s.length s.length,h.set bh (.made (s.map fun b=> .int .u8 b.toNat) 1 false))
    |_=>none
   |none=>none
  |_,_=>none
 |some nE,some fM,.slice a n c =>
  match nE.kind,fM.kind with
  |.slice e,.slice _ =>
   match D e,a with
   |some hc,some sb =>
    match hc.kind,h.get sb.id with
    |.int .u8,some b=>if src=dst∧b.ro=false∧sb.bR=0∧0<c then some (.slice (some sb) n c,h)else none
    |_,_=>none
   |_,_=>none
  |.slice e,.string =>
   match D e with
   |some hc =>
    match hc.kind with
    |.int .u8 =>
     match e2 1 (.slice a n c) h with
     |some l=>(bytesOf l).map fun s=>(.str s,h)
     |none=>none
    |_=>none
   |none=>none
  |_,_=>none
 |_,_,_=>none
def CV(k:Nat)(args:List o):Option o :=
 match args with
 |[.str s,.int .u8 c] =>
  match k with
  |0=>some (.int .i64 (Go.Lib.countByte s c.toNat.toUInt8))
  |1=>some (.int .i64 (Go.Lib.indexByte s c.toNat.toUInt8))
  |_=>none
 |[.str s,.str t]=>if k=2 then some (.int .i64 (Go.Lib.compareBytes s t))else none
 |_=>none
def eO(E:b5)(bh:Nat)(bf:Operand→o)(h:j)(ab:Op):Option (o×j) :=
 match ab with
 |.convert s d x=>oG E.D s d (bf x) bh h
 |.call c =>
  match c.callee with
  |.value f =>
   match bf f with
   |.func (.func g) [] [] =>
    match E.ext g with
    |some k=>(CV k (c.args.toList.map bf)).map fun v=>(v,h)
    |none=>none
   |_=>none
  |_=>none
 |_=>none
def jk(E:b5)(call:dX)(bh:Nat)(bf:Operand→o)(h:j)(ab:Op):Option (o×j) :=
 match b0 E call bh bf h ab with
 |some r=>some r
 |none=>eO E bh bf h ab
structure fz where
 fa:List o
 heap:j
def hS(s:List o)(dst:Option Tmp)(v:o):List o :=
 match dst with
 |some d=>s.set d v
 |none=>s
def jl(ops:Array Oper)(s:List o)(ab:Oper):Option Bool :=
 match ab.guard with
 |none=>some true
 |some (C,want) =>
  match (ops[C]?).bind (·.dst)with
  |some d =>
   match s[d]? with
   |some (.bool b)=>some (b == want)
   |some (.tuple [])=>some false
   |_=>none
  |none=>none
def qL(E:b5)(call:dX)(ops:Array Oper)(aj:Nat)(i:Nat)(s:fz):Option fz :=
 match ops[i]? with
 |none=>some s
 |some ab =>
  match jl ops s.fa ab with
  |some true =>
   match jk E call (aj+i) (di s.fa) s.heap ab.op with
   |some (v,h)=>some ⟨hS s.fa ab.dst v,h⟩
   |none=>none
  |some false=>some ⟨hS s.fa ab.dst gp,s.heap⟩
  |none=>none
def oH(E:b5)(call:dX)(ops:Array Oper)(aj:Nat):List Nat→fz→Option fz
 |[],s=>some s
 |i::r,s =>
  match qL E call ops aj i s with
  |some bL=>oH E call ops aj r bL
  |none=>none
inductive dc where
 |normal|exit (id:Nat)|goto (l:Nat)|ret
 deriving DecidableEq
inductive CW where
 |pure|load|alloc|store|call|gJ|other
 deriving DecidableEq
def eP:Op→CW
 |.move _|.assign _|.pick _ _ _|.build _ _|.nilCheck _|.binOp _ _ _ _ _|.unOp _ _ _|.convert _ _ _|.makeFunc _ _ _|.slice _ _ _ _ _
 |.fieldAddr _ _ _|.field _ _ _|.indexAddr _ _ _|.index _ _ _|.extract _ _|.makeInterface _ _=> .pure
 |.load _ _=> .load
 |.store _ _ _=> .store
 |.alloc _|.box _ _|.buildSlice _ _ _|.makeSlice _ _ _=> .alloc
 |.call c =>
  match c.callee with
  |.value _=> .call
  |.builtin .len|.builtin .max|.builtin .min|.builtin .unsafeSliceData=> .pure
  |.builtin .append=> .gJ
  |_=> .other
 |_=> .other
def iP(e:Edge):Bool:=Region.binds .any e
def ey(ops:Array Oper):Array Nat :=
 ops.toList.foldl (fun acc ab=>acc.push (ab.after.toList.foldl (fun s e=>if iP e then s ||| 2^e.on ||| acc.getD e.on 0 else s) 0)) #[]
def ordered(lZ:Array Nat)(i C:Nat):Bool:=(lZ.getD C 0).testBit i
def tmpsOf(xs:List Operand):List Tmp:=xs.filterMap fun|.tmp t=>some t|_=>none
def sc(ops:Array Oper)(ab:Oper):List Tmp :=
 tmpsOf ab.op.operands.toList++(match ab.guard with|some (g,_)=>((ops[g]?).bind (·.dst)).toList|none=> [])
def zb(ops:Array Oper)(x y:Oper):Bool :=
 (match x.dst with|some d=> !(sc ops y).contains d&&!(y.dst == some d)|none=>true) &&
 (match y.dst with|some d=> !(sc ops x).contains d|none=>true)
def Jj:CW→CW→Bool
 |.pure,_|_,.pure=>true
 |.load,.load|.load,.alloc|.alloc,.load|.alloc,.alloc|.call,.load|.load,.call|.load,.store|.store,.load|.gJ,.alloc|.alloc,.gJ=>true
 |_,_=>false
def oI(ops:Array Oper):Bool :=
 let lZ:=ey ops
 (List.range ops.size).all fun C =>
  match ops[C]? with
  |none=>true
  |some y =>
   (y.after.toList.all fun e=> !iP e || decide (e.on<C)) &&
   (List.range C).all fun i =>
    ordered lZ i C ||
    match ops[i]? with
    |none=>true
    |some x=>Jj (eP x.op) (eP y.op)&&zb ops x y
mutual
def o.same:o→o→Bool
 |.undef,.undef=>true
 |.bool a,.bool b=>a == b
 |.int k a,.int l b=>decide (k=l)&&a == b
 |.str a,.str b=>a == b
 |.ptr a,.ptr b=>decide (a=b)
 |.slice a n c,.slice b m d=>decide (a=b)&&n == m&&c == d
 |.func f a b,.func g c d=>decide (f=g)&&o.oJ a c&&o.oJ b d
 |.nilFunc,.nilFunc=>true
 |.iface t a,.iface u b=>t == u&&o.same a b
 |.nilIface,.nilIface=>true
 |.agg a,.agg b=>o.oJ a b
 |.tuple a,.tuple b=>o.oJ a b
 |_,_=>false
def o.oJ:List o→List o→Bool
 |[],[]=>true
 |a::x,b::y=>o.same a b&&o.oJ x y
 |_,_=>false
end
def R.same(a b:R):Bool :=
 o.oJ a.bi b.bi&&a.es == b.es&&a.exact == b.exact&&a.ro == b.ro&&a.J == b.J&&a.fX == b.fX&&a.gQ == b.gQ&&a.aq == b.aq
def qM(cO:Nat)(h aa:j):Bool:=aU.nC R.same cO aa.aJ h.aJ 0 1
def mE(ops:Array Oper)(lZ:Array Nat)(C:Nat):Bool :=
 (List.range ops.size).any fun i =>
  match ops[i]? with
  |some x=>decide (eP x.op=.load)&&!ordered lZ i C&&!ordered lZ C i
  |none=>false
def pI(ops:Array Oper)(lZ:Array Nat)(C:Nat):Bool :=
 (List.range ops.size).any fun i =>
  match ops[i]? with
  |some x=>decide (eP x.op=.store)&&!ordered lZ i C&&!ordered lZ C i
  |none=>false
def nF(bf:Operand→o):Op→Option Nat
 |.store _ x _=>match bf x with|.ptr (some a)=>some a.id|_=>none
 |_=>none
def kl(bf:Operand→o):Op→Option Nat
 |.load _ x=>match bf x with|.ptr (some a)=>some a.id|_=>none
 |_=>none
def h9:o→List Nat
 |.slice (some a) _ _=> [a.id]
 |_=> []
def h'(bf:Operand→o):Op→List Nat
 |.call c=>(c.args.toList.map bf).flatMap h9
 |_=> []
def iQ:Op→Bool
 |.convert _ _ _=>true
 |_=>false
def lh(ops:Array Oper)(C:Nat):Bool :=
 let lZ:=ey ops
 (List.range ops.size).all fun i =>
  (i == C) || ordered lZ i C || ordered lZ C i ||
   match ops[i]? with
   |some x=>decide (eP x.op=.pure)&&!(iQ x.op)
   |none=>true
def oK(bf:Operand→o):Op→Option o
 |.convert _ _ x=>match bf x with|.slice a n c=>some (.slice a n c)|_=>none
 |_=>none
def iR(ops:Array Oper)(aj C:Nat)(bf:Operand→o)(ab:Op):Bool :=
 match oK bf ab with
 |some x =>
  ((h9 x).all fun b=>decide (b<aj) || (decide (b<aj+ops.size)&&ordered (ey ops) (b-aj) C)) &&
  ((List.range ops.size).all fun i=>(i == C) || ordered (ey ops) i C || ordered (ey ops) C i ||
    match ops[i]? with
    |some y=>decide (eP y.op=.pure) || decide (eP y.op=.load) || decide (eP y.op=.alloc)
    |none=>true)
 |none=>false
def pJ(ops:Array Oper)(aj C:Nat)(ids:List Nat):Bool :=
 ids.all fun b=>decide (b<aj) || (decide (b<aj+ops.size)&&ordered (ey ops) (b-aj) C) || decide (aj+ops.size≤b)
def fD(E:b5)(call:dX)(ops:Array Oper)(aj C:Nat)(bf:Operand→o)(h:j)(ab:Op):Option (o×j) :=
 match eP ab with
 |.load =>
  match kl bf ab with
  |some b=>if b<aj∨(b<aj+ops.size∧ordered (ey ops) (b-aj) C=true∧pI ops (ey ops) C=false)then b0 E call (aj+C) bf h ab else none
  |none=>none
 |.store =>
  match nF bf ab with
  |some b=>if mE ops (ey ops) C=true∧b<aj then none else b0 E call (aj+C) bf h ab
  |none=>none
 |.call =>
  match b0 E call (aj+C) bf h ab with
  |some (v,aa)=>if mE ops (ey ops) C then(if qM (aj+ops.size) h aa then some (v,aa)else none)else some (v,aa)
  |none=>none
 |.gJ=>if pJ ops aj C (h' bf ab)=true then b0 E call (aj+C) bf h ab else none
 |.pure =>
  match b0 E call (aj+C) bf h ab with
  |some r=>some r
  |none=>if iQ ab=true∧(lh ops C=true∨iR ops aj C bf ab=true)then eO E (aj+C) bf h ab else none
 |_=>b0 E call (aj+C) bf h ab
def l0(E:b5)(call:dX)(ops:Array Oper)(aj:Nat)(i:Nat)(s:fz):Option fz :=
 match ops[i]? with
 |none=>some s
 |some ab =>
  match jl ops s.fa ab with
  |some true =>
   match fD E call ops aj i (di s.fa) s.heap ab.op with
   |some (v,h)=>some ⟨hS s.fa ab.dst v,h⟩
   |none=>none
  |some false=>some ⟨hS s.fa ab.dst gp,s.heap⟩
  |none=>none
def km(E:b5)(call:dX)(ops:Array Oper)(aj:Nat):List Nat→fz→Option fz
 |[],s=>some s
 |i::r,s =>
  match l0 E call ops aj i s with
  |some bL=>km E call ops aj r bL
  |none=>none
def sd(E:b5)(call:dX)(ops:Array Oper)(draw:Bool)(s:fz):Option fz :=
 if draw then
  (if oI ops then km E call ops s.heap.next (List.range ops.size) ⟨s.fa,{s.heap with next:=s.heap.next+ops.size}⟩else none)
 else oH E call ops s.heap.next (List.range ops.size) ⟨s.fa,{s.heap with next:=s.heap.next+ops.size}⟩
def fb(E:b5)(call:dX):Nat→Option Code→Code→fz→Option (dc×fz)
 |0,_,_,_=>none
 |n +1,some body,c,s =>
  match fb E call n none c s with
  |some (.goto l,bL) =>
   match findLabel body l with
   |some rest=>fb E call n (some body) rest bL
   |none=>some (.goto l,bL)
  |r=>r
 |n +1,none,c,s =>
  match c with
  |.skip=>some (.normal,s)
  |.label _=>some (.normal,s)
  |.region _ ops draw=>(sd E call ops draw s).map fun bL=>(.normal,bL)
  |.seq a b =>
   match fb E call n none a s with
   |some (.normal,bL)=>fb E call n none b bL
   |r=>r
  |.cond x a b =>
   match di s.fa x with
   |.bool true=>fb E call n none a s
   |.bool false=>fb E call n none b s
   |_=>none
  |.block id c =>
   match fb E call n none c s with
   |some (.exit C,bL)=>some (if C=id then .normal else .exit C,bL)
   |r=>r
  |.loop c =>
   match fb E call n none c s with
   |some (.normal,bL)=>fb E call n none (.loop c) bL
   |r=>r
  |.scope c=>fb E call n (some c) c s
  |.goto l=>some (.goto l,s)
  |.exit id=>some (.exit id,s)
  |.ret=>some (.ret,s)
  |_=>none
def jm(D:dL)(dR:List ResultVar)(s:fz):Option (List o) :=
 match dR with
 |[]=>some []
 |.tmp t::r=>(jm D r s).map fun l=>s.fa.getD t .undef::l
 |.cell a t::r =>
  match s.fa.getD a .undef with
  |.ptr (some I) =>
   match cj D t I s.heap,jm D r s with
   |some v,some l=>some (v::l)
   |_,_=>none
  |_=>none
def mF:List o→o
 |[v]=>v
 |l=> .tuple l
def mG(P:Program)(E:b5):Nat→dX
 |0,_,_,_=>none
 |n + 1,f,args,h =>
  match E.tL f with
  |some g=>g args h
  |none =>
  match P.funcs[f]? with
  |some fn =>
   match fn.body with
   |some c =>
    match fb E (mG P E n) n none c ⟨args++List.replicate (fn.ntmps-args.length) gp,h⟩with
    |some (.exit _,_)=>none
    |some (.goto _,_)=>none
    |some (_,s)=>(jm E.D fn.results.toList s).map fun l=>(mF l,s.heap)
    |none=>none
   |none=>none
  |none=>none
end
end Go.cM
namespace Go.cM
noncomputable section
structure Place where
 cq:Nat
 off:Nat
 a1:Nat
 es:Nat
 fE:Nat
 exact:Bool
 ro:Bool
abbrev Map:=Nat→Nat→Option Place
def Map.le(al c1:Map):Prop:= ∀i v I,al i v=some I→c1 i v=some I
theorem Map.le_refl(al:Map):al.le al:=fun _ _ _ h=>h
theorem Map.le_trans{al c1 vQ:Map}(h:al.le c1)(k:c1.le vQ):al.le vQ:=fun i v I e=>k i v I (h i v I e)
def Place.at(I:Place)(idx bR:Nat):Addr:=⟨I.cq,I.off+(idx-I.a1)*I.es+bR,none⟩
def tM(al:Map)(a:bG)(x:Addr):Prop :=
 ∃I,al a.id a.J=some I∧a.es=I.es∧I.a1≤a.idx∧x=I.at a.idx a.bR
def vR(al:Map)(a:bG)(x:Addr)(cap dm:Nat):Prop :=
 ∃I,al a.id a.J=some I∧a.es=I.es∧(dm=0∨(I.a1≤a.idx∧x=I.at a.idx 0∧(a.idx-I.a1)+dm≤I.fE))∧(I.exact=true→dm=cap)
def tN(al:Map)(a:bG)(x:Addr)(cap dm:Nat):Prop :=
 (a.bR=0∧vR al a x cap dm)∨(∃f,a.bR=f+1∧tM al {a with bR:=f} x)
theorem tN.plain{al:Map}{a:bG}{x:Addr}{cap dm:Nat}(h:tN al a x cap dm)(a8:a.bR=0):vR al a x cap dm:=by
 rcases h with h|⟨f,h,_⟩
 ·exact h.2
 ·omega
mutual
def aN(al:Map):o→Value→Prop
 |.undef,_=>True
 |.bool b,v=>v=.bool b
 |.int k n,v=>v=.int k n
 |.str s,v=> ∃t:ByteArray,v=.string t∧t.data.toList=s
 |.ptr none,v=>v=.pointer none
 |.ptr (some a),v=> ∃x,v=.pointer (some x)∧tM al a x
 |.slice none len cap,v=>v=.slice none 0 0∧len=0∧cap=0
 |.slice (some a) len cap,v=> ∃x dm,v=.slice (some x) len dm∧len≤cap∧cap≤dm∧tN al a x cap dm
 |.func fn f c,v=> ∃gk fS,v=.func fn gk fS∧bH al f gk.toList∧bH al c fS.toList
 |.nilFunc,v=>v=.nilFunc
 |.iface t a,v=> ∃x,v=.iface t x∧aN al a x
 |.nilIface,v=>v=.nilIface
 |.agg bp,v=> ∃xs,v=.agg xs∧bH al bp xs.toList
 |.tuple ci,v=> ∃xs,v=.tuple xs∧bH al ci xs.toList
def bH(al:Map):List o→List Value→Prop
 |[],l=>l=[]
 |a::r,l=> ∃v t,l=v::t∧aN al a v∧bH al r t
end
theorem tM.mono{al c1:Map}(h:al.le c1){a:bG}{x:Addr}(k:tM al a x):tM c1 a x :=
 let ⟨I,e,r⟩:=k;⟨I,h _ _ _ e,r⟩
theorem vR.mono{al c1:Map}(h:al.le c1){a:bG}{x:Addr}{c fS:Nat}(k:vR al a x c fS):vR c1 a x c fS:=by obtain⟨I,e,r⟩:=k;exact⟨I,h _ _ _ e,r⟩
theorem tN.mono{al c1:Map}(h:al.le c1){a:bG}{x:Addr}{c fS:Nat}(k:tN al a x c fS):tN c1 a x c fS:=by
 rcases k with ⟨p,ad⟩|⟨f,p,ad⟩
 ·exact .inl ⟨p,ad.mono h⟩
 ·exact .inr ⟨f,p,ad.mono h⟩
mutual
theorem aN.mono{al c1:Map}(h:al.le c1):∀{a:o}{v:Value},aN al a v→aN c1 a v
 |.undef,_,_=>by simp [aN]
 |.bool b,v,k=>by simpa [aN]using k
 |.int _ n,v,k=>by simpa [aN]using k
 |.str s,v,k=>by simpa [aN]using k
 |.ptr none,v,k=>by simpa [aN]using k
 |.ptr (some a),v,k=>by simp only [aN]at k⊢;obtain⟨x,e,r⟩:=k;exact⟨x,e,r.mono h⟩
 |.slice none len cap,v,k=>by simpa [aN]using k
 |.slice (some a) len cap,v,k=>by simp only [aN]at k⊢;obtain⟨x,c,e,ek,ck,r⟩:=k;exact⟨x,c,e,ek,ck,r.mono h⟩
 |.func fn f c,v,k=>by simp only [aN]at k⊢;obtain⟨gk,fS,e,fT,kn⟩:=k;exact⟨gk,fS,e,bH.mono h fT,bH.mono h kn⟩
 |.nilFunc,v,k=>by simpa [aN]using k
 |.iface t a,v,k=>by simp only [aN]at k⊢;obtain⟨x,e,r⟩:=k;exact⟨x,e,aN.mono h r⟩
 |.nilIface,v,k=>by simpa [aN]using k
 |.agg bp,v,k=>by simp only [aN]at k⊢;obtain⟨x,e,r⟩:=k;exact⟨x,e,bH.mono h r⟩
 |.tuple bp,v,k=>by simp only [aN]at k⊢;obtain⟨x,e,r⟩:=k;exact⟨x,e,bH.mono h r⟩
theorem bH.mono{al c1:Map}(h:al.le c1):∀{l:List o}{t:List Value},bH al l t→bH c1 l t
 |[],t,k=>by simpa [bH]using k
 |a::r,t,k=>by simp only [bH]at k⊢;obtain⟨v,fj,e,aM,aR⟩:=k;exact⟨v,fj,e,aN.mono h aM,bH.mono h aR⟩
end
theorem bH.length{al:Map} :∀{l:List o}{t:List Value},bH al l t→t.length=l.length
 |[],t,k=>by simp only [bH]at k;simp [k]
 |a::r,t,k=>by simp only [bH]at k;obtain⟨v,fj,e,aM,aR⟩:=k;simp [e,bH.length aR]
theorem bH.get{al:Map} :∀{l:List o}{t:List Value}{i:Nat}{a:o},bH al l t→l[i]? =some a→ ∃v,t[i]? =some v∧aN al a v
 |[],t,i,a,k,h=>by simp at h
 |b::r,t,i,a,k,h=>by
  simp only [bH]at k;obtain⟨v,fj,e,aM,aR⟩:=k;subst e;cases i with
  |zero=>simp at h;subst h;exact⟨v,by simp,aM⟩
  |succ i=>simp at h;obtain⟨u,hu,CX⟩:=bH.get aR h;exact⟨u,by simpa using hu,CX⟩
theorem bH.e3{al:Map} :∀{l:List o}{t:List Value},t.length=l.length→(∀(i:Nat)(a:o)(v:Value),l[i]? =some a→t[i]? =some v→aN al a v)→bH al l t
 |[],t,az,h=>by simp at az;simp [bH,az]
 |a::r,[],az,h=>by simp at az
 |a::r,v::t,az,h=>by simp only [bH];refine⟨v,t,rfl,h 0 a v (by simp) (by simp),bH.e3 (by simpa using az) fun i cG bt aT bg=>h (i+1) cG bt (by simpa using aT) (by simpa using bg)⟩
theorem bH.append{al:Map}{l m:List o}{t u:List Value}(h:bH al l t)(k:bH al m u):bH al (l++m) (t++u):=by
 induction l generalizing t with
 |nil=>simp only [bH]at h;simpa [h]using k
 |cons a r ih =>
  simp only [bH]at h;obtain⟨v,fj,e,aM,aR⟩:=h;simp only [List.cons_append,bH];exact⟨v,fj++u,by simp [e],aM,ih aR⟩
theorem bH.set{al:Map}{l:List o}{t:List Value}(h:bH al l t)(i:Nat){a:o}{v:Value}(k:aN al a v):bH al (l.set i a) (t.set i v):=by
 refine bH.e3 (by simp [h.length]) fun C b u au hu=> ?_
 by_cases e:i=C
 ·subst e
  have ak:i<l.length:=by have:=(List.getElem?_eq_some_iff.1 au).1;simpa using this
  rw [List.getElem?_set_self (by simpa using ak)]at au;rw [List.getElem?_set_self (by rw [h.length];exact ak)]at hu;simp at au hu;subst au hu;exact k
 ·rw [List.getElem?_set_ne e]at au hu;obtain⟨x,ae,rx⟩:=h.get au;rw [hu]at ae;simp at ae;subst ae;exact rx
theorem bH.drop{al:Map}{l:List o}{t:List Value}(h:bH al l t)(n:Nat):bH al (l.drop n) (t.drop n):=by
 refine bH.e3 (by simp [h.length]) fun C b u au hu=> ?_
 rw [List.getElem?_drop]at au hu;obtain⟨x,ae,rx⟩:=h.get au;rw [hu]at ae;simp at ae;subst ae;exact rx
theorem bH.take{al:Map}{l:List o}{t:List Value}(h:bH al l t)(n:Nat):bH al (l.take n) (t.take n):=by
 refine bH.e3 (by simp [h.length]) fun C b u au hu=> ?_
 rw [List.getElem?_take]at au hu;split at au
 ·rename_i aV;rw [if_pos aV]at hu;obtain⟨x,ae,rx⟩:=h.get au;rw [hu]at ae;simp at ae;subst ae;exact rx
 ·simp at au
theorem bH.map{al:Map}{α:Type}(l:List α)(f:α→o)(g:α→Value)(h:∀x∈l,aN al (f x) (g x)):bH al (l.map f) (l.map g):=by
 induction l with
 |nil=>simp [bH]
 |cons x r ih =>
  simp only [List.map_cons,bH];exact⟨_,_,rfl,h x (by simp),ih fun y bY=>h y (by simp [bY])⟩
theorem bH.getD{al:Map}{l:List o}{t:List Value}(h:bH al l t)(i:Nat):aN al (l.getD i .undef) (t.getD i undef):=by
 by_cases ak:i<l.length
 ·obtain⟨v,bg,pK⟩:=h.get (i:=i) (a:=l[i]) (List.getElem?_eq_getElem ak);rw [List.getD_eq_getElem?_getD,List.getD_eq_getElem?_getD,List.getElem?_eq_getElem ak,bg];simpa using pK
 ·rw [List.getD_eq_getElem?_getD,List.getElem?_eq_none (by omega)];simp [aN]
theorem aN.gp(al:Map):aN al gp undef:=by simp only [aN];exact⟨#[],rfl,by simp [bH]⟩
theorem bH.replicate{al:Map}{a:o}{v:Value}(h:aN al a v)(n:Nat):bH al (List.replicate n a) (List.replicate n v):=by
 induction n with
 |zero=>simp [bH]
 |succ n ih=>simp only [List.replicate_succ,bH];exact⟨_,_,rfl,h,ih⟩
theorem zc(al:Map)(v:Value):aN al (gI v) v:=by unfold gI;split<;>simp [aN]
theorem Jk(al:Map)(v:Value):aN al (qG v) v:=by
 unfold qG;split
 ·rename_i bp;simp only [aN];refine⟨bp,rfl,?_⟩;have:=bH.map (al:=al) bp.toList gI id (fun x _=>zc al x);simpa using this
 ·simp only [aN];exact⟨_,rfl,zc al _⟩
 ·exact zc al v
theorem aN.cells{al:Map}{a:o}{v:Value}(h:aN al a v)(hu:a≠ .undef):bH al a.cells v.cells.toList:=by
 cases a with
 |undef=>exact absurd rfl hu
 |agg bp=>simp only [aN]at h;obtain⟨xs,rfl,r⟩:=h;simpa [o.cells,Value.cells]using r
 |bool b=>have aa:=h;simp only [aN]at h;subst h;simp only [o.cells,Value.cells,bH];exact⟨_,_,rfl,aa,rfl⟩
 |int k n=>have aa:=h;simp only [aN]at h;subst h;simp only [o.cells,Value.cells,bH];exact⟨_,_,rfl,aa,rfl⟩
 |str s=>have aa:=h;simp only [aN]at h;obtain⟨t,rfl,e⟩:=h;simp only [o.cells,Value.cells,bH];exact⟨_,_,rfl,aa,rfl⟩
 |ptr ab =>
  have aa:=h;cases ab with
  |none=>simp only [aN]at h;subst h;simp only [o.cells,Value.cells,bH];exact⟨_,_,rfl,aa,rfl⟩
  |some x=>simp only [aN]at h;obtain⟨t,rfl,e⟩:=h;simp only [o.cells,Value.cells,bH];exact⟨_,_,rfl,aa,rfl⟩
 |slice ab l c =>
  have aa:=h;cases ab with
  |none=>simp only [aN]at h;obtain⟨rfl,_⟩:=h;simp only [o.cells,Value.cells,bH];exact⟨_,_,rfl,aa,rfl⟩
  |some x=>simp only [aN]at h;obtain⟨t,fS,rfl,e⟩:=h;simp only [o.cells,Value.cells,bH];exact⟨_,_,rfl,aa,rfl⟩
 |func fn f c=>have aa:=h;simp only [aN]at h;obtain⟨t,fS,rfl,e⟩:=h;simp only [o.cells,Value.cells,bH];exact⟨_,_,rfl,aa,rfl⟩
 |nilFunc=>have aa:=h;simp only [aN]at h;subst h;simp only [o.cells,Value.cells,bH];exact⟨_,_,rfl,aa,rfl⟩
 |iface t x=>have aa:=h;simp only [aN]at h;obtain⟨t,rfl,e⟩:=h;simp only [o.cells,Value.cells,bH];exact⟨_,_,rfl,aa,rfl⟩
 |nilIface=>have aa:=h;simp only [aN]at h;subst h;simp only [o.cells,Value.cells,bH];exact⟨_,_,rfl,aa,rfl⟩
 |tuple ci=>have aa:=h;simp only [aN]at h;obtain⟨t,rfl,e⟩:=h;simp only [o.cells,Value.cells,bH];exact⟨_,_,rfl,aa,rfl⟩
structure Safe(S:Nat→Prop)(w bC:World):Prop where
 os:bC.os=w.os
 tape:bC.tape=w.tape
 output:bC.output=w.output
 size:w.heap.size≤bC.heap.size
 block:∀k,S k→bC.heap[k]? =w.heap[k]?
def fC(S:Nat→Prop)(n:Nat):Prop:= ∀k,S k→k<n
theorem fC.le{S:Nat→Prop}{n m:Nat}(h:fC S n)(k:n≤m):fC S m:=fun i ak=>Nat.lt_of_lt_of_le (h i ak) k
theorem fC.no{S:Nat→Prop}{n:Nat}(h:fC S n):¬S n:=fun k=>Nat.lt_irrefl _ (h n k)
theorem Safe.refl(S:Nat→Prop)(w:World):Safe S w w:=⟨rfl,rfl,rfl,Nat.le_refl _,fun _ _=>rfl⟩
theorem Safe.trans{S:Nat→Prop}{a b c:World}(h:Safe S a b)(k:Safe S b c):Safe S a c :=
 ⟨k.os.trans h.os,k.tape.trans h.tape,k.output.trans h.output,Nat.le_trans h.size k.size,fun i ak=>(k.block i ak).trans (h.block i ak)⟩
theorem Safe.less{S T:Nat→Prop}{w bC:World}(h:Safe S w bC)(k:∀i,T i→S i):Safe T w bC:=⟨h.os,h.tape,h.output,h.size,fun i ak=>h.block i (k i ak)⟩
theorem Safe.drew{S:Nat→Prop}{a w:World}(h:Safe S a w):Safe S a w.drew:=⟨h.os,h.tape,h.output,h.size,h.block⟩
theorem Safe.alloc{S:Nat→Prop}{a w:World}(h:Safe S a w)(cJ:fC S w.heap.size)(ab:Obj):Safe S a (w.alloc ab) :=
 h.trans ⟨rfl,rfl,rfl,by simp,fun k ap=>Go.RowKit.Below.heap_alloc _ _ _ (cJ k ap)⟩
theorem Safe.setCell{S:Nat→Prop}{a w:World}(h:Safe S a w){I:Addr}(ac:¬S I.block)(u:Value):Safe S a (w.setCell I u) :=
 h.trans ⟨rfl,rfl,rfl,by simp [World.setCell],fun k ap=>Go.RowKit.Below.heap_setCell _ _ _ _ (fun e=>ac (e▸ap))⟩
theorem Safe.below{n:Nat}{w bC:World}(h:Safe (fun k=>k<n) w bC):Go.RowKit.Below n w bC:=⟨h.os,h.tape,h.output,h.size,h.block⟩
def fF(w:World)(b:Nat):Option (TypeId×Nat×Nat×Nat) :=
 match w.heap[b]? with
 |some (.cells c t (a1,ak))=>some (t,c.size,a1,ak)
 |_=>none
def kQ(w:World)(b:Nat):Prop:= ∃t n a1 ak,fF w b=some (t,n,a1,ak)∧(a1=ak∨n≤a1)
theorem kQ.of_eq{w bC:World}{b:Nat}(h:kQ w b)(e:fF bC b=fF w b):kQ bC b:=by unfold kQ;rw [e];exact h
theorem se{w bC:World}{b:Nat}(e:bC.heap[b]? =w.heap[b]?):fF bC b=fF w b:=by unfold fF;rw [e]
structure Row(al:Map)(be:Nat→Prop)(b:R)(v:Nat)(I:Place)(w:World):Prop where
 cq:I.cq<w.heap.size
 base:I.ro=false→ ¬be I.cq
 cells:∀ab,ab<I.fE*I.es→(w.cell? ⟨I.cq,I.off+ab,none⟩).isSome=true
 free:b.ro=false→ ∀ab,ab<I.fE*I.es→w.frozen? ⟨I.cq,I.off+ab,none⟩=false
 mark:b.ro=false→kQ w I.cq
 jn:∀q,b.aq=some q→ ∃n a1 ak,fF w I.cq=some (q.1,n,a1,ak)∧(q.2≠0→n=q.2)∧I.off=0
 cont:∀i e,I.a1≤i→i<b.cO v→b.bi[i]? =some e →
  e.cells.length=I.es∧i-I.a1<I.fE∧∀C bV,e.cells[C]? =some bV→ ∃x,w.cell? (I.at i C)=some x∧aN al bV x∧x.oneCell'=true
structure c4(al:Map)(be:Nat→Prop)(h:j)(w:World):Prop where
 dD:∀i v I,al i v=some I→i<h.next∧∃b,h.get i=some b∧v≤b.J∧I.es=b.es∧I.exact=b.exact∧(b.ro=false→I.ro=false)∧0<I.es∧Row al be b v I w
 apart:∀i v I C u q,al i v=some I→al C u=some q→I.cq=q.cq→i≠C→I.ro=true∧q.ro=true
 same:∀i v I u q,al i v=some I→al i u=some q→I.cq=q.cq→I.off=q.off∧I.a1=q.a1
structure hq(al c1:Map)(n bh:Nat):Prop where
 le:al.le c1
 new:∀i,i<n→i≠bh→(∀v,al i v=none)→ ∀v,c1 i v=none
 ro:∀i v I,c1 i v=some I→I.ro=true→al i v=some I
theorem hq.refl(al:Map)(n bh:Nat):hq al al n bh:=⟨al.le_refl,fun _ _ _ h=>h,fun _ _ _ h _=>h⟩
structure fk(al c1:Map)(n:Nat):Prop where
 le:al.le c1
 new:∀i,i<n→(∀u,al i u=none)→ ∀u,c1 i u=none
 ro:∀i v I,c1 i v=some I→I.ro=true→al i v=some I
theorem fk.refl(al:Map)(n:Nat):fk al al n:=⟨al.le_refl,fun _ _ h=>h,fun _ _ _ h _=>h⟩
theorem fk.trans{al c1 vQ:Map}{n:Nat}(h:fk al c1 n)(k:fk c1 vQ n):fk al vQ n:=⟨Map.le_trans h.le k.le,fun i ak aS=>k.new i ak (h.new i ak aS),fun i v I ac bb=>h.ro i v I (k.ro i v I ac bb) bb⟩
theorem fk.mono{al c1:Map}{n m:Nat}(h:fk al c1 n)(hm:m≤n):fk al c1 m:=⟨h.le,fun i ak aS=>h.new i (by omega) aS,h.ro⟩
theorem j.kP(h:j)(id:Nat)(b:R)(C:Nat):(h.set id b).get C=if id=C then some b else h.get C:=aU.kP b h.aJ id C
@[simp] theorem j.RD(h : j)(id : Nat)(b : R) : (h.set id b).next = h.next := rfl
theorem j.hJ(h:j)(id:Nat)(b:R):(h.set id b).get id=some b:=by simp [j.kP]
theorem j.fl(h:j){id C:Nat}(b:R)(e:id≠C):(h.set id b).get C=h.get C:=by simp [j.kP,e]
@[simp] theorem j.afD(h : j)(n C : Nat) : ({ h with next := n } : j).get C = h.get C := rfl
theorem R.Jl(l:List o)(es:Nat)(e:Bool)(aq:Option (TypeId×Nat))(v:Nat):(R.made l es e aq).cO v=if v=0 then l.length else 0:=by
 by_cases bg:v=0
 ·subst bg;simp [R.cO,R.made]
 ·simp [R.cO,R.made,bg]
structure Alike(w bC:World):Prop where
 size:w.heap.size≤bC.heap.size
 cell:∀a,a.block<w.heap.size→bC.cell? a=w.cell? a
 frozen:∀a,a.block<w.heap.size→bC.frozen? a=w.frozen? a
 mark:∀b,b<w.heap.size→fF bC b=fF w b
theorem Row.alike{al:Map}{be:Nat→Prop}{b:R}{v:Nat}{I:Place}{w bC:World}(r:Row al be b v I w)(k:Alike w bC):Row al be b v I bC where
 cq:=Nat.lt_of_lt_of_le r.cq k.size
 base:=r.base
 cells ab ai:=by rw [k.cell _ r.cq];exact r.cells ab ai
 free bb ab ai:=by rw [k.frozen _ r.cq];exact r.free bb ab ai
 mark bb:=(r.mark bb).of_eq (k.mark _ r.cq)
 jn t bX:=by rw [k.mark _ r.cq];exact r.jn t bX
 cont i e p ad bd:=by obtain⟨bS,bI,dx⟩:=r.cont i e p ad bd;refine⟨bS,bI,fun C bV ae=> ?_⟩;obtain⟨x,dU,fG⟩:=dx C bV ae;exact⟨x,by rw [k.cell _ (by exact r.cq)];exact dU,fG⟩
theorem Row.mono{al c1:Map}(h:al.le c1){be:Nat→Prop}{b:R}{v:Nat}{I:Place}{w:World}(r:Row al be b v I w):Row c1 be b v I w :=
 ⟨r.cq,r.base,r.cells,r.free,r.mark,r.jn,fun i e p ad bd=>by
  obtain⟨bS,bI,dx⟩:=r.cont i e p ad bd;refine⟨bS,bI,fun C bV ae=> ?_⟩;obtain⟨x,dU,fG⟩:=dx C bV ae
  exact⟨x,dU,fG.1.mono h,fG.2⟩⟩
theorem c4.alike{al:Map}{be:Nat→Prop}{h:j}{w bC:World}(r:c4 al be h w)(k:Alike w bC):c4 al be h bC where
 dD i v I ac:=by obtain⟨p,b,ad,bd,bS,bI,dx,cP,cy⟩:=r.dD i v I ac;exact⟨p,b,ad,bd,bS,bI,dx,cP,cy.alike k⟩
 apart:=r.apart
 same:=r.same
theorem c4.next{al:Map}{be:Nat→Prop}{h:j}{w:World}(r:c4 al be h w){n:Nat}(aS:h.next≤n):c4 al be {h with next:=n} w where
 dD i v I ac:=by obtain⟨p,b,ad,bd,bS,bI,dx,cP,cy⟩:=r.dD i v I ac;exact⟨Nat.lt_of_lt_of_le p aS,b,ad,bd,bS,bI,dx,cP,cy⟩
 apart:=r.apart
 same:=r.same
theorem Alike.drew(w:World)(n:Nat):Alike w {w with drawn:=n} :=⟨Nat.le_refl _,fun _ _=>rfl,fun _ _=>rfl,fun _ _=>rfl⟩
theorem heap_alloc(w:World)(ab:Obj):(w.alloc ab).heap=w.heap.push ab:=rfl
theorem size_alloc(w:World)(ab:Obj):(w.alloc ab).heap.size=w.heap.size+1:=by rw [heap_alloc];simp
theorem Alike.alloc(w:World)(ab:Obj):Alike w (w.alloc ab) where
 size:=by rw [size_alloc];omega
 cell a aT:=by
  have:(w.heap.push ab)[a.block]? =w.heap[a.block]? :=by rw [Array.getElem?_push];simp;omega
  simp only [World.cell?,heap_alloc,this]
 frozen a aT:=by
  have:(w.heap.push ab)[a.block]? =w.heap[a.block]? :=by rw [Array.getElem?_push];simp;omega
  simp only [World.frozen?,heap_alloc,this]
 mark b au:=se (by rw [heap_alloc,Array.getElem?_push];simp;omega)
def Map.add(al:Map)(id:Nat)(v:Nat)(I:Place):Map:=fun i u=>if i=id∧u=v then some I else al i u
theorem Map.zd(al:Map)(id v:Nat)(I:Place):al.add id v I id v=some I:=by simp [Map.add]
theorem Map.sf(al:Map){id v:Nat}(I:Place)(h:al id v=none):al.le (al.add id v I):=by
 intro i u q aD;simp only [Map.add];split
 ·rename_i e;obtain⟨rfl,rfl⟩:=e;rw [h]at aD;cases aD
 ·exact aD
theorem Map.CY(al:Map){id v:Nat}(I:Place)(bb:I.ro=false):∀i u q,(al.add id v I) i u=some q→q.ro=true→al i u=some q:=by
 intro i u q aD Jm;unfold Map.add at aD;split at aD
 ·simp only [Option.some.injEq]at aD;subst aD;rw [bb]at Jm;cases Jm
 ·exact aD
theorem hq.add(al:Map){id v:Nat}(I:Place)(h:al id v=none)(n:Nat)(bb:I.ro=false:=by rfl):hq al (al.add id v I) n id where
 le:=al.sf I h
 new i ak b1 aS u:=by simp [Map.add,b1,aS u]
 ro:=al.CY I bb
def flat(l:List o):List o:=l.flatMap o.cells
theorem oL{es:Nat} :∀{l:List o}(az:∀e∈l,e.cells.length=es){i C:Nat}{e x:o},l[i]? =some e→e.cells[C]? =some x→(flat l)[i*es+C]? =some x
 |[],az,i,C,e,x,h,k=>by simp at h
 |a ::r,az,i,C,e,x,h,k=>by
  have aT:a.cells.length=es:=az a (by simp);cases i with
  |zero =>
   simp at h;subst h;simp only [flat,List.flatMap_cons,Nat.zero_mul,Nat.zero_add];rw [List.getElem?_append_left (List.getElem?_eq_some_iff.1 k).1];exact k
  |succ i =>
   simp at h;have ih:=oL (l:=r) (fun e he=>az e (by simp [he])) h k;simp only [flat,List.flatMap_cons]at ih⊢;rw [List.getElem?_append_right (by rw [aT,Nat.succ_mul];omega),aT,show(i+1)*es+C-es=i*es+C by rw [Nat.succ_mul];omega];exact ih
theorem li{es:Nat} :∀{l:List o}(az:∀e∈l,e.cells.length=es),(flat l).length=l.length*es
 |[],_=>by simp [flat]
 |a::r,az=>by have aT:a.cells.length=es:=az a (by simp);have ih:=li (l:=r) (fun e he=>az e (by simp [he]));simp only [flat,List.flatMap_cons,List.length_append,List.length_cons]at ih⊢;rw [ih,aT,Nat.succ_mul];omega
theorem tO(w:World)(c:Array Value)(t:TypeId)(f:Nat×Nat)(ab:Nat):(w.alloc (.cells c t f)).cell? ⟨w.heap.size,ab,none⟩=c[ab]? :=by simp [World.cell?,heap_alloc]
theorem Jn(w:World)(c:Array Value)(t:TypeId)(ab:Nat):(w.alloc (.cells c t)).frozen? ⟨w.heap.size,ab,none⟩=false:=by simp [World.frozen?,heap_alloc]
theorem c4.made{al:Map}{be:Nat→Prop}{h:j}{w:World}(r:c4 al be h w){bh:Nat}(hid:∀v,al bh v=none)(aS:bh<h.next)(dn:fC be w.heap.size)
 {l:List o} {es:Nat} (cw:0<es) (az:∀e∈l,e.cells.length=es) {c:Array Value} {t:TypeId} {fE:Nat} {ex:Bool}
 (av:bH al (flat l) (c.toList.take (l.length*es))) (eX:fE*es≤c.size) (oM:l.length≤fE) (ko:∀x∈c.toList.take (l.length*es),x.oneCell'=true) {aq:Option (TypeId×Nat)} (kR:∀q,aq=some q→q.1=t∧(q.2≠0→c.size=q.2)) :
 c4 (al.add bh 0 ⟨w.heap.size,0,0,es,fE,ex,false⟩) be (h.set bh (.made l es ex aq)) (w.alloc (.cells c t)):=by
 have hle:=al.sf (id:=bh) (v:=0) ⟨w.heap.size,0,0,es,fE,ex,false⟩ (hid 0);constructor
 ·intro i v I ac;simp only [Map.add]at ac;split at ac
  ·rename_i e;obtain⟨rfl,rfl⟩:=e;simp at ac;subst ac;refine⟨aS,.made l es ex aq,j.hJ _ _ _,Nat.le_refl _,rfl,rfl,fun _=>rfl,cw,?_⟩;constructor
   ·rw [size_alloc];simp
   ·intro _;exact dn.no
   ·intro ab ai;simp only at ai⊢;rw [tO,Nat.zero_add,Array.getElem?_eq_getElem (by omega)];rfl
   ·intro _ ab ai;exact Jn _ _ _ _
   ·intro _;exact⟨t,c.size,0,0,by simp [fF,heap_alloc],.inl rfl⟩
   ·intro fj bX;exact⟨c.size,0,0,by rw [(kR fj bX).1];simp [fF,heap_alloc],(kR fj bX).2,rfl⟩
   ·intro i e _ ak he;rw [R.Jl]at ak;simp at ak;have jD:l[i]? =some e:=he;have hm:e∈l:=List.mem_of_getElem? jD;refine⟨az e hm,by simp only;omega,fun C bV ae=> ?_⟩;have a8:=oL az jD ae;obtain⟨x,dU,fG⟩:=av.get a8;refine⟨x,?_,fG.mono hle,ko x (List.mem_of_getElem? dU)⟩;simp only [Place.at,Nat.sub_zero,Nat.zero_add];rw [tO];rw [List.getElem?_take]at dU;split at dU
    ·simpa using dU
    ·simp at dU
  ·obtain⟨p,b,ad,bd,bS,bI,dx,cP,cy⟩:=r.dD i v I ac;have b1:bh≠i:=by intro e;subst e;rw [hid v]at ac;cases ac
   exact⟨p,b,by rw [j.fl _ _ b1];exact ad,bd,bS,bI,dx,cP,(cy.alike (Alike.alloc _ _)).mono hle⟩
 ·intro i v I C u q ac aD au iE;simp only [Map.add]at ac aD;split at ac<;>split at aD
  ·rename_i bn bs;exact absurd (bn.1.trans bs.1.symm) iE
  ·simp at ac;subst ac;obtain⟨_,b,_,_,_,_,_,_,cy⟩:=r.dD C u q aD;have:=cy.cq;simp only at au;omega
  ·simp at aD;subst aD;obtain⟨_,b,_,_,_,_,_,_,cy⟩:=r.dD i v I ac;have:=cy.cq;simp only at au;omega
  ·exact r.apart i v I C u q ac aD au iE
 ·intro i v I u q ac aD au;simp only [Map.add]at ac aD;split at ac<;>split at aD
  ·simp at ac aD;subst ac aD;exact⟨rfl,rfl⟩
  ·simp at ac;subst ac;obtain⟨_,b,_,_,_,_,_,_,cy⟩:=r.dD i u q aD;have:=cy.cq;simp only at au;omega
  ·simp at aD;subst aD;obtain⟨_,b,_,_,_,_,_,_,cy⟩:=r.dD i v I ac;have:=cy.cq;simp only at au;omega
  ·exact r.same i v I u q ac aD au
theorem c4.RE{al:Map}{be:Nat→Prop}{h:j}{w:World}(r:c4 al be h w){bh:Nat}(hid:∀v,al bh v=none)(aS:bh<h.next)(dn:fC be w.heap.size)
 {l:List o} {es:Nat} (cw:0<es) (az:∀e∈l,e.cells.length=es) {c:Array Value} {t:TypeId} {cU:Nat×Nat} {fE:Nat} {ex:Bool}
 (av:bH al (flat l) (c.toList.take (l.length*es))) (eX:fE*es≤c.size) (oM:l.length≤fE) (ko:∀x∈c.toList.take (l.length*es),x.oneCell'=true) (Jo:cU.1=cU.2∨c.size≤cU.1) {aq:Option (TypeId×Nat)} (kR:∀q,aq=some q→q.1=t∧(q.2≠0→c.size=q.2)) :
 c4 (al.add bh 0 ⟨w.heap.size,0,0,es,fE,ex,false⟩) be (h.set bh (.made l es ex aq)) (w.alloc (.cells c t cU)):=by
 have hle:=al.sf (id:=bh) (v:=0) ⟨w.heap.size,0,0,es,fE,ex,false⟩ (hid 0);constructor
 ·intro i v I ac;simp only [Map.add]at ac;split at ac
  ·rename_i e;obtain⟨rfl,rfl⟩:=e;simp at ac;subst ac;refine⟨aS,.made l es ex aq,j.hJ _ _ _,Nat.le_refl _,rfl,rfl,fun _=>rfl,cw,?_⟩;constructor
   ·rw [size_alloc];simp
   ·intro _;exact dn.no
   ·intro ab ai;simp only at ai⊢;rw [tO,Nat.zero_add,Array.getElem?_eq_getElem (by omega)];rfl
   ·intro _ ab ai;simp only at ai⊢;rw [Nat.zero_add];simp only [World.frozen?,heap_alloc,Array.getElem?_push_size];obtain⟨f1,f2⟩:=cU;simp only at Jo⊢;simp;omega
   ·intro _;exact⟨t,c.size,cU.1,cU.2,by simp [fF,heap_alloc],Jo⟩
   ·intro fj bX;exact⟨c.size,cU.1,cU.2,by rw [(kR fj bX).1];simp [fF,heap_alloc],(kR fj bX).2,rfl⟩
   ·intro i e _ ak he;rw [R.Jl]at ak;simp at ak;have jD:l[i]? =some e:=he;have hm:e∈l:=List.mem_of_getElem? jD;refine⟨az e hm,by simp only;omega,fun C bV ae=> ?_⟩;have a8:=oL az jD ae;obtain⟨x,dU,fG⟩:=av.get a8;refine⟨x,?_,fG.mono hle,ko x (List.mem_of_getElem? dU)⟩;simp only [Place.at,Nat.sub_zero,Nat.zero_add];rw [tO];rw [List.getElem?_take]at dU;split at dU
    ·simpa using dU
    ·simp at dU
  ·obtain⟨p,b,ad,bd,bS,bI,dx,cP,cy⟩:=r.dD i v I ac;have b1:bh≠i:=by intro e;subst e;rw [hid v]at ac;cases ac
   exact⟨p,b,by rw [j.fl _ _ b1];exact ad,bd,bS,bI,dx,cP,(cy.alike (Alike.alloc _ _)).mono hle⟩
 ·intro i v I C u q ac aD au iE;simp only [Map.add]at ac aD;split at ac<;>split at aD
  ·rename_i bn bs;exact absurd (bn.1.trans bs.1.symm) iE
  ·simp at ac;subst ac;obtain⟨_,b,_,_,_,_,_,_,cy⟩:=r.dD C u q aD;have:=cy.cq;simp only at au;omega
  ·simp at aD;subst aD;obtain⟨_,b,_,_,_,_,_,_,cy⟩:=r.dD i v I ac;have:=cy.cq;simp only at au;omega
  ·exact r.apart i v I C u q ac aD au iE
 ·intro i v I u q ac aD au;simp only [Map.add]at ac aD;split at ac<;>split at aD
  ·simp at ac aD;subst ac aD;exact⟨rfl,rfl⟩
  ·simp at ac;subst ac;obtain⟨_,b,_,_,_,_,_,_,cy⟩:=r.dD i u q aD;have:=cy.cq;simp only at au;omega
  ·simp at aD;subst aD;obtain⟨_,b,_,_,_,_,_,_,cy⟩:=r.dD i v I ac;have:=cy.cq;simp only at au;omega
  ·exact r.same i v I u q ac aD au
end
end Go.cM
namespace Go.cM
noncomputable section
theorem CZ:∀(ci l:List o)(i:Nat),(jC l i ci).length=l.length
 |[],l,i=>rfl
 |v::ci,l,i=>by simp [jC,CZ ci]
theorem ze:∀(ci l:List o)(i k:Nat),(jC l i ci)[k]? =if i≤k∧k<i+ci.length∧k<l.length then ci[k-i]? else l[k]?
 |[],l,i,k=>by simp only [jC,List.length_nil,Nat.add_zero];rw [if_neg (by omega)]
 |v ::ci,l,i,k=>by
  simp only [jC,List.length_cons];rw [ze ci (l.set i v) (i+1) k,List.length_set];by_cases ap:i=k
  ·subst ap;rw [if_neg (by omega)];by_cases az:i<l.length
   ·rw [if_pos (by omega),List.getElem?_set_self az];simp
   ·rw [if_neg (by omega),List.getElem?_eq_none (by simpa using az),List.getElem?_eq_none (by omega)]
  ·rw [List.getElem?_set_ne ap];by_cases h:i+1≤k∧k<i+1+ci.length∧k<l.length
   ·rw [if_pos h,if_pos (by omega),show k-i=k- (i+1)+1 by omega];simp
   ·rw [if_neg h,if_neg (by omega)]
theorem World.C0(b:Nat):∀(ci:List Value)(ab:Nat)(w:World),(w.setCells b ab ci).heap.size=w.heap.size
 |[],_,_=>rfl
 |v::r,ab,w=>by rw [World.setCells,World.C0 b r];exact World.size_setCell _ _ _
theorem Jp(w:World)(a:Addr)(v:Value)(k:Nat):fF (w.setCell a v) k=fF w k:=by
 unfold fF World.setCell;simp only [Array.getElem?_modify];by_cases h:a.block=k
 ·subst h;simp only [if_true];cases bW:w.heap[a.block]? with
  |none=>rfl
  |some ab =>
   cases ab
   case cells c t f =>
    obtain⟨a1,ak⟩:=f;simp only [Option.map_some];split<;>simp
   all_goals rfl
 ·rw [if_neg h]
theorem kQ.setCells{w:World}{k:Nat}(h:kQ w k)(b ab:Nat):∀(ci:List Value),kQ (w.setCells b ab ci) k:=by
 intro ci;induction ci generalizing w ab with
 |nil=>exact h
 |cons v r ih=>exact ih (h.of_eq (Jp _ _ _ _)) _
theorem vS{w:World}(k b ab:Nat):∀(ci:List Value),fF (w.setCells b ab ci) k=fF w k:=by
 intro ci;induction ci generalizing w ab with
 |nil=>rfl
 |cons v r ih=>exact(ih _).trans (Jp _ _ _ _)
theorem tP{i C es fE:Nat}(ak:i<fE)(aV:C<es):i*es+C<fE*es:=by have h:(i+1)*es≤fE*es:=Nat.mul_le_mul_right es ak;rw [Nat.succ_mul]at h;omega
theorem tQ{i k C es:Nat}(ak:i<k)(aV:C<es):i*es+C<k*es:=tP ak aV
theorem c4.wrote{al:Map}{be:Nat→Prop}{h:j}{w:World}(r:c4 al be h w){id:Nat}{b:R}{I:Place}(ac:al id b.J=some I)(au:h.get id=some b)
 (eY:b.ro=false) {l:List o} (az:l.length=b.bi.length) {ab:Nat} {ci:List Value}
 (av:∀i e,I.a1≤i→l[i]? =some e→e.cells.length=I.es∧∀C bV,e.cells[C]? =some bV→ ∃x,(w.setCells I.cq ab ci).cell? (I.at i C)=some x∧aN al bV x∧x.oneCell'=true) :
 c4 al be (h.set id {b with bi:=l,fX:=b.J}) (w.setCells I.cq ab ci):=by
 constructor
 ·intro i v q aD;obtain⟨p,c,ad,bd,bS,bI,dx,cP,cy⟩:=r.dD i v q aD;have eX:=World.C0 I.cq ci ab w;by_cases ak:i=id
  ·subst ak;rw [au]at ad;simp at ad;subst ad;refine⟨p,_,j.hJ _ _ _,bd,bS,bI,dx,cP,⟨by rw [eX];exact cy.cq,cy.base,fun eG hK=>World.isSome_setCells _ _ _ _ _ (cy.cells eG hK),fun fA eG hK=>by rw [World.frozen?_setCells];exact cy.free fA eG hK,fun fA=>(cy.mark fA).setCells _ _ _,fun t9 fA=>by rw [vS];exact cy.jn t9 fA,?_⟩⟩;intro k e gq cB lj;simp only [R.cO]at cB;by_cases bg:v=b.J
   ·subst bg;rw [ac]at aD;simp at aD;subst aD;rw [if_pos rfl]at cB;obtain⟨dT,jD⟩:∃dT,b.bi[k]? =some dT:=⟨_,List.getElem?_eq_getElem (by simpa [az]using cB)⟩
    have:=cy.cont k dT gq (by simpa [R.cO,az]using cB) jD;exact⟨(av k e gq lj).1,this.2.1,(av k e gq lj).2⟩
   ·exfalso;rw [if_neg bg]at cB;rw [if_neg (by omega)]at cB;omega
  ·have b1:I.cq≠q.cq:=by intro e;have:=r.apart id b.J I i v q ac aD e (fun e=>ak e.symm);obtain⟨_,iS,zf,_,_,_,Jq,_,_⟩:=r.dD id b.J I ac;rw [au]at zf;simp at zf;subst zf;rw [Jq eY]at this;simp at this
   refine⟨p,c,by rw [j.fl _ _ (fun e=>ak e.symm)];exact ad,bd,bS,bI,dx,cP,?_⟩;have nG:∀a:Addr,a.block=q.cq→(w.setCells I.cq ab ci).cell? a=w.cell? a:=fun a aT=>World.cell?_setCells_out _ _ _ _ _ (fun bW _=>absurd (bW.symm.trans aT) b1)
   refine⟨by rw [eX];exact cy.cq,cy.base,fun eG hK=>by rw [nG _ rfl];exact cy.cells eG hK,fun fA eG hK=>by rw [World.frozen?_setCells];exact cy.free fA eG hK,fun fA=>(cy.mark fA).setCells _ _ _,fun t9 fA=>by rw [vS];exact cy.jn t9 fA,?_⟩;intro k e gq cB lj;obtain⟨nH,C1,C2⟩:=cy.cont k e gq cB lj;refine⟨nH,C1,fun C bV ae=> ?_⟩;obtain⟨x,dU,fG⟩:=C2 C bV ae;exact⟨x,by rw [nG _ rfl];exact dU,fG⟩
 ·exact r.apart
 ·exact r.same
theorem c4.store{al:Map}{be:Nat→Prop}{h:j}{w:World}(r:c4 al be h w){id:Nat}{b:R}{I:Place}(ac:al id b.J=some I)(au:h.get id=some b)
 (eY:b.ro=false) {idx bR:Nat} {e dT:o} {bp:List o} {ci:List Value} (eZ:I.a1≤idx) (he:b.bi[idx]? =some e)
 (en:bH al bp ci) (ko:∀x∈ci,x.oneCell'=true) (oN:bR+bp.length≤I.es) (hlen:dT.cells=jC e.cells bR bp) :
 c4 al be (h.set id {b with bi:=b.bi.set idx dT,fX:=b.J}) (w.setCells I.cq (I.off+(idx-I.a1)*I.es+bR) ci)
 ∧w.there I.cq (I.off+(idx-I.a1)*I.es+bR) ci.length:=by
 obtain⟨p,c,ad,bd,bS,bI,dx,cP,cy⟩:=r.dD id b.J I ac;rw [au]at ad;simp at ad;subst ad;have sg:idx<b.bi.length:=(List.getElem?_eq_some_iff.1 he).1;have lk:b.cO b.J=b.bi.length:=by simp [R.cO]
 obtain⟨dG,ee,f'⟩:=cy.cont idx e eZ (by rw [lk];exact sg) he;have ll:ci.length=bp.length:=en.length
 have qN:w.there I.cq (I.off+(idx-I.a1)*I.es+bR) ci.length:=by
  intro C aV;have au:(idx-I.a1)*I.es+(bR+C)<I.fE*I.es:=tP ee (by omega);have aM:=cy.cells _ au;have aR:=cy.free eY _ au;have bn:I.off+(idx-I.a1)*I.es+bR+C=I.off+((idx-I.a1)*I.es+(bR+C)):=by omega
  rw [bn];exact⟨aM,aR⟩
 refine⟨?_,qN⟩;refine r.wrote ac au eY (by simp) fun i f ak a8=> ?_
 by_cases Jr:idx=i
 ·subst Jr;rw [List.getElem?_set_self sg]at a8;simp at a8;subst a8;refine⟨by rw [hlen,CZ];exact dG,fun C bV ae=> ?_⟩;rw [hlen,ze]at ae;split at ae
  ·rename_i av;obtain⟨x,dU,fG⟩:=en.get ae;have qO:C-bR<ci.length:=by omega
   have:=World.cell?_setCells_in I.cq ci (I.off+(idx-I.a1)*I.es+bR) w (fun k ap=>(qN k ap).1) (C-bR) qO;refine⟨x,?_,fG,ko x (List.mem_of_getElem? dU)⟩;rw [List.getElem?_eq_getElem qO]at dU;simp at dU;rw [Place.at,show I.off+(idx-I.a1)*I.es+C=I.off+(idx-I.a1)*I.es+bR+(C-bR)by omega,this,dU]
  ·rename_i av;obtain⟨x,dU,fG⟩:=f' C bV ae;refine⟨x,?_,fG⟩;have aV:C<e.cells.length:=(List.getElem?_eq_some_iff.1 ae).1;rw [World.cell?_setCells_out _ _ _ _ _ (fun _ _=> ?_)]
   ·exact dU
   ·simp only [Place.at];omega
 ·rw [List.getElem?_set_ne Jr]at a8;have ga:i<b.bi.length:=(List.getElem?_eq_some_iff.1 a8).1;obtain⟨d1,d2,d3⟩:=cy.cont i f ak (by rw [lk];exact ga) a8;refine⟨d1,fun C bV ae=> ?_⟩;obtain⟨x,dU,fG⟩:=d3 C bV ae;refine⟨x,?_,fG⟩;have aV:C<f.cells.length:=(List.getElem?_eq_some_iff.1 ae).1;rw [World.cell?_setCells_out _ _ _ _ _ (fun _ _=> ?_)]
  ·exact dU
  ·simp only [Place.at];rcases Nat.lt_or_ge i idx with cQ|gr
   ·left;have:=tQ (i:=i-I.a1) (k:=idx-I.a1) (C:=C) (es:=I.es) (by omega) (by omega);omega
   ·right;have:=tQ (i:=idx-I.a1) (k:=i-I.a1) (C:=bR+ci.length-1) (es:=I.es) (by omega) (by omega);omega
theorem zg{es:Nat} :∀{l:List o}(az:∀e∈l,e.cells.length=es)(k:Nat),k<(flat l).length→ ∃i C e,k=i*es+C∧l[i]? =some e∧C<es
 |[],az,k,h=>by simp [flat]at h
 |a ::r,az,k,h=>by
  have aT:a.cells.length=es:=az a (by simp);by_cases ap:k<es
  ·exact⟨0,k,a,by simp,by simp,ap⟩
  ·obtain⟨i,C,e,p,ad,bd⟩:=zg (l:=r) (fun e he=>az e (by simp [he])) (k-es) (by simp only [flat,List.flatMap_cons,List.length_append]at h⊢; omega);exact⟨i+1,C,e,by rw [Nat.succ_mul];omega,by simpa using ad,bd⟩
theorem c4.RF{al:Map}{be:Nat→Prop}{h:j}{w:World}(r:c4 al be h w){id:Nat}{b:R}{I:Place}(ac:al id b.J=some I)(au:h.get id=some b)
 (eY:b.ro=false) {idx:Nat} {l:List o} {ci:List Value} (eZ:I.a1≤idx) (cQ:idx+l.length≤b.bi.length) (b1:l≠[])
 (az:∀e∈l,e.cells.length=I.es) (vT:bH al (flat l) ci) (ko:∀x∈ci,x.oneCell'=true) :
 c4 al be (h.set id (b.put idx l)) (w.setCells I.cq (I.off+(idx-I.a1)*I.es) ci)
 ∧w.there I.cq (I.off+(idx-I.a1)*I.es) ci.length:=by
 obtain⟨p,c,ad,bd,bS,bI,dx,cP,cy⟩:=r.dD id b.J I ac;rw [au]at ad;simp at ad;subst ad;have lk:b.cO b.J=b.bi.length:=by simp [R.cO]
 have ll:ci.length=l.length*I.es:=by rw [vT.length,li az]
 have jE:0<l.length:=List.length_pos_iff.2 b1
 have afE:idx+l.length-1-I.a1<I.fE:=by
  have pL:idx+l.length-1<b.bi.length:=by omega
  exact(cy.cont (idx+l.length-1) _ (by omega) (by rw [lk];exact pL) (List.getElem?_eq_getElem pL)).2.1
 have hmul:(idx-I.a1+l.length)*I.es≤I.fE*I.es:=Nat.mul_le_mul_right _ (by omega);rw [Nat.add_mul]at hmul
 have qN:w.there I.cq (I.off+(idx-I.a1)*I.es) ci.length:=by
  intro C aV;have au:(idx-I.a1)*I.es+C<I.fE*I.es:=by omega
  have bn:I.off+(idx-I.a1)*I.es+C=I.off+((idx-I.a1)*I.es+C):=by omega
  rw [bn];exact⟨cy.cells _ au,cy.free eY _ au⟩
 refine⟨?_,qN⟩;refine r.wrote ac au eY (by simp [CZ]) fun i f ak a8=> ?_
 rw [ze]at a8;split at a8
 ·rename_i av;have hm:f∈l:=List.mem_of_getElem? a8;refine⟨az f hm,fun C bV ae=> ?_⟩;have aV:C<I.es:=by rw [←az f hm];exact(List.getElem?_eq_some_iff.1 ae).1
  have ag:=oL az a8 ae;obtain⟨x,dU,fG⟩:=vT.get ag;refine⟨x,?_,fG,ko x (List.mem_of_getElem? dU)⟩;have qO:(i-idx)*I.es+C<ci.length:=by rw [ll];exact tP (by omega) aV
  have:=World.cell?_setCells_in I.cq ci (I.off+(idx-I.a1)*I.es) w (fun k ap=>(qN k ap).1) _ qO;rw [List.getElem?_eq_getElem qO]at dU;simp at dU;have bs:(i-I.a1)*I.es=(idx-I.a1)*I.es+(i-idx)*I.es:=by rw [←Nat.add_mul];congr 1;omega
  rw [Place.at,show I.off+(i-I.a1)*I.es+C=I.off+(idx-I.a1)*I.es+((i-idx)*I.es+C)by omega,this,dU]
 ·rename_i av;have ga:i<b.bi.length:=(List.getElem?_eq_some_iff.1 a8).1;obtain⟨d1,d2,d3⟩:=cy.cont i f ak (by rw [lk];exact ga) a8;refine⟨d1,fun C bV ae=> ?_⟩;obtain⟨x,dU,fG⟩:=d3 C bV ae;refine⟨x,?_,fG⟩;have aV:C<f.cells.length:=(List.getElem?_eq_some_iff.1 ae).1;rw [World.cell?_setCells_out _ _ _ _ _ (fun _ _=> ?_)]
  ·exact dU
  ·simp only [Place.at];rcases Nat.lt_or_ge i idx with cQ|gr
   ·left;have:=tQ (i:=i-I.a1) (k:=idx-I.a1) (C:=C) (es:=I.es) (by omega) (by omega);omega
   ·right;have:=Nat.mul_le_mul_right I.es (show idx-I.a1+l.length≤i-I.a1 by omega);rw [Nat.add_mul]at this;omega
theorem R.Js(b:R)(new:List o)(v:Nat):(b.grow new).cO v =
 if v=b.J+1 then b.bi.length+new.length else if b.fX≤v∧v<b.J+1 then(if b.fX=b.J then b.bi.length else min b.gQ b.bi.length)else 0:=by
 rw [←List.length_append];rfl
theorem R.Jt(b:R)(new:List o)(v:Nat)(h:v≤b.J):(b.grow new).cO v≤b.cO v∧(b.grow new).cO v≤b.bi.length:=by rw [R.Js];unfold R.cO;rw [if_neg (by omega)];constructor<;>(repeat' split)<;>omega
theorem R.Ju(b:R)(new:List o):(b.grow new).cO (b.J+1)=b.bi.length+new.length:=by rw [R.Js,if_pos rfl]
theorem c4.RG{al:Map}{be:Nat→Prop}{h:j}{w:World}(r:c4 al be h w){id:Nat}{b:R}{I:Place}(ac:al id b.J=some I)(au:h.get id=some b)
 (eY:b.ro=false) (hex:b.exact=false) (dn:fC be w.heap.size) {idx:Nat} {new:List o} (sg:idx≤b.bi.length)
 (hold:∀e∈b.bi.drop idx,e.cells.length=b.es) (ff:∀e∈new,e.cells.length=b.es)
 {c:Array Value} {t:TypeId} {fE:Nat} (av:bH al (flat (b.bi.drop idx++new)) (c.toList.take ((b.bi.drop idx++new).length*b.es)))
 (eX:fE*b.es≤c.size) (oM:(b.bi.drop idx++new).length≤fE)
 (ko:∀x∈c.toList.take ((b.bi.drop idx++new).length*b.es),x.oneCell'=true) (kR:∀q,b.aq=some q→q.1=t∧(q.2≠0→c.size=q.2)) :
 c4 (al.add id (b.J+1) ⟨w.heap.size,0,idx,b.es,fE,false,false⟩) be (h.set id (b.grow new)) (w.alloc (.cells c t)):=by
 have jF:al id (b.J+1)=none:=by
  cases aD:al id (b.J+1)with
  |none=>rfl
  |some q=>obtain⟨_,iS,ad,bd,_⟩:=r.dD _ _ _ aD;rw [au]at ad;simp at ad;subst ad;omega
 have hle:=al.sf (id:=id) (v:=b.J+1) ⟨w.heap.size,0,idx,b.es,fE,false,false⟩ jF;obtain⟨g1,iS,g2,g3,g4,g5,g6,g7,g8⟩:=r.dD id b.J I ac;rw [au]at g2;simp at g2;subst g2;constructor
 ·intro i v q aD;simp only [Map.add]at aD;split at aD
  ·rename_i e;obtain⟨rfl,rfl⟩:=e;simp at aD;subst aD;refine⟨g1,b.grow new,j.hJ _ _ _,Nat.le_refl _,rfl,hex.symm,fun _=>rfl,by rw [←g4];exact g7,?_⟩;constructor
   ·rw [size_alloc];simp
   ·intro _;exact dn.no
   ·intro ab ai;simp only at ai⊢;rw [tO,Nat.zero_add,Array.getElem?_eq_getElem (by omega)];rfl
   ·intro _ ab ai;exact Jn _ _ _ _
   ·intro _;exact⟨t,c.size,0,0,by simp [fF,heap_alloc],.inl rfl⟩
   ·intro fj bX;exact⟨c.size,0,0,by rw [(kR fj bX).1];simp [fF,heap_alloc],(kR fj bX).2,rfl⟩
   ·intro k e gq cB lj;rw [R.Ju]at cB;have hlen:(b.bi.drop idx++new).length=b.bi.length-idx+new.length:=by simp
    have hr:∀e∈b.bi.drop idx++new,e.cells.length=b.es:=fun e he=>by
     rcases List.mem_append.1 he with he|he
     ·exact hold e he
     ·exact ff e he
    have kp:(b.bi++new)[k]? =some e:=lj
    have Jv:(b.bi.drop idx++new)[k-idx]? =some e:=by
     simp only at gq;by_cases lm:k<b.bi.length
     ·rw [List.getElem?_append_left lm]at kp;rw [List.getElem?_append_left (by simp;omega),List.getElem?_drop,show idx+(k-idx)=k by omega];exact kp
     ·rw [List.getElem?_append_right (by omega)]at kp;rw [List.getElem?_append_right (by simp;omega),List.length_drop,show k-idx- (b.bi.length-idx)=k-b.bi.length by omega];exact kp
    have hm:=List.mem_of_getElem? Jv;refine⟨hr e hm,by simp only at gq⊢; omega,fun C bV ae=> ?_⟩;have a8:=oL hr Jv ae;obtain⟨x,dU,fG⟩:=av.get a8;refine⟨x,?_,fG.mono hle,ko x (List.mem_of_getElem? dU)⟩;simp only [Place.at,Nat.zero_add];rw [tO];rw [List.getElem?_take]at dU;split at dU
    ·simpa using dU
    ·simp at dU
  ·obtain⟨p,fS,ad,bd,bS,bI,dx,cP,cy⟩:=r.dD i v q aD;by_cases ak:i=id
   ·subst ak;rw [au]at ad;simp at ad;subst ad;have sh:=(cy.alike (Alike.alloc w (.cells c t))).mono hle;have lk:=R.Jt b new v bd;refine⟨p,b.grow new,j.hJ _ _ _,by simp only [R.grow];omega,bS,bI,dx,cP,⟨sh.cq,sh.base,sh.cells,sh.free,sh.mark,sh.jn,fun k e gq cB lj=>sh.cont k e gq (by omega) ?_⟩⟩;have kp:(b.bi++new)[k]? =some e:=lj
    rwa [List.getElem?_append_left (by omega)]at kp
   ·exact⟨p,fS,by rw [j.fl _ _ (fun e=>ak e.symm)];exact ad,bd,bS,bI,dx,cP,(cy.alike (Alike.alloc _ _)).mono hle⟩
 ·intro i v q C u jG aD eH kS iE;simp only [Map.add]at aD eH;split at aD<;>split at eH
  ·rename_i bn bs;exact absurd (bn.1.trans bs.1.symm) iE
  ·simp at aD;subst aD;obtain⟨_,_,_,_,_,_,_,_,cy⟩:=r.dD C u jG eH;have:=cy.cq;simp only at kS;omega
  ·simp at eH;subst eH;obtain⟨_,_,_,_,_,_,_,_,cy⟩:=r.dD i v q aD;have:=cy.cq;simp only at kS;omega
  ·exact r.apart i v q C u jG aD eH kS iE
 ·intro i v q u jG aD eH kS;simp only [Map.add]at aD eH;split at aD<;>split at eH
  ·simp at aD eH;subst aD eH;exact⟨rfl,rfl⟩
  ·simp at aD;subst aD;obtain⟨_,_,_,_,_,_,_,_,cy⟩:=r.dD i u jG eH;have:=cy.cq;simp only at kS;omega
  ·simp at eH;subst eH;obtain⟨_,_,_,_,_,_,_,_,cy⟩:=r.dD i v q aD;have:=cy.cq;simp only at kS;omega
  ·exact r.same i v q u jG aD eH kS
theorem c4.RH{al:Map}{be:Nat→Prop}{h:j}{w:World}(r:c4 al be h w){id:Nat}{b:R}{I:Place}(ac:al id b.J=some I)(au:h.get id=some b)
 (eY:b.ro=false) {new:List o} {ci:List Value} (eZ:I.a1≤b.bi.length) (zh:b.bi.length-I.a1+new.length≤I.fE)
 (ff:∀e∈new,e.cells.length=I.es) (vT:bH al (flat new) ci) (ko:∀x∈ci,x.oneCell'=true) :
 c4 (al.add id (b.J+1) I) be (h.set id (b.grow new)) (w.setCells I.cq (I.off+(b.bi.length-I.a1)*I.es) ci)
 ∧w.there I.cq (I.off+(b.bi.length-I.a1)*I.es) ci.length:=by
 have jF:al id (b.J+1)=none:=by
  cases aD:al id (b.J+1)with
  |none=>rfl
  |some q=>obtain⟨_,iS,ad,bd,_⟩:=r.dD _ _ _ aD;rw [au]at ad;simp at ad;subst ad;omega
 have hle:=al.sf (id:=id) (v:=b.J+1) I jF;obtain⟨g1,iS,g2,g3,g4,g5,g6,g7,g8⟩:=r.dD id b.J I ac;rw [au]at g2;simp at g2;subst g2;have ll:ci.length=new.length*I.es:=by rw [vT.length,li ff]
 have hmul:(b.bi.length-I.a1+new.length)*I.es≤I.fE*I.es:=Nat.mul_le_mul_right _ zh;rw [Nat.add_mul]at hmul
 have qN:w.there I.cq (I.off+(b.bi.length-I.a1)*I.es) ci.length:=by
  intro C aV;have au:(b.bi.length-I.a1)*I.es+C<I.fE*I.es:=by omega
  have bn:I.off+(b.bi.length-I.a1)*I.es+C=I.off+((b.bi.length-I.a1)*I.es+C):=by omega
  rw [bn];exact⟨g8.cells _ au,g8.free eY _ au⟩
 refine⟨?_,qN⟩;have eX:=World.C0 I.cq ci (I.off+(b.bi.length-I.a1)*I.es) w
 have Jw:∀(q:Place)(k C:Nat),q.cq=I.cq→q.off=I.off→q.a1=I.a1→q.es=I.es→k<b.bi.length→q.a1≤k→C<q.es →
  (w.setCells I.cq (I.off+(b.bi.length-I.a1)*I.es) ci).cell? (q.at k C)=w.cell? (q.at k C):=by
  intro q k C C3 tR RI RJ gq cB aV;refine World.cell?_setCells_out _ _ _ _ _ (fun _ _=> .inl ?_);simp only [Place.at,tR,RI,RJ];have:=tQ (i:=k-I.a1) (k:=b.bi.length-I.a1) (C:=C) (es:=I.es) (by omega) (by omega);omega
 have RL:b.cO b.J=b.bi.length:=by simp [R.cO]
 constructor
 ·intro i v q aD;simp only [Map.add]at aD;split at aD
  ·rename_i e;obtain⟨rfl,rfl⟩:=e;simp at aD;subst aD;refine⟨g1,b.grow new,j.hJ _ _ _,Nat.le_refl _,g4,g5,g6,g7,⟨by rw [eX];exact g8.cq,g8.base,fun eG hK=>World.isSome_setCells _ _ _ _ _ (g8.cells eG hK),fun fA eG hK=>by rw [World.frozen?_setCells];exact g8.free fA eG hK,fun fA=>(g8.mark fA).setCells _ _ _,fun t9 fA=>by rw [vS];exact g8.jn t9 fA,?_⟩⟩;intro k e gq cB lj;rw [R.Ju]at cB;have kp:(b.bi++new)[k]? =some e:=lj;by_cases lm:k<b.bi.length
   ·rw [List.getElem?_append_left lm]at kp;obtain⟨d1,d2,d3⟩:=g8.cont k e gq (by rw [RL];exact lm) kp;refine⟨d1,d2,fun C bV ae=> ?_⟩;obtain⟨x,dU,fG⟩:=d3 C bV ae;have aV:C<e.cells.length:=(List.getElem?_eq_some_iff.1 ae).1;exact⟨x,by rw [Jw I k C rfl rfl rfl rfl lm gq (by omega)];exact dU,fG.1.mono hle,fG.2⟩
   ·rw [List.getElem?_append_right (by omega)]at kp;have hm:=List.mem_of_getElem? kp;refine⟨ff e hm,by omega,fun C bV ae=> ?_⟩;have aV:C<I.es:=by rw [←ff e hm];exact(List.getElem?_eq_some_iff.1 ae).1
    have ag:=oL ff kp ae;obtain⟨x,dU,fG⟩:=vT.get ag;refine⟨x,?_,fG.mono hle,ko x (List.mem_of_getElem? dU)⟩;have qO:(k-b.bi.length)*I.es+C<ci.length:=by rw [ll];exact tP (by have:=(List.getElem?_eq_some_iff.1 kp).1;omega) aV
    have:=World.cell?_setCells_in I.cq ci (I.off+(b.bi.length-I.a1)*I.es) w (fun k ap=>(qN k ap).1) _ qO;rw [List.getElem?_eq_getElem qO]at dU;simp at dU;have bs:(k-I.a1)*I.es=(b.bi.length-I.a1)*I.es+(k-b.bi.length)*I.es:=by rw [←Nat.add_mul];congr 1;omega
    rw [Place.at,show I.off+(k-I.a1)*I.es+C=I.off+(b.bi.length-I.a1)*I.es+((k-b.bi.length)*I.es+C)by omega,this,dU]
  ·obtain⟨p,fS,ad,bd,bS,bI,dx,cP,cy⟩:=r.dD i v q aD;by_cases ak:i=id
   ·subst ak;rw [au]at ad;simp at ad;subst ad;have lk:=R.Jt b new v bd;refine⟨p,b.grow new,j.hJ _ _ _,by simp only [R.grow];omega,bS,bI,dx,cP,⟨by rw [eX];exact cy.cq,cy.base,fun eG hK=>World.isSome_setCells _ _ _ _ _ (cy.cells eG hK),fun fA eG hK=>by rw [World.frozen?_setCells];exact cy.free fA eG hK,fun fA=>(cy.mark fA).setCells _ _ _,fun t9 fA=>by rw [vS];exact cy.jn t9 fA,fun k e gq cB lj=> ?_⟩⟩;have kp:(b.bi++new)[k]? =some e:=lj;rw [List.getElem?_append_left (by omega)]at kp;obtain⟨d1,d2,d3⟩:=cy.cont k e gq (by omega) kp;refine⟨d1,d2,fun C bV ae=> ?_⟩;obtain⟨x,dU,fG⟩:=d3 C bV ae;have aV:C<e.cells.length:=(List.getElem?_eq_some_iff.1 ae).1;refine⟨x,?_,fG.1.mono hle,fG.2⟩;by_cases C4:q.cq=I.cq
    ·obtain⟨s1,s2⟩:=r.same i v q b.J I aD ac C4;rw [Jw q k C C4 s1 s2 (by rw [bS,g4]) (by omega) gq (by omega)];exact dU
    ·rw [World.cell?_setCells_out _ _ _ _ _ (fun bW _=>absurd bW (by simp only [Place.at];exact C4))];exact dU
   ·have b1:I.cq≠q.cq:=by intro e;have:=r.apart id b.J I i v q ac aD e (fun e=>ak e.symm);rw [g6 eY]at this;simp at this
    have nG:∀a:Addr,a.block=q.cq→(w.setCells I.cq (I.off+(b.bi.length-I.a1)*I.es) ci).cell? a=w.cell? a:=fun a aT=>World.cell?_setCells_out _ _ _ _ _ (fun bW _=>absurd (bW.symm.trans aT) b1)
    refine⟨p,fS,by rw [j.fl _ _ (fun e=>ak e.symm)];exact ad,bd,bS,bI,dx,cP,?_⟩;refine⟨by rw [eX];exact cy.cq,cy.base,fun eG hK=>by rw [nG _ rfl];exact cy.cells eG hK,fun fA eG hK=>by rw [World.frozen?_setCells];exact cy.free fA eG hK,fun fA=>(cy.mark fA).setCells _ _ _,fun t9 fA=>by rw [vS];exact cy.jn t9 fA,?_⟩;intro k e gq cB lj;obtain⟨nH,C1,C2⟩:=cy.cont k e gq cB lj;refine⟨nH,C1,fun C bV ae=> ?_⟩;obtain⟨x,dU,fG⟩:=C2 C bV ae;exact⟨x,by rw [nG _ rfl];exact dU,fG.1.mono hle,fG.2⟩
 ·intro i v q C u jG aD eH kS iE;simp only [Map.add]at aD eH;split at aD<;>split at eH
  ·rename_i bn bs;exact absurd (bn.1.trans bs.1.symm) iE
  ·rename_i bn bs;simp at aD;subst aD;exact r.apart id b.J I C u jG ac eH kS (by rw [←bn.1];exact iE)
  ·rename_i bn bs;simp at eH;subst eH;exact r.apart i v q id b.J I aD ac kS (by rw [←bs.1];exact iE)
  ·exact r.apart i v q C u jG aD eH kS iE
 ·intro i v q u jG aD eH kS;simp only [Map.add]at aD eH;split at aD<;>split at eH
  ·simp at aD eH;subst aD eH;exact⟨rfl,rfl⟩
  ·rename_i bn bs;simp at aD;subst aD;exact r.same id b.J I u jG ac (by rw [←bn.1];exact eH) kS
  ·rename_i bn bs;simp at eH;subst eH;exact r.same id v q b.J I (by rw [←bs.1];exact aD) ac kS
  ·exact r.same i v q u jG aD eH kS
open Go.RowKit in
theorem vU{B:Nat→Prop}{a:World}(b:Nat)(au:¬B b):∀(ci:List Value)(ab:Nat){w:World},Safe B a w→Safe B a (w.setCells b ab ci)
 |[],_,_,h=>h
 |v::r,ab,w,h=>vU b au r (ab+1) (h.setCell (I:=⟨b,ab,none⟩) au v)
end
end Go.cM
namespace Go.cM
noncomputable section
open Go.RowKit
theorem dL.dw.get{D:dL}{P:Program}(h:D.dw P){t:TypeId}{d:qH}(aC:D t=some d) :
 ∃i u,P.info? t=some i∧P.underlying t=some u∧d.kind=hb u∧d.size=i.size∧d.bytes=i.bytes∧d.zero=i.zero.map qG:=by
 have:=h t d aC;unfold y7 at this;split at this
 ·rename_i i u ak hu;simp at this;subst this;exact⟨i,u,ak,hu,rfl,rfl,rfl,rfl⟩
 ·cases this
theorem ln{u:TypeDesc}{e:TypeId}(h:hb u=.slice e):u=.slice e:=by cases u<;>simp [hb]at h⊢; exact h
theorem tS{u:TypeDesc}{n:Nat}{e:TypeId}(h:hb u=.array n e):u=.array n e:=by cases u<;>simp [hb]at h⊢; exact h
theorem qP{u:TypeDesc}(h:hb u=.string):u=.string:=by cases u<;>simp [hb]at h⊢
theorem Jx{u:TypeDesc}(h:hb u=.bool):u=.bool:=by cases u<;>simp [hb]at h⊢
theorem vV{u:TypeDesc}{k:IntKind}(h:hb u=.int k):u=.int k:=by cases u<;>simp [hb]at h⊢; exact h
theorem zi{u:TypeDesc}{e:TypeId}(h:hb u=.ptr e):u=.pointer e:=by cases u<;>simp [hb]at h⊢; exact h
theorem C5{u:TypeDesc}(h:hb u=.func):∃a b c,u=.func a b c:=by cases u<;>simp [hb]at h⊢
theorem C6{u:TypeDesc}{ab:Bool}(h:hb u=.iface ab):∃y6,u=.interface y6∧ab= !y6.isEmpty:=by cases u<;>simp [hb]at h⊢; rw [h];simp
theorem zj{u:TypeDesc}{l:List (Nat×TypeId)}(h:hb u=.struct l):∃b4,u=.struct b4∧l=b4.toList.map fun f=>(f.offset,f.type):=by cases u<;>simp [hb]at h⊢; exact h.symm
theorem si{P:Program}{t:TypeId}{u:TypeDesc}(h:P.underlying t=some u)(w:World):(isAgg t).run P w=.ok (hb u).isAgg w:=by unfold isAgg;rw [Sem.run_bind,run_underlying h];cases u<;>rfl
theorem lo{P:Program}{t:TypeId}{i:TypeInfo}(h:P.info? t=some i)(w:World):(sizeOf t).run P w=.ok i.size w:=by simp [sizeOf,typeInfo,h]
theorem RM{P:Program}{t:TypeId}{i:TypeInfo}(h:P.info? t=some i)(w:World):(typeInfo t).run P w=.ok i w:=by simp [typeInfo,h]
theorem vW{P:Program}{t:TypeId}{i:TypeInfo}{z:Value}(h:P.info? t=some i)(eT:i.zero=some z)(w:World):(zeroValue t).run P w=.ok z w:=by simp [zeroValue,typeInfo,h,eT]
section
variable {P:Program}{al:Map}
theorem RN{op:BinOp}{k:IntKind}{x y:Int}{v:o}(t:TypeId)(h:kj op k x y=some v)(w:World) :
 ∃bt,(binOp op t (.int k x) (.int k y)).run P w=.ok bt w∧aN al v bt:=by
 cases op<;>simp only [kj]at h <;>
  first
   |(cases h;done)
   |(split at h<;>first|(cases h;done)|(rename_i bY;simp at h;subst h;exact⟨_,by simp [binOp,Op.intDiv,bY];rfl,by simp only [aN]⟩))
   |(simp at h;subst h;exact⟨_,by simp [binOp,Op.intArith,Op.intBits,Op.intCmp];rfl,by simp only [aN]⟩)
theorem Jy{op:BinOp}{k fy:IntKind}{x y:Int}{v:o}(t:TypeId)(hf:op=.shl∨op=.shr)(h:vK op k x y=some v)(w:World) :
 ∃bt,(binOp op t (.int k x) (.int fy y)).run P w=.ok bt w∧aN al v bt:=by
 unfold vK at h;split at h
 ·cases h
 ·rename_i bY;rcases hf with rfl|rfl
  ·simp at h;subst h;exact⟨_,by simp [binOp,Op.shift,bY];rfl,by simp only [aN]⟩
  ·simp at h;subst h;exact⟨_,by simp [binOp,Op.shift,bY];rfl,by simp only [aN]⟩
theorem RO:IntKind.i64.max=9223372036854775807:=rfl
theorem RP{op:BinOp}{a b:ByteArray}{v:o}(t:TypeId)(h:vL op a.data.toList b.data.toList=some v)(w:World) :
 ∃bt,(binOp op t (.string a) (.string b)).run P w=.ok bt w∧aN al v bt:=by
 cases op <;> simp only [vL]at h <;>
  first
   |(cases h;done)
   |(split at h<;>first
    |(cases h;done)
    |(rename_i cQ
      simp at h;subst h;refine⟨.string (a++b),?_,?_⟩
      ·simp only [binOp,Op.stringOp];rw [if_neg]
       ·rfl
       ·simp only [Array.length_toList]at cQ;rw [RO];simp only [ByteArray.size];omega
      ·simp [aN]))
   |(simp at h;subst h;exact⟨_,by simp [binOp,Op.stringOp,ByteArray.toList_eq];rfl,by simp only [aN]⟩)
def C7(P:Program)(t:TypeId):Bool :=
 !P.eqGuardType P.depth t&&!P.stoodInHeld t &&
 (match P.underlying t with
 |some (.struct b4)=>b4.toList.zipIdx.all fun(f,i)=>f.name != "_" && f.offset == i
 |some (.array _ _)=>true
 |_=>false)
def qQ(P:Program)(t:TypeId):Prop:=C7 P t=true
theorem qQ.spec{t:TypeId}(h:qQ P t):P.eqGuardType P.depth t=false∧P.stoodInHeld t=false∧∀b4,P.underlying t=some (.struct b4)→ ∀(i:Nat)(f:Field),b4.toList[i]? =some f→f.name≠ "_" ∧f.offset=i:=by unfold qQ C7 at h;simp only [Bool.and_eq_true,Bool.not_eq_true']at h;obtain⟨⟨p,ad⟩,bd⟩:=h;refine⟨p,ad,fun b4 tT i f a8=> ?_⟩;rw [tT]at bd;simp only [List.all_eq_true]at bd;have:=bd (f,i) (by rw [List.mem_zipIdx_iff_getElem?];exact a8);simpa using this
theorem Jz{k:kh}{a b:o}{x y:Value}(aT:aN al a x)(au:aN al b y){r:Bool}(h:y8 k a b=some r){t:TypeId}{u:TypeDesc}(hu:P.underlying t=some u)(ap:k=hb u)(d:Nat)(w:World) :
 (Op.equalIn (d+1) t x y).run P w=.ok r w∧(hb u).isAgg=false:=by
 unfold y8 at h;split at h
 ·rename_i bE aM a aR b;have:=vV ap.symm;subst this;split at h
  ·rename_i e;subst e;simp at h;subst h;simp only [aN]at aT au;subst aT au;refine⟨?_,rfl⟩;simp only [Op.equalIn,Sem.run_bind,run_underlying hu,Result.andThen_ok,if_true,Sem.run_pure]
  ·cases h
 ·have:=Jx ap.symm;subst this;simp at h;subst h;simp only [aN]at aT au;subst aT au;refine⟨?_,rfl⟩;simp only [Op.equalIn,Sem.run_bind,run_underlying hu,Result.andThen_ok,Sem.run_pure]
 ·have:=qP ap.symm;subst this;simp at h;subst h;simp only [aN]at aT au;obtain⟨s,rfl,rfl⟩:=aT;obtain⟨bL,rfl,rfl⟩:=au;refine⟨?_,rfl⟩;rw [run_equalIn_string w d t s bL hu,ByteArray.toList_eq,ByteArray.toList_eq]
 ·cases h
theorem JA{D:dL}(b':D.dw P){xs jo:Array Value}(d:Nat)(w:World):∀{b4:List Field}{i:Nat}{x y:List o}{b:Bool},(∀(C:Nat)(f:Field),b4[C]? =some f→f.name≠ "_" ∧f.offset=i+C) →
 bH al x (xs.toList.drop i)→bH al y (jo.toList.drop i)→r8 D (b4.map fun f=>(f.offset,f.type)) x y=some b→(Op.eqFields (d+1) xs jo b4).run P w=.ok b w
 |[],i,x,y,b,_,_,_,h=>by simp only [List.map_nil]at h;cases x<;>cases y<;>simp [r8]at h;subst h;rfl
 |f ::b4,i,x,y,b,a8,ae,bY,h=>by
  simp only [List.map_cons]at h;cases x with
  |nil=>cases y<;>simp [r8]at h
  |cons a x =>
   cases y with
   |nil=>simp [r8]at h
   |cons c y =>
    simp only [r8]at h;split at h
    ·rename_i afF RQ;obtain⟨iT,u,ia,hu,ap, -⟩:=b'.get RQ;split at h
     ·rename_i I q ac aD;simp at h;subst h;obtain⟨aS,ai⟩:=a8 0 f (by simp);simp only [bH]at ae bY;obtain⟨nI,ib,ex,C8,ae⟩:=ae;obtain⟨vX,aq,iU,C9,bY⟩:=bY;obtain⟨g1,g2⟩:=Jz (P:=P) C8 C9 ac hu ap d w
      have C':xs[f.offset]? =some nI:=by have:=congrArg (fun l=>l[0]?) ex;simpa [ai]using this
      have Da:jo[f.offset]? =some vX:=by have:=congrArg (fun l=>l[0]?) iU;simpa [ai]using this
      have Db:xs.toList.drop (i+1)=ib:=by rw [←List.drop_drop,ex];rfl
      have Dc:jo.toList.drop (i+1)=aq:=by rw [←List.drop_drop,iU];rfl
      have Dd:(part f.type xs f.offset).run P w=.ok nI w:=by simp only [part,Sem.run_bind,si hu,Result.andThen_ok,g2];simp [C']
      have De:(part f.type jo f.offset).run P w=.ok vX w:=by simp only [part,Sem.run_bind,si hu,Result.andThen_ok,g2];simp [Da]
      have ih:=JA b' (xs:=xs) (jo:=jo) d w (b4:=b4) (i:=i+1) (fun C g ag=>by
       have:=a8 (C+1) g (by simpa using ag)
       exact⟨this.1,by omega⟩) (by rw [Db];exact ae) (by rw [Dc];exact bY) aD
      simp only [Op.eqFields];rw [if_pos aS];simp only [Sem.run_bind,Dd,De,Result.andThen_ok,g1];cases I
      ·rfl
      ·simp only [Bool.not_true,Bool.false_eq_true,if_false,Bool.true_and];exact ih
     ·cases h
    ·cases h
theorem JB{D:dL}{e:TypeId}{u:TypeDesc}(hu:P.underlying e=some u){xs jo:Array Value}(d:Nat)(w:World):∀{n i:Nat}{x y:List o}{b:Bool},x.length=n →
 bH al x (xs.toList.drop i)→bH al y (jo.toList.drop i)→tJ (hb u) x y=some b→(Op.eqItems (d+1) e 1 xs jo (List.range' i n)).run P w=.ok b w
 |n,i,[],y,b,aS,_,_,h=>by simp at aS;subst aS;cases y<;>simp [tJ]at h;subst h;rfl
 |n,i,a::x,[],b,aS,_,_,h=>by simp [tJ]at h
 |n,i,a::x,c::y,b,aS,ae,bY,h=>by
  obtain⟨m,rfl⟩:∃m,n=m+1:=⟨x.length,by simpa using aS.symm⟩
  simp only [tJ]at h;split at h
  ·rename_i I q ac aD;simp at h;subst h;simp only [bH]at ae bY;obtain⟨nI,ib,ex,C8,ae⟩:=ae;obtain⟨vX,aq,iU,C9,bY⟩:=bY;obtain⟨g1,g2⟩:=Jz (P:=P) C8 C9 ac hu rfl d w
   have C':xs[i]? =some nI:=by have:=congrArg (fun l=>l[0]?) ex;simpa using this
   have Da:jo[i]? =some vX:=by have:=congrArg (fun l=>l[0]?) iU;simpa using this
   have Db:xs.toList.drop (i+1)=ib:=by rw [←List.drop_drop,ex];rfl
   have Dc:jo.toList.drop (i+1)=aq:=by rw [←List.drop_drop,iU];rfl
   have Dd:(part e xs (i*1)).run P w=.ok nI w:=by simp only [part,Sem.run_bind,si hu,Result.andThen_ok,g2];simp [C']
   have De:(part e jo (i*1)).run P w=.ok vX w:=by simp only [part,Sem.run_bind,si hu,Result.andThen_ok,g2];simp [Da]
   have ih:=JB (D:=D) hu (xs:=xs) (jo:=jo) d w (n:=m) (i:=i+1) (by simpa using aS) (by rw [Db];exact ae) (by rw [Dc];exact bY) aD;rw [List.range'_succ];simp only [Op.eqItems];simp only [Sem.run_bind,Dd,De,Result.andThen_ok,g1];cases I
   ·rfl
   ·simp only [Bool.not_true,Bool.false_eq_true,if_false,Bool.true_and];exact ih
  ·cases h
theorem md:Op.maxDepth=9999+1:=rfl
theorem JC{D:dL}(b':D.dw P){ho:TypeId→Bool}(cH:∀t,ho t=true→qQ P t){lit:Bool}{t:TypeId}{x y:o}{bV hT:Value}{b:Bool}
 (ae:aN al x bV) (bY:aN al y hT) (h:qI D ho lit t x y=some b) (w:World):(Op.equalIn Op.maxDepth t bV hT).run P w=.ok b w:=by
 unfold qI at h;split at h
 ·cases h
 ·rename_i d aC;obtain⟨i,u,ak,hu,ap, -⟩:=b'.get aC;rw [ap]at h;split at h
  ·rename_i e;have:=Jx e;subst this;simp only [aN]at ae bY;subst ae bY;simp at h;subst h;rw [md];generalize 9999=fM;simp only [Op.equalIn,Sem.run_bind,run_underlying hu,Result.andThen_ok,Sem.run_pure,Option.isNone_some,Option.isNone_none]
  ·rename_i e;have:=zi e;subst this;simp only [aN]at ae bY;subst ae bY;simp at h;subst h;rw [md];generalize 9999=fM;simp only [Op.equalIn,Sem.run_bind,run_underlying hu,Result.andThen_ok,Sem.run_pure,Option.isNone_some,Option.isNone_none]
  ·rename_i e;have:=zi e;subst this;simp only [aN]at ae bY;obtain⟨z,rfl,_⟩:=bY;subst ae;simp at h;subst h;rw [md];generalize 9999=fM;simp only [Op.equalIn,Sem.run_bind,run_underlying hu,Result.andThen_ok,Sem.run_pure,Option.isNone_some,Option.isNone_none]
  ·rename_i e;have:=zi e;subst this;simp only [aN]at ae bY;obtain⟨z,rfl,_⟩:=ae;subst bY;simp at h;subst h;rw [md];generalize 9999=fM;simp only [Op.equalIn,Sem.run_bind,run_underlying hu,Result.andThen_ok,Sem.run_pure,Option.isNone_some,Option.isNone_none]
  ·rename_i e;have:=ln e;subst this;simp only [aN]at ae bY;obtain⟨rfl,_⟩:=ae;obtain⟨rfl,_⟩:=bY;simp at h;subst h;rw [md];generalize 9999=fM;simp only [Op.equalIn,Sem.run_bind,run_underlying hu,Result.andThen_ok,Sem.run_pure,Option.isNone_some,Option.isNone_none]
  ·rename_i e;have:=ln e;subst this;simp only [aN]at ae bY;obtain⟨rfl,_⟩:=ae;obtain⟨z,c,rfl,_⟩:=bY;simp at h;subst h;rw [md];generalize 9999=fM;simp only [Op.equalIn,Sem.run_bind,run_underlying hu,Result.andThen_ok,Sem.run_pure,Option.isNone_some,Option.isNone_none]
  ·rename_i e;have:=ln e;subst this;simp only [aN]at ae bY;obtain⟨rfl,_⟩:=bY;obtain⟨z,c,rfl,_⟩:=ae;simp at h;subst h;rw [md];generalize 9999=fM;simp only [Op.equalIn,Sem.run_bind,run_underlying hu,Result.andThen_ok,Sem.run_pure,Option.isNone_some,Option.isNone_none]
  ·rename_i e;obtain⟨_,_,_,rfl⟩:=C5 e;simp only [aN]at ae bY;subst ae bY;simp at h;subst h;rw [md];generalize 9999=fM;simp only [Op.equalIn,Sem.run_bind,run_underlying hu,Result.andThen_ok,Sem.run_pure,Option.isNone_some,Option.isNone_none]
  ·rename_i e;obtain⟨_,_,_,rfl⟩:=C5 e;simp only [aN]at ae bY;obtain⟨_,_,rfl,_⟩:=bY;subst ae;simp at h;subst h;rw [md];generalize 9999=fM;simp only [Op.equalIn,Sem.run_bind,run_underlying hu,Result.andThen_ok,Sem.run_pure,Option.isNone_some,Option.isNone_none]
  ·rename_i e;obtain⟨_,_,_,rfl⟩:=C5 e;simp only [aN]at ae bY;obtain⟨_,_,rfl,_⟩:=ae;subst bY;simp at h;subst h;rw [md];generalize 9999=fM;simp only [Op.equalIn,Sem.run_bind,run_underlying hu,Result.andThen_ok,Sem.run_pure,Option.isNone_some,Option.isNone_none]
  ·rename_i e;obtain⟨_,rfl,_⟩:=C6 e;simp only [aN]at ae bY;subst ae bY;split at h<;>simp at h;subst h;rw [md];generalize 9999=fM;simp only [Op.equalIn,Sem.run_bind,run_underlying hu,Result.andThen_ok,Sem.run_pure,Option.isNone_some,Option.isNone_none]
  ·rename_i e;obtain⟨_,rfl,_⟩:=C6 e;simp only [aN]at ae bY;obtain⟨_,rfl,_⟩:=bY;subst ae;simp at h;subst h;rw [md];generalize 9999=fM;simp only [Op.equalIn,Sem.run_bind,run_underlying hu,Result.andThen_ok,Sem.run_pure,Option.isNone_some,Option.isNone_none]
  ·rename_i e;obtain⟨_,rfl,_⟩:=C6 e;simp only [aN]at ae bY;obtain⟨_,rfl,_⟩:=ae;subst bY;simp at h;subst h;rw [md];generalize 9999=fM;simp only [Op.equalIn,Sem.run_bind,run_underlying hu,Result.andThen_ok,Sem.run_pure,Option.isNone_some,Option.isNone_none]
  ·rename_i b4 x y e;obtain⟨aG,rfl,nJ⟩:=zj e;simp only [aN]at ae bY;obtain⟨xs,rfl,rx⟩:=ae;obtain⟨jo,rfl,zk⟩:=bY;split at h
   ·rename_i he;obtain⟨p,ad,bd⟩:=(cH t he).spec;have JD:P.fieldsOf t=aG:=by simp [Program.fieldsOf,hu]
    rw [md,run_equalIn_struct w 9999 t xs jo (by rw [JD];exact hu) ad,JD];rw [nJ]at h;exact JA b' 9998 w (i:=0) (fun C f a8=>by have:=bd aG hu C f a8;exact⟨this.1,by omega⟩) (by simpa using rx) (by simpa using zk) h
   ·cases h
  ·rename_i n e x y l1;have:=tS l1;subst this;simp only [aN]at ae bY;obtain⟨xs,rfl,rx⟩:=ae;obtain⟨jo,rfl,zk⟩:=bY;split at h
   ·split at h
    ·rename_i hc pM;obtain⟨zl,qR,oO,pN,lp,cw, -⟩:=b'.get pM;split at h
     ·rename_i av
      have pO:P.cellsOf e=1:=by unfold Program.cellsOf;rw [oO];simp;omega
      rw [md,run_equalIn_array w 9999 xs jo hu oO,pO,List.range_eq_range'];rw [lp]at h;exact JB (D:=D) pN 9998 w av.2 (by simpa using rx) (by simpa using zk) h
     ·cases h
    ·cases h
   ·cases h
  ·cases h
theorem JE{D:dL}{ho:TypeId→Bool}(cH:∀t,ho t=true→qQ P t){op:BinOp}{t:TypeId}{kq oP:Operand}{x y:o}{bV hT:Value}{b:Bool}
 (ae:aN al x bV) (bY:aN al y hT) (h:qI D ho (lf kq || lf oP) t x y=some b) (w:World):(eqGuard op t kq oP bV hT).run P w=.ok () w:=by
 have key :op=.eql∨op=.neq→(eqGuard op t kq oP bV hT).run P w=.ok () w:=by
  intro hf;unfold qI at h;split at h
  ·cases h
  ·split at h
   all_goals first
    |(cases h;done)
    |(simp only [aN]at ae bY;subst ae bY;rcases hf with rfl|rfl<;>rfl)
    |(simp only [aN]at ae bY;obtain⟨rfl,_⟩:=ae;obtain⟨rfl,_⟩:=bY;rcases hf with rfl|rfl<;>rfl)
    |(simp only [aN]at ae bY;subst ae;obtain⟨_,rfl,_⟩:=bY;rcases hf with rfl|rfl<;>rfl)
    |(simp only [aN]at ae bY;subst bY;obtain⟨_,rfl,_⟩:=ae;rcases hf with rfl|rfl<;>rfl)
    |(simp only [aN]at ae bY;obtain⟨rfl,_⟩:=ae;obtain⟨_,_,rfl,_⟩:=bY;rcases hf with rfl|rfl<;>rfl)
    |(simp only [aN]at ae bY;obtain⟨rfl,_⟩:=bY;obtain⟨_,_,rfl,_⟩:=ae;rcases hf with rfl|rfl<;>rfl)
    |(simp only [aN]at ae bY;subst ae;obtain⟨_,_,rfl,_⟩:=bY;rcases hf with rfl|rfl<;>rfl)
    |(simp only [aN]at ae bY;subst bY;obtain⟨_,_,rfl,_⟩:=ae;rcases hf with rfl|rfl<;>rfl)
    |(simp only [aN]at ae bY;subst ae bY;split at h<;>first|(cases h;done)|skip
      rename_i az;simp only [Bool.or_eq_true]at az;rcases az with az|az
      ·cases kq<;>first|(simp [lf]at az;done)|(rcases hf with rfl|rfl<;>rfl)
      ·cases oP<;>first|(simp [lf]at az;done)|(rcases hf with rfl|rfl<;>simp [eqGuard]))
    |(simp only [aN]at ae bY;obtain⟨_,rfl,rx⟩:=ae;obtain⟨_,rfl,zk⟩:=bY;split at h<;>first|(cases h;done)|skip
      rename_i he
      exact run_eqGuard_agg w op t kq oP _ _ (cH t he).spec.1)
 cases op<;>first|exact key (.inl rfl)|exact key (.inr rfl)|rfl
def vY:Value→Bool
 |.bool _|.pointer _|.slice _ _ _|.func _ _ _|.nilFunc|.nilIface|.iface _ _|.agg _=>true
 |_=>false
theorem RR(t:TypeId)(x y:Value)(h:vY x=true):binOp .eql t x y=(do pure (.bool (←Op.equal t x y))):=by cases x<;>first|(simp [vY]at h;done)|(cases y<;>rfl)
theorem RS(t:TypeId)(x y:Value)(h:vY x=true):binOp .neq t x y=(do pure (.bool (!(←Op.equal t x y)))):=by cases x<;>first|(simp [vY]at h;done)|(cases y<;>rfl)
theorem JF{D:dL}{ho:TypeId→Bool}{lit:Bool}{t:TypeId}{x y:o}{bV:Value}{b:Bool}(ae:aN al x bV)(h:qI D ho lit t x y=some b):vY bV=true:=by
 unfold qI at h;split at h
 ·cases h
 ·split at h
  all_goals first
   |(cases h;done)
   |(simp only [aN]at ae;subst ae;rfl)
   |(simp only [aN]at ae;obtain⟨rfl,_⟩:=ae;rfl)
   |(simp only [aN]at ae;obtain⟨_,rfl,_⟩:=ae;rfl)
   |(simp only [aN]at ae;obtain⟨_,_,rfl,_⟩:=ae;rfl)
theorem RT{D:dL}(b':D.dw P){ho:TypeId→Bool}(cH:∀t,ho t=true→qQ P t){op:BinOp}{t:TypeId}{kq oP:Operand}{x y v:o}{bV hT:Value}
 (ae:aN al x bV) (bY:aN al y hT) (h:ld D ho (lf kq || lf oP) op t x y=some v) (w:World) :
 ∃bt,(eqGuard op t kq oP bV hT).run P w=.ok () w∧(binOp op t bV hT).run P w=.ok bt w∧aN al v bt:=by
 unfold ld at h;split at h
 ·rename_i k a fy b;simp only [aN]at ae bY;subst ae bY
  have ag:(eqGuard op t kq oP (.int k a) (.int fy b)).run P w=.ok () w:=by unfold eqGuard;split<;>rfl
  split at h
  ·obtain⟨bt,p,ad⟩:=Jy (P:=P) (al:=al) (fy:=fy) t (.inl rfl) h w;exact⟨bt,ag,p,ad⟩
  ·obtain⟨bt,p,ad⟩:=Jy (P:=P) (al:=al) (fy:=fy) t (.inr rfl) h w;exact⟨bt,ag,p,ad⟩
  ·split at h
   ·rename_i ap;subst ap;obtain⟨bt,p,ad⟩:=RN (P:=P) (al:=al) t h w;exact⟨bt,ag,p,ad⟩
   ·cases h
 ·rename_i a b;simp only [aN]at ae bY;obtain⟨s,rfl,rfl⟩:=ae;obtain⟨u,rfl,rfl⟩:=bY
  have ag:(eqGuard op t kq oP (.string s) (.string u)).run P w=.ok () w:=by unfold eqGuard;split<;>rfl
  obtain⟨bt,p,ad⟩:=RP (P:=P) (al:=al) t h w;exact⟨bt,ag,p,ad⟩
 ·rename_i a6 aO;split at h
  ·simp only [Option.map_eq_some_iff]at h;obtain⟨b,au,rfl⟩:=h;refine⟨.bool b,JE (D:=D) cH ae bY au w,?_,by simp [aN]⟩;have he:=JC b' cH ae bY au w;rw [RR t bV hT (JF ae au)];simp [Op.equal,he]
  ·simp only [Option.map_eq_some_iff]at h;obtain⟨b,au,rfl⟩:=h;refine⟨.bool (!b),JE (D:=D) cH ae bY au w,?_,by simp [aN]⟩;have he:=JC b' cH ae bY au w;rw [RS t bV hT (JF ae au)];simp [Op.equal,he]
  ·cases h
end
end
end Go.cM
namespace Go.cM
noncomputable section
open Go.RowKit
section
variable {P:Program}{al:Map}
theorem RU{op:UnOp}{x v:o}{bV:Value}(ae:aN al x bV)(h:vM op x=some v)(w:World):∃bt,(Op.unary op bV).run P w=.ok bt w∧aN al v bt:=by
 unfold vM at h;split at h
 ·simp only [aN]at ae;subst ae;simp at h;subst h;exact⟨_,by simp [Op.unary,Op.intArith];rfl,by simp only [aN]⟩
 ·simp only [aN]at ae;subst ae;simp at h;subst h;exact⟨_,by simp [Op.unary];rfl,by simp only [aN]⟩
 ·simp only [aN]at ae;subst ae;simp [kj]at h;subst h;exact⟨_,by simp [Op.unary,Op.intBits];rfl,by simp only [aN]⟩
 ·cases h
theorem RV{D:dL}(b':D.dw P){s t:TypeId}{x v:o}{bV:Value}(ae:aN al x bV)(h:vP D s t x=some v)(w:World) :
 ∃bt,(convert s t bV).run P w=.ok bt w∧aN al v bt:=by
 unfold vP at h;split at h
 ·rename_i kM RW k n an bX;simp only [aN]at ae;subst ae;obtain⟨_,iq,_,zm,_⟩:=b'.get an;obtain⟨_,ut,_,zn,ap,_⟩:=b'.get bX;rw [ap]at h;split at h
  ·rename_i l2 e;have:=vV e;subst this;simp at h;subst h;refine⟨.int l2 (l2.wrap n),?_,by simp only [aN]⟩;simp only [convert,Sem.run_bind,run_underlying zm,run_underlying zn,Result.andThen_ok];cases iq<;>simp [Conv.intToInt]
  ·rename_i e;have:=qP e;subst this;simp at h;subst h;exact⟨.string (Utf8.encode n),run_convert_int_string w s t k n (by rw [zm];rfl) zn,by simp only [aN];exact⟨_,rfl,rfl⟩⟩
  ·cases h
 ·rename_i kM RW l an bX;simp only [aN]at ae;obtain⟨bL,rfl,rfl⟩:=ae;obtain⟨_,iq,_,zm,_⟩:=b'.get an;obtain⟨_,ut,_,zn,ap,_⟩:=b'.get bX;rw [ap]at h;split at h
  ·rename_i e;have:=qP e;subst this;simp at h;subst h;refine⟨.string bL,?_,by simp [aN]⟩;simp only [convert,Sem.run_bind,run_underlying zm,run_underlying zn,Result.andThen_ok];cases iq<;>rfl
  ·cases h
 ·cases h
theorem RX{x y v:o}{bV hT:Value}(ae:aN al x bV)(bY:aN al y hT)(h:y9 x y=some v)(w:World):∃bt,(Builtin.max2 bV hT).run P w=.ok bt w∧aN al v bt:=by
 unfold y9 at h;split at h
 ·simp only [aN]at ae bY;subst ae bY;split at h
  ·rename_i ap;subst ap;simp at h;subst h;exact⟨_,by simp only [Builtin.max2];rfl,by simp only [aN]⟩
  ·cases h
 ·cases h
theorem RY{x y v:o}{bV hT:Value}(ae:aN al x bV)(bY:aN al y hT)(h:y' x y=some v)(w:World):∃bt,(Builtin.min2 bV hT).run P w=.ok bt w∧aN al v bt:=by
 unfold y' at h;split at h
 ·simp only [aN]at ae bY;subst ae bY;split at h
  ·rename_i ap;subst ap;simp at h;subst h;exact⟨_,by simp only [Builtin.min2];rfl,by simp only [aN]⟩
  ·cases h
 ·cases h
theorem Df{f:o→o→Option o}{g:Value→Value→Sem Value}(w:World)
 (a8:∀x y v bV hT,aN al x bV→aN al y hT→f x y=some v→ ∃bt,(g bV hT).run P w=.ok bt w∧aN al v bt) :
 ∀{l:List o}{t:List Value}{x v:o}{bV:Value},aN al x bV→bH al l t→qJ f x l=some v→ ∃bt,(t.foldlM g bV).run P w=.ok bt w∧aN al v bt
 |[],t,x,v,bV,ae,az,h=>by simp only [bH]at az;subst az;simp [qJ]at h;subst h;exact⟨bV,rfl,ae⟩
 |a ::r,t,x,v,bV,ae,az,h=>by
  simp only [bH]at az;obtain⟨u,fj,rfl,p,ad⟩:=az;simp only [qJ]at h;split at h
  ·rename_i z eT;obtain⟨gl,bn,bs⟩:=a8 _ _ _ _ _ ae p eT;obtain⟨bt,b7,ct⟩:=Df w a8 bs ad h;exact⟨bt,by rw [List.foldlM_cons,Sem.run_bind,bn];exact b7,ct⟩
  ·cases h
theorem RZ{x v:o}{l:List o}{xs:Array Value}(eN:Array TypeId)(aq:TypeId)(ae:bH al (x::l) xs.toList)(h:qJ y9 x l=some v)(w:World) :
 ∃bt,(Builtin.max_ eN aq xs).run P w=.ok bt w∧aN al v bt:=by
 simp only [bH]at ae;obtain⟨bV,t,e,p,ad⟩:=ae;unfold Builtin.max_;rw [e];exact Df w (fun _ _ _ _ _ a b c=>RX a b c w) p ad h
theorem R0{x v:o}{l:List o}{xs:Array Value}(eN:Array TypeId)(aq:TypeId)(ae:bH al (x::l) xs.toList)(h:qJ y' x l=some v)(w:World) :
 ∃bt,(Builtin.min_ eN aq xs).run P w=.ok bt w∧aN al v bt:=by
 simp only [bH]at ae;obtain⟨bV,t,e,p,ad⟩:=ae;unfold Builtin.min_;rw [e];exact Df w (fun _ _ _ _ _ a b c=>RY a b c w) p ad h
theorem JG{D:dL}(b':D.dw P){t:TypeId}{bp:List o}{xs:Array Value}{off:Nat}{v:o}(ae:bH al bp xs.toList)(h:apart D t bp off=some v)(w:World) :
 ∃bt,(part t xs off).run P w=.ok bt w∧aN al v bt:=by
 unfold apart at h;split at h
 ·rename_i d aC;obtain⟨i,u,ak,hu,ap,an, -⟩:=b'.get aC;rw [ap]at h;split at h
  ·rename_i aT;split at h
   ·rename_i hle;simp at h;subst h;refine⟨.agg (xs.extract off (off+i.size)),?_,?_⟩
    ·simp only [part,Sem.run_bind,si hu,Result.andThen_ok,aT,if_true,lo ak,Sem.run_pure]
    ·simp only [aN];refine⟨_,rfl,?_⟩
     have e:(xs.extract off (off+i.size)).toList=(xs.toList.drop off).take i.size:=by simp [List.extract]
     rw [e,an];exact(ae.drop off).take i.size
   ·cases h
  ·rename_i aT;obtain⟨bt,p,ad⟩:=ae.get h;refine⟨bt,?_,ad⟩;have jH:xs[off]? =some bt:=by simpa using p
   simp only [part,Sem.run_bind,si hu,Result.andThen_ok];simp only [aT];simp [jH]
 ·cases h
theorem R1{D:dL}(b':D.dw P){t:TypeId}{x:o}{bV:Value}{f:Nat}{v:o}(ae:aN al x bV)(h:CP D t x f=some v)(w:World) :
 ∃bt,(Instr.field t bV f).run P w=.ok bt w∧aN al v bt:=by
 unfold CP at h;split at h
 ·rename_i d bp aC;obtain⟨i,u,ak,hu,ap,an, -⟩:=b'.get aC;rw [ap]at h;split at h
  ·rename_i b4 e;obtain⟨aG,rfl,nJ⟩:=zj e;split at h
   ·rename_i off qK a8;simp only [aN]at ae;obtain⟨xs,rfl,fg⟩:=ae;rw [nJ]at a8;simp only [List.getElem?_map,Option.map_eq_some_iff]at a8;obtain⟨mH,qS,he⟩:=a8;simp at he;obtain⟨rfl,rfl⟩:=he;obtain⟨bt,p,ad⟩:=JG b' fg h w;refine⟨bt,?_,ad⟩;have vZ:aG[f]? =some mH:=by simpa using qS
    simp [Instr.field,run_underlying hu,vZ,asAgg,p]
   ·cases h
  ·cases h
 ·cases h
theorem R2{D:dL}(b':D.dw P){t:TypeId}{x i:o}{bV fh:Value}{v:o}(ae:aN al x bV)(ak:aN al i fh)(h:oD D t x i=some v)(w:World) :
 ∃bt,(Instr.index t bV fh).run P w=.ok bt w∧aN al v bt:=by
 unfold oD at h;split at h
 ·rename_i d bp k n aC;obtain⟨iT,u,ia,hu,ap,an, -⟩:=b'.get aC;rw [ap]at h;split at h
  ·rename_i len e he;have:=tS he;subst this;split at h
   ·rename_i cT fU;obtain⟨d',oQ,gb,zo,zp,fg, -⟩:=b'.get fU;split at h
    ·rename_i au;simp only [aN]at ae ak;obtain⟨xs,rfl,R3⟩:=ae;subst ak;obtain⟨bt,p,ad⟩:=JG b' R3 h w;refine⟨bt,?_,ad⟩;rw [fg]at p;simp [Instr.index,asIntOf,run_underlying hu,au,lo gb,p]
    ·cases h
   ·cases h
  ·cases h
 ·rename_i d s k n aC;obtain⟨iT,u,ia,hu,ap,an, -⟩:=b'.get aC;rw [ap]at h;split at h
  ·rename_i e;have:=qP e;subst this;split at h
   ·rename_i aS;simp only [aN]at ae ak;obtain⟨bL,rfl,rfl⟩:=ae;subst ak;simp only [Option.map_eq_some_iff]at h;obtain⟨b,au,rfl⟩:=h;refine⟨.int .u8 b.toNat,?_,by simp only [aN]⟩
    have fs:bL[n.toNat]? =some b:=by
     have cQ:=(List.getElem?_eq_some_iff.1 au).1;have he:=(List.getElem?_eq_some_iff.1 au).2;have pL:n.toNat<bL.size:=by rw [Array.length_toList]at cQ;exact cQ
     rw [getElem?_pos bL n.toNat pL];rw [←he];rfl
    simp [Instr.index,asIntOf,run_underlying hu,aS,fs]
   ·cases h
  ·cases h
 ·cases h
theorem R4{ci:List o}{bV:Value}{i:Nat}{v:o}(ae:aN al (.tuple ci) bV)(h:ci[i]? =some v)(w:World) :
 ∃bt,(Instr.extract bV i).run P w=.ok bt w∧aN al v bt:=by
 simp only [aN]at ae;obtain⟨xs,rfl,fg⟩:=ae;obtain⟨bt,p,ad⟩:=fg.get h;have jH:xs[i]? =some bt:=by simpa using p
 exact⟨bt,by simp [Instr.extract,jH],ad⟩
theorem Place.qT(I:Place)(i f n:Nat):(I.at i f).add n=I.at i (f+n):=by unfold Place.at;rw [Addr.add_mid];rw [Nat.add_assoc]
theorem R5{D:dL}(b':D.dw P){t:TypeId}{x:o}{bV:Value}{f:Nat}{v:o}(ae:aN al x bV)(h:CO D t x f=some v)(w:World) :
 ∃bt,(Instr.fieldAt t bV f).run P w=.ok bt w∧aN al v bt:=by
 unfold CO at h;split at h
 ·rename_i d a aC;obtain⟨i,u,ak,hu,ap,an, -⟩:=b'.get aC;rw [ap]at h;split at h
  ·rename_i b4 e;obtain⟨aG,rfl,nJ⟩:=zj e;split at h
   ·rename_i off qK a8;split at h
    ·rename_i fd R6;obtain⟨R7,afG,R8,afH,afI,tT, -⟩:=b'.get R6;split at h
     ·rename_i ir;simp at h;subst h;rw [nJ]at a8;simp only [List.getElem?_map,Option.map_eq_some_iff]at a8;obtain⟨mH,qS,he⟩:=a8;simp at he;obtain⟨rfl,rfl⟩:=he;simp only [aN]at ae;obtain⟨fN,rfl,I,ac,cw,eZ,rfl⟩:=ae;have vZ:aG[f]? =some mH:=by simpa using qS
      refine⟨.pointer (some (I.at a.idx (a.bR+mH.offset))),?_,?_⟩
      ·have b1:¬R7.size=0:=by omega
       simp [Instr.fieldAt,run_underlying hu,vZ,Instr.sureAddr,fieldPlace,lo R8,b1,Place.qT]
      ·simp only [aN];exact⟨_,rfl,I,ac,cw,eZ,rfl⟩
     ·cases h
    ·cases h
   ·cases h
  ·cases h
 ·cases h
theorem R9{D:dL}(b':D.dw P){t:TypeId}{x i:o}{bV fh:Value}{v:o}(ae:aN al x bV)(ak:aN al i fh)(h:r9 D t x i=some v)(w:World) :
 ∃bt,(Instr.indexAt t bV fh).run P w=.ok bt w∧aN al v bt:=by
 unfold r9 at h;split at h
 ·rename_i d a len cap k n aC;obtain⟨iT,u,ia,hu,ap,an, -⟩:=b'.get aC;rw [ap]at h;split at h
  ·rename_i e he;have:=ln he;subst this;split at h
   ·rename_i cT fU;obtain⟨d',oQ,gb,zo,zp,fg, -⟩:=b'.get fU;split at h
    ·rename_i au;simp at h;subst h;simp only [aN]at ae ak;obtain⟨fN,dm,rfl,ek,ck,iF⟩:=ae;have a8:=au.2.2.2;obtain⟨I,ac,cw,j6,hex⟩:=iF.plain a8;subst ak;rcases j6 with bm|⟨eZ,rfl,oM⟩
     ·omega
     ·refine⟨.pointer (some (I.at (a.idx+n.toNat) 0)),?_,?_⟩
      ·have bn:(I.at a.idx 0).add (n.toNat*d'.size)=I.at (a.idx+n.toNat) 0:=by
        rw [Place.qT];unfold Place.at;have:a.idx+n.toNat-I.a1=(a.idx-I.a1)+n.toNat:=by omega
        rw [this,Nat.add_mul,←fg,←au.2.2.1,cw]
        congr 1;omega
       have hL:=au.1;have jI:=au.2.1;simp [Instr.indexAt,asIntOf,run_underlying hu,hL,jI,lo gb,bn]
      ·simp only [aN];exact⟨_,rfl,I,ac,cw,by show I.a1≤a.idx+n.toNat;omega,by simp only [a8]⟩
    ·split at h
     ·rename_i au;simp at h;subst h;simp only [aN]at ae ak;obtain⟨fN,dm,rfl,ek,ck,iF⟩:=ae;subst ak;rcases iF with ⟨a8,_⟩|⟨f,a8,I,ac,cw,eZ,rfl⟩
      ·omega
      ·simp only at ac cw eZ;have dU:d'.size=1:=by omega
       have hL:=au.1;have jI:=au.2.1;refine⟨.pointer (some (I.at a.idx (f+n.toNat))),?_,?_⟩
       ·have bn:(I.at a.idx f).add (n.toNat*d'.size)=I.at a.idx (f+n.toNat):=by rw [Place.qT,dU,Nat.mul_one]
        simp [Instr.indexAt,asIntOf,run_underlying hu,hL,jI,lo gb,bn]
       ·simp only [aN];exact⟨_,rfl,I,ac,cw,eZ,by show I.at a.idx (f+n.toNat)=I.at a.idx (a.bR-1+n.toNat);rw [a8];rfl⟩
     ·cases h
   ·cases h
  ·cases h
 ·rename_i d a k n aC;obtain⟨iT,u,ia,hu,ap,an, -⟩:=b'.get aC;rw [ap]at h;split at h
  ·rename_i len e he;have:=tS he;subst this;split at h
   ·rename_i cT fU;obtain⟨d',oQ,gb,zo,zp,fg, -⟩:=b'.get fU;split at h
    ·rename_i au;simp at h;subst h;simp only [aN]at ae ak;obtain⟨fN,rfl,I,ac,cw,eZ,rfl⟩:=ae;subst ak;refine⟨.pointer (some (I.at a.idx (a.bR+n.toNat*d'.size))),?_,?_⟩
     ·have hL:=au.1;have jI:=au.2;simp [Instr.indexAt,asIntOf,run_underlying hu,hL,jI,lo gb,Instr.sureAddr,Place.qT]
     ·simp only [aN];exact⟨_,rfl,I,ac,cw,eZ,by simp only [fg]⟩
    ·cases h
   ·cases h
  ·cases h
 ·cases h
end
end
end Go.cM
namespace Go.cM
noncomputable section
open Go.RowKit
section
variable {P:Program}{al:Map}
def l3(al:Map):Option o→Option Value→Prop
 |none,none=>True
 |some a,some b=>aN al a b
 |_,_=>False
theorem v7{v:Option o}{bt:Option Value}(bg:l3 al v bt){CN vO r:Nat}(h:hd v CN vO=some r)(an:v.isSome=true)
 {Dg:Nat} (hm:vO≤Dg) (w:World) (code:BoundsCode):∃x,bt=some x∧(Instr.sliceBound x Dg code).run P w=.ok r w∧r≤vO:=by
 cases v with
 |none=>cases an
 |some a =>
  cases bt with
  |none=>exact bg.elim
  |some x =>
   refine⟨x,rfl,?_⟩;unfold hd at h;split at h
   ·rename_i e;cases e
   ·rename_i k i e;simp at e;subst e;split at h
    ·rename_i au;simp at h;subst h;simp only [l3,aN]at bg;subst bg;have hle:i≤(Dg:Int):=by omega
     exact⟨by simp [Instr.sliceBound,asIntOf,au.1,hle],by omega⟩
    ·cases h
   ·cases h
theorem zq{a1 ak fR:Option o}{ic ga mI:Option Value}(eZ:l3 al a1 ic)(kT:l3 al ak ga)(sj:l3 al fR mI){len cap dm m bW l:Nat}(sk:len≤cap)(eb:cap≤dm)
 (hm:hd fR cap cap=some m) (tU:hd ak len m=some bW) (az:hd a1 0 bW=some l) (jJ:¬(fR.isSome=true∧ak.isNone=true)) (isSlice:Bool) (w:World) :
 ∃hU,(Instr.sliceBounds isSlice len dm ic ga mI).run P w=.ok (l,bW,hU) w∧m≤hU∧hU≤dm∧(dm=cap→hU=m)∧bW≤m∧l≤bW:=by
 have bd:∀code,(match ic with|some v=>Instr.sliceBound v bW code|none=>pure 0:Sem Nat).run P w=.ok l w∧l≤bW:=by
  intro code;cases a1 with
  |none=>cases ic with
   |none=>simp [hd]at az;subst az;exact⟨rfl,Nat.zero_le _⟩
   |some _=>exact eZ.elim
  |some a =>
   obtain⟨x,rfl,p,ad⟩:=v7 (P:=P) eZ az rfl (Nat.le_refl _) w code;exact⟨p,ad⟩
 cases fR with
 |none =>
  cases mI with
  |some _=>exact sj.elim
  |none =>
   simp [hd]at hm;subst hm;refine⟨dm,?_,eb,Nat.le_refl _,fun h=>h,?_⟩
   ·cases ak with
    |none=>cases ga with
     |some _=>exact kT.elim
     |none =>
      simp [hd]at tU;subst tU;have:=(bd .sliceB).1;cases ic<;>simp_all [Instr.sliceBounds]
    |some b =>
     obtain⟨x,rfl,p,ad⟩:=v7 (P:=P) kT tU rfl eb w (if isSlice then .sliceAcap else .sliceAlen);have:=(bd .sliceB).1;cases ic<;>simp_all [Instr.sliceBounds]
   ·refine⟨?_,(bd .sliceB).2⟩;cases ak with
    |none=>simp [hd]at tU;omega
    |some b=>obtain⟨x,rfl,p,ad⟩:=v7 (P:=P) kT tU rfl eb w .sliceB;exact ad
 |some a =>
  obtain⟨y,rfl,g1,g2⟩:=v7 (P:=P) sj hm rfl eb w (if isSlice then .slice3Acap else .slice3Alen);cases ak with
  |none=>simp at jJ
  |some b =>
   obtain⟨x,rfl,p,ad⟩:=v7 (P:=P) kT tU rfl (Nat.le_refl _) w .slice3B;refine⟨m,?_,Nat.le_refl _,by omega,fun _=>rfl,ad,(bd .sliceB).2⟩;have:=(bd .slice3C).1;cases ic<;>simp_all [Instr.sliceBounds]
theorem R'(s:ByteArray)(l h:Nat):(s.extract l h).data.toList=(s.data.toList.take h).drop l:=by
 have:(s.extract l h).data=s.data.extract l h:=by simp
 rw [this];simp [List.extract,List.drop_take]
theorem Sa{D:dL}(b':D.dw P){t:TypeId}{x v:o}{bV:Value}{a1 ak fR:Option o}{ic ga mI:Option Value}(ae:aN al x bV)
 (eZ:l3 al a1 ic) (kT:l3 al ak ga) (sj:l3 al fR mI) (h:kk D t x a1 ak fR=some v) (w:World) :
 ∃bt,(Instr.sliceAt t bV ic ga mI).run P w=.ok bt w∧aN al v bt:=by
 unfold kk at h;split at h
 ·rename_i d a len cap aC;obtain⟨iT,u,ia,hu,ap,an, -⟩:=b'.get aC;rw [ap]at h;split at h
  ·rename_i e he;have:=ln he;subst this;split at h
   ·rename_i cT m fU hm;obtain⟨d',oQ,gb,zo,zp,fg, -⟩:=b'.get fU;split at h
    ·rename_i bW sl;split at h
     ·rename_i l az;split at h
      ·cases h
      ·rename_i jJ;split at h
       ·simp at h;subst h;simp only [aN]at ae;obtain⟨rfl,rfl,rfl⟩:=ae;obtain⟨hU,aM,aR,bu,hg,ie,mJ⟩:=zq (P:=P) eZ kT sj (Nat.le_refl _) (Nat.le_refl 0) hm sl az jJ true w;have bn:hU=0:=by omega
        have bs:m=0:=by omega
        have b7:bW=0:=by omega
        have ct:l=0:=by omega
        subst bn bs b7 ct;refine⟨.slice none 0 0,?_,by simp [aN]⟩;simp [Instr.sliceAt,run_underlying hu,Instr.slice,aM,lo gb]
       ·rename_i a;split at h
        ·rename_i Sb;obtain⟨cw,a8⟩:=Sb;simp at h;subst h;simp only [aN]at ae;obtain⟨fN,dm,rfl,ek,ck,iF⟩:=ae;obtain⟨I,ac,jK,j6,hex⟩:=iF.plain a8;obtain⟨hU,aM,aR,bu,hg,ie,mJ⟩:=zq (P:=P) eZ kT sj ek ck hm sl az jJ true w;refine⟨.slice (if hU=l then some fN else some (fN.add (l*d'.size))) (bW-l) (hU-l),?_,?_⟩
         ·simp [Instr.sliceAt,run_underlying hu,Instr.slice,aM,lo gb]
         ·simp only [aN];by_cases JH:hU=l
          ·rw [if_pos JH];exact⟨fN,hU-l,rfl,by omega,by omega,.inl ⟨a8,I,ac,jK,.inl (by omega),fun bW=>by have:=hg (hex bW);omega⟩⟩
          ·rw [if_neg JH];refine⟨_,hU-l,rfl,by omega,by omega,.inl ⟨a8,I,ac,jK,?_,fun bW=>by have:=hg (hex bW);omega⟩⟩;rcases j6 with bm|⟨g1,rfl,g3⟩
           ·left;omega
           ·right;refine⟨by show I.a1≤a.idx+l;omega,?_,by show a.idx+l-I.a1+(hU-l)≤I.fE;omega⟩;rw [Place.qT];unfold Place.at;have:a.idx+l-I.a1=(a.idx-I.a1)+l:=by omega
            simp only [this,Nat.add_mul,←fg,←cw,jK]
            congr 1;omega
        ·cases h
     ·cases h
    ·cases h
   ·cases h
  ·cases h
 ·rename_i d a aC;obtain⟨iT,u,ia,hu,ap,an, -⟩:=b'.get aC;rw [ap]at h;split at h
  ·rename_i n el pP;have:=tS pP;subst this;split at h
   ·rename_i cT fU;obtain⟨d',oQ,gb,zo,zp,fg, -⟩:=b'.get fU;split at h
    ·cases h
    ·rename_i jJ;split at h
     ·rename_i bW sl;split at h
      ·rename_i l az;split at h
       ·rename_i av;obtain⟨l4,jp⟩:=av;simp at h;subst h;simp only [aN]at ae;obtain⟨fN,rfl,I,ac,jK,Sc,rfl⟩:=ae;have Dh:fR=none:=by cases fR<;>simp_all
        subst Dh;have Di:mI=none:=by cases mI with|none=>rfl|some _=>exact sj.elim
        subst Di;obtain⟨hU,aM,aR,bu,hg,ie,mJ⟩:=zq (P:=P) (fR:=none) (mI:=none) eZ kT trivial (Nat.le_refl n) (Nat.le_refl n) (m:=n) (by simp [hd]) sl az (by simp) false w;have l5:=hg rfl;subst l5;have dU:d'.size=1:=by omega
        refine⟨.slice (some ((I.at a.idx a.bR).add (l*d'.size))) (bW-l) (hU-l),?_,?_⟩
        ·have b1:¬hU=l:=by omega
         simp [Instr.sliceAt,run_underlying hu,aM,lo gb,Instr.sureAddr,b1]
        ·simp only [aN];refine⟨_,hU-l,rfl,by omega,Nat.le_refl _,.inr ⟨a.bR+l,rfl,I,ac,jK,Sc,?_⟩⟩;rw [Place.qT,dU,Nat.mul_one]
       ·cases h
      ·cases h
     ·cases h
   ·cases h
  ·cases h
 ·rename_i d s aC;obtain⟨iT,u,ia,hu,ap,an, -⟩:=b'.get aC;rw [ap]at h;split at h
  ·rename_i e;have:=qP e;subst this;split at h
   ·cases h
   ·rename_i jJ;split at h
    ·rename_i bW sl;split at h
     ·rename_i l az;simp at h;subst h;simp only [aN]at ae;obtain⟨bL,rfl,rfl⟩:=ae;rw [Array.length_toList]at sl;have Dh:fR=none:=by cases fR<;>simp_all
      subst Dh;have Di:mI=none:=by cases mI with|none=>rfl|some _=>exact sj.elim
      subst Di;obtain⟨hU,aM,aR,bu,hg,ie,mJ⟩:=zq (P:=P) (fR:=none) (mI:=none) eZ kT trivial (Nat.le_refl bL.size) (Nat.le_refl bL.size) (m:=bL.size) (by simp [hd]) sl az (by simp) false w;refine⟨.string (bL.extract l bW),?_,by simp only [aN];exact⟨_,rfl,R' _ _ _⟩⟩;simp [Instr.sliceAt,run_underlying hu,Instr.slice,aM]
     ·cases h
    ·cases h
  ·cases h
 ·cases h
theorem zr{w:World}{b ab:Nat} :∀{l:List o},(∀C bV,l[C]? =some bV→ ∃x,w.cell? ⟨b,ab+C,none⟩=some x∧aN al bV x∧x.oneCell'=true) →
 ∃ci,bH al l ci∧w.rangeAt b ab ci∧∀x∈ci,x.oneCell'=true
 |[],_=>⟨[],by simp [bH],by intro C v bg;simp at bg,by simp⟩
 |a ::r,h=>by
  obtain⟨x,dU,fG⟩:=h 0 a (by simp)
  have ih:=zr (w:=w) (b:=b) (ab:=ab+1) (l:=r) (fun C bV aV=>by
   obtain⟨x,g1,g2⟩:=h (C+1) bV (by simpa using aV)
   exact⟨x,by rw [show ab+1+C=ab+(C+1)by omega];exact g1,g2⟩)
  obtain⟨ci,i1,i2,i3⟩:=ih;refine⟨x::ci,by simp only [bH];exact⟨_,_,rfl,fG.1,i1⟩,?_,?_⟩
  ·intro C v bg;cases C with
   |zero=>simp at bg;subst bg;exact dU
   |succ C=>simp at bg;have:=i2 C v bg;rw [show ab+(C+1)=ab+1+C by omega];exact this
  ·intro y bY;rcases List.mem_cons.1 bY with rfl|bY
   ·exact fG.2
   ·exact i3 y bY
theorem c4.Sd{be:Nat→Prop}{h:j}{w:World}(r:c4 al be h w){a:bG}{fN:Addr}(aT:tM al a fN){b:R}(au:h.get a.id=some b){e:o}(he:b.elem? a.J a.idx=some e) :
 ∃I,al a.id a.J=some I∧fN=I.at a.idx a.bR∧I.a1≤a.idx∧e.cells.length=I.es∧∀C bV,e.cells[C]? =some bV→ ∃x,w.cell? (I.at a.idx C)=some x∧aN al bV x∧x.oneCell'=true:=by
 obtain⟨I,ac,cw,eZ,rfl⟩:=aT;obtain⟨p,c,ad,bd,bS,bI,dx,cP,cy⟩:=r.dD _ _ _ ac;rw [au]at ad;simp at ad;subst ad;unfold R.elem? at he;split at he
 ·rename_i az;obtain⟨dG,ee,f'⟩:=cy.cont _ _ eZ az he;exact⟨I,ac,rfl,eZ,dG,f'⟩
 ·cases he
theorem JI{D:dL}(b':D.dw P){be:Nat→Prop}{h:j}{w:World}(r:c4 al be h w){t:TypeId}{a:bG}{bV:Value}{v:o}(ae:aN al (.ptr (some a)) bV)(ai:cj D t a h=some v) :
 ∃bt,(Instr.loadAt t bV).run P w=.ok bt w∧aN al v bt:=by
 unfold cj at ai;split at ai
 ·rename_i d b aC au;obtain⟨iT,u,ia,hu,ap,an, -⟩:=b'.get aC;split at ai
  ·rename_i e he;simp only [aN]at ae;obtain⟨fN,rfl,sn⟩:=ae;obtain⟨I,ac,rfl,eZ,hlen,pO⟩:=r.Sd sn au he;rw [ap,an]at ai;cases zs:(hb u).isAgg with
   |true =>
    rw [zs]at ai;simp only [iD,if_true]at ai;split at ai
    ·rename_i bp
     have key:∀(l:List o),(∀(C:Nat)(bV:o),l[C]? =some bV→bp[a.bR+C]? =some bV)→l.length=iT.size→ ∃bt,(Instr.loadAt t (.pointer (some (I.at a.idx a.bR)))).run P w=.ok bt w∧aN al (.agg l) bt:=by
      intro l az l6
      obtain⟨ci,zt,tV, -⟩:=zr (al:=al) (w:=w) (b:=I.cq) (ab:=I.off+(a.idx-I.a1)*I.es+a.bR) (l:=l) (fun C bV aV=>by
       obtain⟨x,g1,g2⟩:=pO (a.bR+C) bV (az C bV aV)
       exact⟨x,by rw [Place.at,←Nat.add_assoc]at g1;exact g1,g2⟩)
      refine⟨.agg ci.toArray,?_,by simp only [aN];exact⟨_,rfl,by simpa using zt⟩⟩;exact run_loadAt_mid w I.cq _ t ci u tV hu (by cases u<;>simp [hb,kh.isAgg]at zs⊢) (by rw [ia];simp [zt.length,l6])
     split at ai
     ·rename_i av;simp at ai;subst ai;exact key bp (fun C bV aV=>by rw [av.1,Nat.zero_add];exact aV) av.2.symm
     ·split at ai
      ·rename_i av;simp at ai;subst ai;refine key _ (fun C bV aV=> ?_) (by simp;omega);rw [List.getElem?_take]at aV;split at aV
       ·rw [List.getElem?_drop]at aV;exact aV
       ·simp at aV
      ·cases ai
    ·cases ai
   |false =>
    rw [zs]at ai
    have key:∀(C:Nat)(y:o),e.cells[C]? =some y→a.bR=C→ ∃bt,(Instr.loadAt t (.pointer (some (I.at a.idx a.bR)))).run P w=.ok bt w∧aN al y bt:=by intro C y bY aV;subst aV;obtain⟨x,g1,g2⟩:=pO a.bR y bY;refine⟨x,?_,g2.1⟩;simp only [Instr.loadAt,Instr.sureAddr,Sem.run_bind,Sem.run_pure,Result.andThen_ok,loadVar,si hu,zs];simp [g1]
    simp only [iD]at ai;cases e with
    |agg bp=>exact key a.bR v ai rfl
    |_ =>
     simp at ai;obtain⟨a8,rfl⟩:=ai;exact key 0 _ (by simp [o.cells]) a8
  ·cases ai
 ·cases ai
theorem aN.Se{a:o}{v:Value}(h:aN al a v)(an:a.j4=true):v.oneCell'=true:=by
 cases a with
 |undef=>cases an
 |agg bp=>cases an
 |tuple bp=>cases an
 |bool b=>simp only [aN]at h;subst h;rfl
 |int k n=>simp only [aN]at h;subst h;rfl
 |str s=>simp only [aN]at h;obtain⟨_,rfl,_⟩:=h;rfl
 |ptr ab=>cases ab with
  |none=>simp only [aN]at h;subst h;rfl
  |some x=>simp only [aN]at h;obtain⟨_,rfl,_⟩:=h;rfl
 |slice ab l c=>cases ab with
  |none=>simp only [aN]at h;obtain⟨rfl,_⟩:=h;rfl
  |some x=>simp only [aN]at h;obtain⟨_,_,rfl,_⟩:=h;rfl
 |func fn f c=>simp only [aN]at h;obtain⟨_,_,rfl,_⟩:=h;rfl
 |nilFunc=>simp only [aN]at h;subst h;rfl
 |iface t x=>simp only [aN]at h;obtain⟨_,rfl,_⟩:=h;rfl
 |nilIface=>simp only [aN]at h;subst h;rfl
end
end
end Go.cM
namespace Go.cM
noncomputable section
open Go.RowKit
section
variable {P:Program}{al:Map}
theorem Dj{v:o}(h:v.j4=true):v.cells=[v]:=by cases v<;>first|rfl|(simp [o.j4]at h)
theorem so{v:o}{hI:Bool}{size:Nat}(h:v.fits hI size=true):v.cells.length=size∧v≠ .undef∧∀c∈v.cells,c.j4=true:=by cases v<;>simp [o.fits,o.cells,o.j4]at h⊢ <;>first|exact h.2.symm|exact⟨h.1.2,h.2⟩|skip
theorem bH.one{l:List o}{t:List Value}(h:bH al l t)(an:∀c∈l,c.j4=true):∀x∈t,x.oneCell'=true:=by
 intro x ae;obtain⟨i,ak,rfl⟩:=List.mem_iff_getElem.1 ae;have ga:i<l.length:=by rw [←h.length];exact ak
 obtain⟨v,bg,pK⟩:=h.get (List.getElem?_eq_getElem ga);rw [List.getElem?_eq_getElem ak]at bg;simp at bg;subst bg;exact pK.Se (an _ (List.getElem_mem _))
theorem Sf{D:dL}(b':D.dw P){be:Nat→Prop}{h aa:j}{br w:World}(r:c4 al be h w)(dE:Safe be br w){t:TypeId}{a:bG}{v:o}{bV bt:Value}
 (ae:aN al (.ptr (some a)) bV) (bg:aN al v bt) (ai:ki D t a v h=some aa) :
 ∃bC,(Instr.storeAt t bV bt).run P w=.ok () bC∧c4 al be aa bC∧Safe be br bC∧aa.next=h.next:=by
 unfold ki at ai;split at ai
 ·rename_i d b aC au;obtain⟨iT,u,ia,hu,ap,an, -⟩:=b'.get aC;split at ai
  ·rename_i av;simp only [Bool.and_eq_true,Bool.not_eq_true',beq_iff_eq]at av;obtain⟨⟨Dk,eY⟩,oR⟩:=av;split at ai
   ·rename_i e he;split at ai
    ·rename_i dT iV;simp at ai;subst ai;simp only [aN]at ae;obtain⟨fN,rfl,I,ac,cw,eZ,rfl⟩:=ae;rw [oR]at ac;obtain⟨f1,f2,f3⟩:=so Dk;have en:=bg.cells f2;have ko:=en.one f3;obtain⟨p,c,ad,bd,bS,bI,dx,cP,cy⟩:=r.dD _ _ _ ac;rw [au]at ad;simp at ad;subst ad;have sg:a.idx<b.bi.length:=(List.getElem?_eq_some_iff.1 he).1;obtain⟨dG,ee,f'⟩:=cy.cont a.idx e eZ (by simp [R.cO];exact sg) he
     have JJ:a.bR+v.cells.length≤I.es∧dT.cells=jC e.cells a.bR v.cells:=by
      unfold vJ at iV;split at iV
      ·rename_i bp;split at iV
       ·rename_i hle;simp at iV;subst iV;simp only [o.cells]at dG;exact⟨by omega,rfl⟩
       ·cases iV
      ·rename_i b1;split at iV
       ·rename_i av;simp at iV;subst iV;have bn:e.cells=[e]:=by cases e<;>first|rfl|exact absurd rfl (b1 _)
        rw [bn]at dG⊢;have bs:=Dj av.2;rw [av.1,bs];simp at dG;exact⟨by simp;omega,rfl⟩
       ·cases iV
     obtain⟨aM,aR⟩:=r.store ac au eY eZ he en ko JJ.1 JJ.2;refine⟨_,?_,aM,?_,rfl⟩
     ·have eX:bt.cells.size=iT.size:=by have:=en.length;rw [Array.length_toList]at this;omega
      have kr:=run_storeCells_cells (P:=P) I.cq (I.off+(a.idx-I.a1)*I.es+a.bR) bt.cells.toList 0 w (fun C aV=>by simpa using (aR C aV).1) (fun C aV=>by simpa using (aR C aV).2) ko;simp only [Nat.add_zero]at kr;simp only [Instr.storeAt,Instr.sureAddr,Sem.run_bind,Sem.run_pure,Result.andThen_ok,storeVar,lo ia,eX,Place.at];simp only [ne_eq,not_true_eq_false,if_false];exact kr
     ·exact vU _ (cy.base (dx eY)) _ _ dE
    ·cases ai
   ·cases ai
  ·cases ai
 ·cases ai
theorem Sg(v:o):flat [v]=v.cells:=by simp [flat]
theorem JK{D:dL}{be:Nat→Prop}{h:j}{br w:World}(r:c4 al be h w)(dE:Safe be br w)(dn:fC be br.heap.size){bh:Nat}(hid:∀v,al bh v=none)(aS:bh<h.next)(t:TypeId){v:o}{bt:Value}{hI:Bool}{size:Nat}
 (bg:aN al v bt) (Dk:v.fits hI size=true) (ir:0<size) :
 ∃bC bN,(newVar t bt).run P w=.ok ⟨w.heap.size,0,none⟩ bC∧hq al bN h.next bh∧aN bN (.ptr (some ⟨bh,0,0,0,size⟩)) (.pointer (some ⟨w.heap.size,0,none⟩))
  ∧c4 bN be (h.set bh (.made [v] size true (some (t,size)))) bC∧Safe be br bC:=by
 obtain⟨f1,f2,f3⟩:=so Dk;have en:=bg.cells f2;have ko:=en.one f3;have hlen:bt.cells.toList.length=size:=by rw [en.length,f1]
 have jL:fC be w.heap.size:=dn.le dE.size;refine⟨w.alloc (.cells bt.cells t),al.add bh 0 ⟨w.heap.size,0,0,size,1,true,false⟩,rfl,hq.add al _ (hid 0) _,?_,?_,dE.alloc jL _⟩
 ·simp only [aN];refine⟨_,rfl,_,Map.zd _ _ _ _,rfl,Nat.le_refl _,?_⟩;simp [Place.at]
 ·refine r.made hid aS jL ir (by intro e he;simp at he;subst he;exact f1) ?_ ?_ (by simp) ?_ (fun q h=>by cases h;exact⟨rfl,fun _=>by rw [←Array.length_toList,hlen]⟩)
  ·rw [Sg,List.take_of_length_le (by simp [hlen])];exact en
  ·rw [←Array.length_toList,hlen];omega
  ·intro x ae;exact ko x (List.mem_of_mem_take ae)
def v8(l:List Value)(i:Nat):List Value→List Value
 |[]=>l
 |v::ci=>v8 (l.set i v) (i+1) ci
theorem bH.put{l m:List o}{t u:List Value}(h:bH al l t)(k:bH al m u)(i:Nat):bH al (cM.jC l i m) (v8 t i u):=by
 induction m generalizing l t u i with
 |nil=>simp only [bH]at k;subst k;exact h
 |cons a r ih =>
  simp only [bH]at k;obtain⟨v,tW,rfl,p,ad⟩:=k;exact ih (h.set i p) ad (i+1)
theorem JL:∀(ci:List Value)(off k:Nat)(cells:Array Value),((ci.zipIdx k).foldl (fun bp (x:Value×Nat)=>bp.setIfInBounds (off+x.2) x.1) cells).toList=v8 cells.toList (off+k) ci
 |[],off,k,cells=>rfl
 |v::ci,off,k,cells=>by simp only [List.zipIdx_cons,List.foldl_cons,v8];rw [JL ci off (k+1),Array.toList_setIfInBounds,Nat.add_assoc]
theorem JM(ci:Array Value)(off:Nat)(cells:Array Value):(ci.zipIdx.foldl (fun bp (x:Value×Nat)=>bp.setIfInBounds (off+x.2) x.1) cells).toList=v8 cells.toList off ci.toList:=by rw [←Array.foldl_toList,Array.toList_zipIdx];exact JL ci.toList off 0 cells
theorem Dl{place zu:Nat→Option (Nat×Nat)}(ac:∀i x,place i=some x→zu i=some x):∀{parts:List (Nat×o)} {sp:List (Nat×Value)} {l c5:List o} {cells:Array Value},
 (parts.map (·.1)=sp.map (·.1))→bH al (parts.map (·.2)) (sp.map (·.2))→bH al l cells.toList→tK place l parts=some c5 →
 ∃ks,Instr.fill zu cells sp=some ks∧bH al c5 ks.toList
 |[],[],l,c5,cells,_,_,az,h=>by simp [tK]at h;subst h;exact⟨cells,rfl,az⟩
 |[],_::_,_,_,_,h,_,_,_=>by simp at h
 |_::_,[],_,_,_,h,_,_,_=>by simp at h
 |(i, v)::rest,(fh,bt)::Sh,l,c5,cells,p,ad,az,h=>by
  simp at p;obtain⟨rfl,p⟩:=p;simp only [List.map_cons,bH]at ad;obtain⟨u,t,e,bg,ad⟩:=ad;simp at e;obtain⟨rfl,rfl⟩:=e;simp only [tK]at h;split at h
  ·cases h
  ·rename_i off size qU;split at h
   ·rename_i av;have en:=bg.cells (by rintro rfl;simp [o.known]at av);have eX:bt.cells.size=size:=by have:=en.length;rw [Array.length_toList]at this;omega
    have hs:cells.size=l.length:=by have:=az.length;rw [Array.length_toList]at this;omega
    have key:=Dl ac p ad (l:=jC l off v.cells) (cells:=bt.cells.zipIdx.foldl (fun bp (x:Value×Nat)=>bp.setIfInBounds (off+x.2) x.1) cells)
     (by rw [JM];exact az.put en off) h
    obtain⟨ks,aM,aR⟩:=key;refine⟨ks,?_,aR⟩;simp only [Instr.fill,ac _ _ qU];split
    ·rename_i dt;exfalso;simp only [ne_eq,Bool.or_eq_true,decide_eq_true_eq]at dt;omega
    ·exact aM
   ·cases h
theorem Dm(parts:Array (Nat×Operand))(bf:Operand→o)(dV:Operand→Value) :
 (parts.toList.map fun I=>(I.1,bf I.2)).map (·.1)=((parts.map fun(i,x)=>(i,dV x)).toList).map (·.1):=by
 simp only [Array.toList_map,List.map_map];rfl
theorem Dn{bf:Operand→o}{dV:Operand→Value}(c0:∀x,aN al (bf x) (dV x))(parts:Array (Nat×Operand)) :
 bH al ((parts.toList.map fun I=>(I.1,bf I.2)).map (·.2)) (((parts.map fun(i,x)=>(i,dV x)).toList).map (·.2)):=by
 simp only [Array.toList_map,List.map_map];exact bH.map _ _ _ fun x _=>c0 x.2
theorem tX{D:dL}(b':D.dw P){t:TypeId}{d:qH}{i:TypeInfo}{z:o}(h:d.zero=i.zero.map qG)(eT:d.zero=some z):∃gl,i.zero=some gl∧aN al z gl:=by
 rw [eT]at h;cases ak:i.zero with
 |none=>rw [ak]at h;cases h
 |some gl=>rw [ak]at h;simp at h;subst h;exact⟨gl,rfl,Jk al gl⟩
theorem Si{b4:Array Field}{w:World}{g:Field→Nat}(ag:∀f∈b4.toList,(sizeOf f.type).run P w=.ok (g f) w) :
 ((b4.mapM fun f=>(do pure (f.offset,←sizeOf f.type):Sem (Nat×Nat)))).run P w=.ok (b4.map fun f=>(f.offset,g f)) w:=by
 have key:∀(l:List Field),(∀f∈l,(sizeOf f.type).run P w=.ok (g f) w)→(l.mapM fun f=>(do pure (f.offset,←sizeOf f.type):Sem (Nat×Nat))).run P w=.ok (l.map fun f=>(f.offset,g f)) w:=by
  intro l;induction l with
  |nil=>intro _;rfl
  |cons f r ih =>
   intro h;simp only [List.mapM_cons,Sem.run_bind,h f (by simp),Result.andThen_ok,Sem.run_pure,ih (fun f a8=>h f (by simp [a8])),List.map_cons]
 have:=key b4.toList ag;rw [←Array.toArray_toList (xs:=b4)];simp only [List.mapM_toArray,Sem.run_map,this,Result.andThen_ok,List.map_toArray]
theorem Sj{D:dL}(b':D.dw P){t:TypeId}{parts:Array (Nat×Operand)}{bf:Operand→o}{dV:Operand→Value}(c0:∀x,aN al (bf x) (dV x)){v:o}
 (h:CM D t (parts.toList.map fun I=>(I.1,bf I.2))=some v) (w:World) :
 ∃bt,(Instr.build t (parts.map fun(i,x)=>(i,dV x))).run P w=.ok bt w∧aN al v bt:=by
 unfold CM at h;split at h
 ·rename_i d aC;obtain⟨iT,u,ia,hu,ap,an, -,eT⟩:=b'.get aC;split at h
  ·rename_i b4 z dY Dp;split at h
   ·rename_i kU;rw [ap]at dY;obtain⟨aG,rfl,nJ⟩:=zj dY;obtain⟨gl,l7,nK⟩:=tX (P:=P) (al:=al) (t:=t) b' eT Dp;simp only [Option.map_eq_some_iff]at h;obtain⟨cells,av,rfl⟩:=h
    have eX:∀f∈aG.toList,∃x,D f.type=some x:=by intro f a8;have Dq:=kU.2;unfold Ji at Dq;rw [nJ,List.all_eq_true]at Dq;have:=Dq (f.offset,f.type) (List.mem_map.2 ⟨f,a8,rfl⟩);exact Option.isSome_iff_exists.1 this
    have kr:=Si (P:=P) (w:=w) (b4:=aG) (g:=fun f=>((D f.type).map (·.size)).getD 0) (fun f a8=>by
     obtain⟨x,ae⟩:=eX f a8;obtain⟨d',oQ,gb, -, -,fg, -⟩:=b'.get ae
     rw [lo gb,ae];simp [fg])
    have Dr:z≠ .undef:=by rintro rfl;simp [o.known]at kU
    obtain⟨ks,aM,aR⟩:=Dl (al:=al) (zu:=fun i=>(aG.map fun f=>(f.offset,((D f.type).map (·.size)).getD 0))[i]?) (fun i x ae=>by
     split at ae
     ·rename_i off qK a8;simp only [Option.map_eq_some_iff]at ae;obtain⟨y,bY,rfl⟩:=ae;rw [nJ]at a8;simp only [List.getElem?_map,Option.map_eq_some_iff]at a8;obtain⟨mH,qS,he⟩:=a8;simp at he;obtain⟨rfl,rfl⟩:=he;have vZ:aG[i]? =some mH:=by simpa using qS
      simp [vZ,bY]
     ·cases ae) (Dm parts bf dV) (Dn c0 parts) (nK.cells Dr) av
    refine⟨.agg ks,?_,by simp only [aN];exact⟨_,rfl,aR⟩⟩;simp only [Instr.build,Sem.run_bind,vW ia l7,Result.andThen_ok,run_underlying hu,kr,aM,Sem.run_pure]
   ·cases h
  ·rename_i n e z dY Dp;split at h
   ·rename_i cT fU;split at h
    ·rename_i kU;rw [ap]at dY;have:=tS dY;subst this;obtain⟨gl,l7,nK⟩:=tX (P:=P) (al:=al) (t:=t) b' eT Dp;obtain⟨d',oQ,gb, -, -,fg, -⟩:=b'.get fU;simp only [Option.map_eq_some_iff]at h;obtain⟨cells,av,rfl⟩:=h;have Dr:z≠ .undef:=by rintro rfl;simp [o.known]at kU
     obtain⟨ks,aM,aR⟩:=Dl (al:=al) (zu:=fun i=>some (i*d'.size,d'.size)) (fun i x ae=>by rw [←fg];exact ae) (Dm parts bf dV) (Dn c0 parts) (nK.cells Dr) av;refine⟨.agg ks,?_,by simp only [aN];exact⟨_,rfl,aR⟩⟩;simp only [Instr.build,Sem.run_bind,vW ia l7,Result.andThen_ok,run_underlying hu,lo gb,aM,Sem.run_pure]
    ·cases h
   ·cases h
  ·cases h
 ·cases h
end
end
end Go.cM
namespace Go.cM
noncomputable section
open Go.RowKit
section
variable {P:Program}{al:Map}
def pQ(P:Program)(al:Map)(be:Nat→Prop)(br:World)(h:j)(bh:Nat)(v:o)(aa:j)(s:Sem Value)(w:World):Prop :=
 ∃bt bC bN,s.run P w=.ok bt bC∧hq al bN h.next bh∧aN bN v bt∧c4 bN be aa bC∧Safe be br bC∧aa.next=h.next
theorem pQ.pure{be:Nat→Prop}{br:World}{h:j}{bh:Nat}{v:o}{s:Sem Value}{w:World}(r:c4 al be h w)(au:Safe be br w)(k:∃bt,s.run P w=.ok bt w∧aN al v bt):pQ P al be br h bh v h s w :=
 let ⟨bt,p,ad⟩:=k;⟨bt,w,al,p,hq.refl _ _ _,ad,r,au,rfl⟩
theorem Sk(lq:Array Value)(i:Nat)(h:i<lq.size):lq[i]! =lq[i]:=by simp [getElem!_pos,h]
theorem JN{z:o}{gl:Value}{es:Nat}(eT:aN al z gl)(ap:z≠ .undef)(hlen:z.cells.length=es)(cw:0<es)(n:Nat) :
 bH al (flat (List.replicate n z)) ((Array.range (n*es)).map (fun i=>gl.cells[i%gl.cells.size]!)).toList:=by
 have av:=eT.cells ap;have eX:gl.cells.size=es:=by have:=av.length;rw [Array.length_toList]at this;omega
 have hr:∀e∈List.replicate n z,e.cells.length=es:=by intro e he;rw [List.eq_of_mem_replicate he];exact hlen
 refine bH.e3 (by rw [li hr];simp) fun i a v aT bg=> ?_
 have ak:i<(flat (List.replicate n z)).length:=(List.getElem?_eq_some_iff.1 aT).1;obtain⟨q,C,e,rfl,he,aV⟩:=zg hr i ak;have Sl:e=z:=List.eq_of_mem_replicate (List.mem_of_getElem? he);subst Sl;have qV:e.cells[C]? =some (e.cells[C]'(by omega)):=List.getElem?_eq_getElem _;have a8:=oL hr he qV;rw [a8]at aT;simp at aT;subst aT;have nL:(q*es+C)%es=C:=by rw [Nat.add_comm,Nat.add_mul_mod_self_right];exact Nat.mod_eq_of_lt aV
 have cQ:q*es+C<n*es:=by rw [li hr]at ak;simpa using ak
 obtain⟨u,hu,CX⟩:=av.get qV
 have Sm:gl.cells[C]'(by omega)=u:=by have:=(List.getElem?_eq_some_iff.1 hu).2;simpa using this
 simp only [Array.toList_map,Array.toList_range,List.getElem?_map,List.getElem?_range cQ,Option.map_some,Option.some.injEq]at bg;rw [eX,nL,Sk _ _ (by omega),Sm]at bg;subst bg;exact CX
theorem JO:∀{parts:List (Nat×o)} {l c5:List o},nD l parts=some c5→c5.length=l.length
 |[],l,c5,h=>by simp [nD]at h;subst h;rfl
 |(i,v)::r,l,c5,h=>by
  simp only [nD]at h;split at h
  ·rw [JO h];simp
  ·cases h
theorem Sn{es:Nat} :∀{l:List o}(az:∀e∈l,e.cells.length=es){i:Nat}{v:o},i<l.length→v.cells.length=es→flat (l.set i v)=jC (flat l) (i*es) v.cells:=by
 intro l az i v ak bg
 have oS:∀e∈l.set i v,e.cells.length=es:=by
  intro e he;rcases List.mem_or_eq_of_mem_set he with h|h
  ·exact az e h
  ·rw [h];exact bg
 apply List.ext_getElem?;intro k;rw [ze];by_cases ap:k<(flat (l.set i v)).length
 ·obtain⟨q,C,e,rfl,he,aV⟩:=zg oS k ap;have So:e.cells.length=es:=oS e (List.mem_of_getElem? he);rw [oL oS he (List.getElem?_eq_getElem (by omega:C<e.cells.length))];have lm:q*es+C<(flat l).length:=by rw [li az];rw [li oS,List.length_set]at ap;exact ap
  by_cases JP:i=q
  ·subst JP;rw [List.getElem?_set_self ak]at he;simp at he;subst he;rw [if_pos ⟨by omega,by rw [bg];omega,lm⟩,show i*es+C-i*es=C by omega,List.getElem?_eq_getElem (by omega)]
  ·rw [List.getElem?_set_ne JP]at he;rw [if_neg]
   ·rw [oL az he (List.getElem?_eq_getElem (by omega:C<e.cells.length))]
   ·intro av;rcases Nat.lt_or_ge q i with cQ|gr
    ·have:=tQ (i:=q) (k:=i) (C:=C) (es:=es) cQ aV;omega
    ·have:=tQ (i:=i) (k:=q) (C:=es-1) (es:=es) (by omega) (by omega);omega
 ·rw [List.getElem?_eq_none (by omega),if_neg (by rw [li oS,List.length_set]at ap;rw [li az];omega),List.getElem?_eq_none (by rw [li az];rw [li oS,List.length_set]at ap;omega)]
theorem JQ{es:Nat} :∀{parts:List (Nat×o)} {sp:List (Nat×Value)} {l c5:List o} {cells:Array Value},
 (parts.map (·.1)=sp.map (·.1))→bH al (parts.map (·.2)) (sp.map (·.2))→(∀I∈parts,I.2≠ .undef∧I.2.cells.length=es)→(∀e∈l,e.cells.length=es)→bH al (flat l) cells.toList→nD l parts=some c5 →
 ∃ks,Instr.fill (fun i=>some (i*es,es)) cells sp=some ks∧bH al (flat c5) ks.toList∧(∀e∈c5,e.cells.length=es)
 |[],[],l,c5,cells,_,_,_,jE,az,h=>by simp [nD]at h;subst h;exact⟨cells,rfl,az,jE⟩
 |[],_::_,_,_,_,h,_,_,_,_,_=>by simp at h
 |_::_,[],_,_,_,h,_,_,_,_,_=>by simp at h
 |(i, v)::rest,(fh,bt)::Sh,l,c5,cells,p,ad,bd,jE,az,h=>by
  simp at p;obtain⟨rfl,p⟩:=p;simp only [List.map_cons,bH]at ad;obtain⟨u,t,e,bg,ad⟩:=ad;simp at e;obtain⟨rfl,rfl⟩:=e;simp only [nD]at h;split at h
  ·rename_i ak;obtain⟨Sp,ll⟩:v≠ .undef∧v.cells.length=es:=bd (i,v) (by simp);have en:=bg.cells Sp;have eX:bt.cells.size=es:=by have:=en.length;rw [Array.length_toList]at this;omega
   have hs:cells.size=l.length*es:=by have:=az.length;rw [Array.length_toList,li jE]at this;omega
   have hle:i*es+es≤l.length*es:=by have:=Nat.mul_le_mul_right es (show i+1≤l.length by omega);rw [Nat.succ_mul]at this;exact this
   have key:=JQ p ad (fun I eo=>bd I (by simp [eo])) (l:=l.set i v) (cells:=bt.cells.zipIdx.foldl (fun bp (x:Value×Nat)=>bp.setIfInBounds (i*es+x.2) x.1) cells)
    (by
     intro e he;rcases List.mem_or_eq_of_mem_set he with h|h
     ·exact jE e h
     ·rw [h];exact ll)
    (by rw [JM,Sn jE ak ll];exact az.put en _) h
   obtain⟨ks,aM,aR,bu⟩:=key;refine⟨ks,?_,aR,bu⟩;simp only [Instr.fill];split
   ·rename_i dt;exfalso;simp only [ne_eq,Bool.or_eq_true,decide_eq_true_eq]at dt;omega
   ·exact aM
  ·cases h
theorem JR{l:List o}{hI:Bool}{es:Nat}(h:∀e∈l,e.fits hI es=true):∀c∈flat l,c.j4=true:=by intro c av;obtain⟨e,he,Sq⟩:=List.mem_flatMap.1 av;exact(so (h e he)).2.2 c Sq
theorem JS(t:TypeId)(c:Array Value)(w:World):(newRow t c).run P w=.ok ⟨w.heap.size,0,none⟩ (w.alloc (.cells c t)):=rfl
theorem aN.j5{al:Map}{bh b es len cap fE:Nat}{ex:Bool}{dm:Nat}(sk:len≤cap)(eb:cap≤dm)(bX:dm≤fE)(hex:ex=true→dm=cap) :
 aN (al.add bh 0 ⟨b,0,0,es,fE,ex,false⟩) (j5 bh es len cap) (.slice (some ⟨b,0,none⟩) len dm):=by
 simp only [cM.j5,aN];refine⟨_,_,rfl,sk,eb,.inl ⟨rfl,_,Map.zd _ _ _ _,rfl,.inr ⟨Nat.le_refl _,?_,by simpa using bX⟩,hex⟩⟩;simp [Place.at]
theorem Sr{D:dL}(b':D.dw P){be:Nat→Prop}{h aa:j}{br w:World}(r:c4 al be h w)(dE:Safe be br w)(dn:fC be br.heap.size){bh:Nat}(hid:∀v,al bh v=none)(aS:bh<h.next)
 {t:TypeId} {n:Nat} {parts:Array (Nat×Operand)} {bf:Operand→o} {dV:Operand→Value} (c0:∀x,aN al (bf x) (dV x)) {v:o}
 (ai:oC D t n (parts.toList.map fun I=>(I.1,bf I.2)) bh h=some (v,aa)) :
 pQ P al be br h bh v aa (Instr.buildSlice t n (parts.map fun(i,x)=>(i,dV x))) w:=by
 unfold oC at ai;split at ai
 ·rename_i d aC;obtain⟨iT,u,ia,hu,ap,an, -, -⟩:=b'.get aC;split at ai
  ·rename_i e dY;rw [ap]at dY;have:=ln dY;subst this;split at ai
   ·rename_i cT fU;obtain⟨d',oQ,gb, -, -,fg, -,v'⟩:=b'.get fU;split at ai
    ·rename_i z eT;obtain⟨gl,l7,nK⟩:=tX (P:=P) (al:=al) (t:=e) b' v' eT;split at ai
     ·rename_i av;obtain⟨l4,jp,sq,qW⟩:=av;split at ai
      ·rename_i l az;simp at ai;obtain⟨rfl,rfl⟩:=ai;obtain⟨f1,f2,f3⟩:=so sq;have ir:0<d'.size:=by omega
       have Ds:∀e∈List.replicate n z,e.fits cT.kind.isAgg cT.size=true:=by intro e he;rw [List.eq_of_mem_replicate he];exact sq
       have Ss:∀e∈l,e.fits cT.kind.isAgg cT.size=true:=by
        have key:∀(parts:List (Nat×o)) (m hU:List o),(∀I∈parts,I.2.fits cT.kind.isAgg cT.size=true)→(∀e∈m,e.fits cT.kind.isAgg cT.size=true)→nD m parts=some hU→ ∀e∈hU,e.fits cT.kind.isAgg cT.size=true:=by
         intro parts;induction parts with
         |nil=>intro m hU _ hm an;simp [nD]at an;subst an;exact hm
         |cons I r ih =>
          obtain⟨i,v⟩:=I;intro m hU ac hm an;simp only [nD]at an;split at an
          ·refine ih (m.set i v) hU (fun I eo=>ac I (by simp [eo])) ?_ an;intro e he;rcases List.mem_or_eq_of_mem_set he with h|h
           ·exact hm e h
           ·rw [h];exact ac (i,v) (by simp)
          ·cases an
        exact key _ _ _ (fun I ac=>List.all_eq_true.1 qW I ac) Ds az
       obtain⟨ks,aM,aR,bu⟩:=JQ (al:=al) (es:=d'.size) (Dm parts bf dV) (Dn c0 parts)
        (fun I ac=>by have:=so (List.all_eq_true.1 qW I ac);exact⟨this.2.1,by omega⟩)
        (by intro e he;rw [List.eq_of_mem_replicate he];omega)
        (JN nK f2 (by omega:z.cells.length=d'.size) ir n) az
       have l6:l.length=n:=by rw [JO az];simp
       have jL:fC be w.heap.size:=dn.le dE.size;have nJ:(flat l).length=n*d'.size:=by rw [li bu,l6]
       have hs:ks.size=n*d'.size:=by have:=aR.length;rw [Array.length_toList]at this;omega
       refine⟨.slice (some ⟨w.heap.size,0,none⟩) n n,w.alloc (.cells ks e),al.add bh 0 ⟨w.heap.size,0,0,cT.size,n,true,false⟩,?_,hq.add al _ (hid 0) _,aN.j5 (Nat.le_refl _) (Nat.le_refl _) (Nat.le_refl _) (fun _=>rfl),?_,dE.alloc jL _,rfl⟩
       ·have hle:¬n*d'.size>2^24:=by rw [←fg];omega
        simp only [Instr.buildSlice,Sem.run_bind,run_underlying hu,Result.andThen_ok,lo gb];rw [if_neg hle];by_cases mD:n*d'.size=0
        ·have St:n=0:=by rcases Nat.mul_eq_zero.1 mD with h|h<;>omega
         subst St;simp only [Nat.zero_mul,if_true,Sem.run_bind,Sem.run_pure,Result.andThen_ok]at aM⊢;have ca:(Array.range 0).map (fun i=>(#[]:Array Value)[i%(#[]:Array Value).size]!)=(Array.range 0).map (fun i=>gl.cells[i%gl.cells.size]!):=by simp
         rw [ca,aM];rfl
        ·rw [if_neg mD];simp only [Sem.run_bind,vW gb l7,Result.andThen_ok,Sem.run_pure,aM];rfl
       ·refine r.made hid aS jL jp (by intro e he;rw [bu e he,fg]) ?_ (by rw [hs,fg];exact Nat.le_refl _) (by omega) ?_ nofun
        ·rw [List.take_of_length_le (by rw [Array.length_toList,hs,l6,fg];exact Nat.le_refl _)];exact aR
        ·intro x ae;exact aR.one (JR Ss) x (List.mem_of_mem_take ae)
      ·cases ai
     ·cases ai
    ·cases ai
   ·cases ai
  ·cases ai
 ·cases ai
theorem Dt{k:IntKind}{n:Int}(h:0≤n)(ad:n<2^62)(ap:k=.i64):k.wrap n=n:=by
 subst ap;have e:(2:Int)^62=4611686018427387904:=by decide
 exact IntWalk.i64_in _ (by omega)
theorem Su{D:dL}(b':D.dw P){be:Nat→Prop}{h aa:j}{br w:World}(r:c4 al be h w)(dE:Safe be br w)(dn:fC be br.heap.size){bh:Nat}(hid:∀v,al bh v=none)(aS:bh<h.next)
 {t:TypeId} {x y v:o} {bV hT:Value} (ae:aN al x bV) (bY:aN al y hT) (ai:vN D t x y bh h=some (v,aa)) :
 pQ P al be br h bh v aa (Instr.makeSlice t bV hT) w:=by
 unfold vN at ai;split at ai
 ·rename_i d aM l aR c aC;simp only [aN]at ae bY;subst ae bY;obtain⟨iT,u,ia,hu,ap,an, -, -⟩:=b'.get aC;split at ai
  ·rename_i e dY;rw [ap]at dY;have:=ln dY;subst this;split at ai
   ·rename_i cT fU;obtain⟨d',oQ,gb, -, -,fg,Du,v'⟩:=b'.get fU;split at ai
    ·rename_i z eT;obtain⟨gl,l7,nK⟩:=tX (P:=P) (al:=al) (t:=e) b' v' eT;split at ai
     ·rename_i av;obtain⟨l4,jp,sq,qW,Sv,JT⟩:=av;simp at ai;obtain⟨rfl,rfl⟩:=ai;obtain⟨f1,f2,f3⟩:=so JT;have ir:0<d'.size:=by omega
      have jL:fC be w.heap.size:=dn.le dE.size;have wa:IntKind.i64.wrap l=l:=Dt l4 (by omega) rfl;have Sw:IntKind.i64.wrap c=c:=Dt (by omega) sq rfl;have JU:=JN nK f2 (by omega:z.cells.length=d'.size) ir c.toNat;have Ds:∀e∈List.replicate c.toNat z,e.fits cT.kind.isAgg cT.size=true:=by intro e he;rw [List.eq_of_mem_replicate he];exact JT
      have hr:∀e∈List.replicate c.toNat z,e.cells.length=d'.size:=by intro e he;rw [List.eq_of_mem_replicate he];omega
      refine⟨.slice (some ⟨w.heap.size,0,none⟩) l.toNat c.toNat,w.alloc (.cells ((Array.range (c.toNat*d'.size)).map (fun i=>gl.cells[i%gl.cells.size]!)) e),
       al.add bh 0 ⟨w.heap.size,0,0,cT.size,c.toNat,true,false⟩,?_,hq.add al _ (hid 0) _,aN.j5 (by omega) (Nat.le_refl _) (Nat.le_refl _) (fun _=>rfl),?_,dE.alloc jL _,rfl⟩
      ·have eb:¬c<0:=by omega
       have l6:¬l<0:=by omega
       have tY:¬l>c:=by omega
       have tZ:¬((d'.bytes:Int)*c>2^48):=by rw [←Du];omega
       simp only [Instr.makeSlice,Sem.run_bind,run_underlying hu,Result.andThen_ok,asInt,asIntOf,Sem.run_pure,RM gb,wa,Sw];rw [if_neg (by simp only [Bool.or_eq_true,decide_eq_true_eq];omega)];simp only [Sem.run_bind,Sem.run_pure,run_askRoom,Result.andThen_ok,lo gb];by_cases mD:c.toNat*d'.size=0
       ·have ca:c.toNat*d'.size=0:=mD;rw [if_pos mD];have bn:Array.range 0= #[]:=rfl;simp only [Sem.run_bind,Sem.run_pure,Result.andThen_ok,ca,JS,bn];simp
       ·rw [if_neg mD];simp only [Sem.run_bind,vW gb l7,Result.andThen_ok,Sem.run_pure,JS]
      ·refine r.made hid aS jL Sv (by intro e he;rw [hr e he,fg]) ?_ (by rw [fg];simp) (by simp) ?_ nofun
       ·rw [List.take_of_length_le (by simp [fg])];exact JU
       ·intro x ae;exact JU.one (JR Ds) x (List.mem_of_mem_take ae)
     ·cases ai
    ·cases ai
   ·cases ai
  ·cases ai
 ·cases ai
theorem Sx{D:dL}(b':D.dw P){t:TypeId}{x v:o}{xs:Array Value}{eN:Array TypeId}(aq:TypeId)(ae:bH al [x] xs.toList)(bX:eN[0]? =some t)(h:CQ D t x=some v)(w:World) :
 ∃bt,(Builtin.len_ eN aq xs).run P w=.ok bt w∧aN al v bt:=by
 simp only [bH]at ae;obtain⟨bV,l,e,ae,az⟩:=ae;have r5:xs[0]? =some bV:=by rw [←Array.getElem?_toList,e];rfl
 unfold CQ at h;split at h
 ·rename_i d a n c aC;obtain⟨iT,u,ia,hu,ap, -⟩:=b'.get aC;split at h
  ·rename_i e dY;rw [ap]at dY;have:=ln dY;subst this;simp at h;subst h;refine⟨.int .i64 n,?_,by simp only [aN]⟩
   have:∃cG fS,bV=.slice cG n fS:=by
    cases a with
    |none=>simp only [aN]at ae;obtain⟨rfl,rfl,rfl⟩:=ae;exact⟨_,_,rfl⟩
    |some a=>simp only [aN]at ae;obtain⟨_,_,rfl,_⟩:=ae;exact⟨_,_,rfl⟩
   obtain⟨cG,fS,rfl⟩:=this;simp [Builtin.len_,bX,r5,run_underlying hu,goInt]
  ·cases h
 ·rename_i d s aC;obtain⟨iT,u,ia,hu,ap, -⟩:=b'.get aC;split at h
  ·rename_i dY;rw [ap]at dY;have:=qP dY;subst this;simp at h;subst h;simp only [aN]at ae;obtain⟨bL,rfl,rfl⟩:=ae;refine⟨.int .i64 bL.size,?_,by simp only [aN];rfl⟩;simp [Builtin.len_,bX,r5,run_underlying hu,goInt]
  ·cases h
 ·rename_i d aC _ _;obtain⟨iT,u,ia,hu,ap, -⟩:=b'.get aC;split at h
  ·rename_i n e dY;rw [ap]at dY;have:=tS dY;subst this;simp at h;subst h;refine⟨.int .i64 n,?_,by simp only [aN]⟩;simp [Builtin.len_,bX,r5,run_underlying hu,goInt]
  ·cases h
 ·cases h
end
end
end Go.cM
namespace Go.cM
noncomputable section
open Go.RowKit
section
variable {P:Program}{al:Map}
theorem c4.Dv{be:Nat→Prop}{h:j}{w:World}(r:c4 al be h w){id J:Nat}{I:Place}(ac:al id J=some I){b:R}(au:h.get id=some b){idx len:Nat}
 (eZ:I.a1≤idx) (az:idx+len≤b.cO J) (hle:idx+len≤b.bi.length) :
 ∃news,bH al (flat ((b.bi.drop idx).take len)) news∧w.rangeAt I.cq (I.off+(idx-I.a1)*I.es) news∧(∀x∈news,x.oneCell'=true)∧(∀e∈(b.bi.drop idx).take len,e.cells.length=I.es)∧news.length=len*I.es:=by
 obtain⟨p,c,ad,bd,bS,bI,dx,cP,cy⟩:=r.dD _ _ _ ac;rw [au]at ad;simp at ad;subst ad
 have e0:∀(i:Nat)(e:o),((b.bi.drop idx).take len)[i]? =some e→i<len∧b.bi[idx+i]? =some e:=by
  intro i e he;rw [List.getElem?_take]at he;split at he
  ·rw [List.getElem?_drop]at he;exact⟨by assumption,he⟩
  ·simp at he
 have hr:∀e∈(b.bi.drop idx).take len,e.cells.length=I.es:=by intro e he;obtain⟨i,ak⟩:=List.getElem?_of_mem he;obtain⟨g1,g2⟩:=e0 i e ak;exact(cy.cont (idx+i) e (by omega) (by omega) g2).1
 obtain⟨news,a6,aO,ft⟩:=zr (al:=al) (w:=w) (b:=I.cq) (ab:=I.off+(idx-I.a1)*I.es) (l:=flat ((b.bi.drop idx).take len)) (fun k bV ap=>by
  have lm:=(List.getElem?_eq_some_iff.1 ap).1;obtain⟨i,C,e,rfl,he,aV⟩:=zg hr k lm;obtain⟨g1,g2⟩:=e0 i e he;have So:e.cells.length=I.es:=hr e (List.mem_of_getElem? he);obtain⟨dG,ee,f'⟩:=cy.cont (idx+i) e (by omega) (by omega) g2;have qV:e.cells[C]? =some (e.cells[C]'(by omega)):=List.getElem?_eq_getElem _;rw [oL hr he qV]at ap;simp at ap;subst ap;obtain⟨x,kt,t'⟩:=f' C _ qV;refine⟨x,?_,t'⟩;have bs:(idx+i-I.a1)*I.es=(idx-I.a1)*I.es+i*I.es:=by rw [←Nat.add_mul];congr 1;omega
  rw [show I.off+(idx-I.a1)*I.es+(i*I.es+C)=I.off+(idx+i-I.a1)*I.es+C by omega]
  exact kt)
 exact⟨news,a6,aO,ft,hr,by rw [a6.length,li hr];congr 1;simp;omega⟩
theorem zv{be : Nat→Prop}{h:j}{w:World}(r:c4 al be h w){es:Nat}{x:o}{bV:Value}(ae:aN al x bV){l:List o}(he:e2 es x h=some l)(cw:0<es){ib:TypeId}
 (ap:(∃dT,P.underlying ib=some (.slice dT))∨P.underlying ib=some .string) :
 ∃news,Src P es ib bV l.length news w∧bH al (flat l) news∧(∀e∈l,e.cells.length=es):=by
 unfold e2 at he;split at he
 ·rename_i c;simp at he;subst he;simp only [aN]at ae;obtain⟨rfl,_,_⟩:=ae;refine⟨[],⟨ap,fun _=>rfl,run_firstCells_none w es 0 0 0,run_firstCells_none w.drew es 0 0 0,by simp,by simp⟩,by simp [flat,bH],by simp⟩
 ·rename_i a len cap;simp only [aN]at ae;obtain⟨fN,dm,rfl,ek,ck,iF⟩:=ae
  have ua:len=0→l=[]→ ∃news,Src P es ib (.slice (some fN) len dm) l.length news w∧bH al (flat l) news∧(∀e∈l,e.cells.length=es):=by rintro rfl rfl;exact⟨[],⟨ap,fun _=>rfl,run_firstCells_some w es 0 fN 0 dm [] (by simp) (by simp),run_firstCells_some w.drew es 0 fN 0 dm [] (by simp) (by simp),by simp,by simp⟩,by simp [flat,bH],by simp⟩
  split at he
  ·rename_i a8;obtain⟨I,ac,jK,j6,hex⟩:=iF.plain a8;split at he
   ·rename_i pP;split at he
    ·rename_i b au;split at he
     ·rename_i bm;simp at he;subst he;exact ua bm rfl
     ·rename_i bm;split at he
      ·rename_i az;simp at he;subst he;rcases j6 with eT|⟨eZ,rfl,oM⟩
       ·omega
       ·obtain⟨_,c,ad,_⟩:=r.dD _ _ _ ac;have hle:a.idx+len≤b.bi.length:=az.2;obtain⟨news,a6,aO,ft,ht,ig⟩:=r.Dv ac au eZ az.1 hle;have hlen:((b.bi.drop a.idx).take len).length=len:=by simp;omega
        have l8:I.es=es:=by omega
        refine⟨news,?_,a6,by rw [←l8];exact ht⟩;rw [hlen]
        have av:∀C v,news[C]? =some v→w.cell? ((I.at a.idx 0).add C)=some v:=by intro C v bg;rw [Place.qT,Nat.zero_add];exact aO C v bg
        exact⟨ap,fun _=>rfl,run_firstCells_some w es len _ len dm news (by rw [ig,l8]) av,run_firstCells_some w.drew es len _ len dm news (by rw [ig,l8]) (by simpa using av),by rw [ig,l8],ft⟩
      ·cases he
    ·split at he
     ·rename_i bm;simp at he;subst he;exact ua bm rfl
     ·cases he
   ·cases he
  ·rename_i a8;split at he
   ·rename_i bm;simp at he;subst he;exact ua bm rfl
   ·rename_i bm;split at he
    ·rename_i p;subst p;split at he
     ·rename_i b au;split at he
      ·rename_i bp en;split at he
       ·rename_i av;simp only [Option.some.injEq]at he;subst he;rcases iF with ⟨Sy,_⟩|⟨f,qS,I,ac,jK,eZ,rfl⟩
        ·exact absurd Sy a8
        ·simp only at ac jK eZ;obtain⟨g1,iS,g2,g3,g4,g5,g6,g7,g8⟩:=r.dD _ _ _ ac;rw [au]at g2;simp at g2;subst g2;have Sz:a.bR-1=f:=by omega
         rw [Sz]at av⊢;unfold R.elem? at en;split at en
         ·rename_i lk;obtain⟨dH,dy,gy⟩:=g8.cont a.idx _ eZ lk en;have sr:((bp.drop f).take len).length=len:=by simp;omega
          obtain⟨ci,v1,v2,v3⟩:=zr (al:=al) (w:=w) (b:=I.cq) (ab:=I.off+(a.idx-I.a1)*I.es+f) (l:=(bp.drop f).take len) (fun C bV ae=>by
           rw [List.getElem?_take]at ae;split at ae
           ·rw [List.getElem?_drop]at ae;obtain⟨x,pR,ss⟩:=gy (f+C) bV ae;refine⟨x,?_,ss⟩;rw [←pR];unfold Place.at;congr 2;omega
           ·cases ae)
          have ll:ci.length=len:=by have:=v1.length;omega
          have nJ:flat ((bp.drop f).take len)=(bp.drop f).take len:=by
           have an:=av.2;generalize (bp.drop f).take len=l at an;induction l with
           |nil=>rfl
           |cons x r ih =>
            simp only [List.all_cons,Bool.and_eq_true]at an;have ih:=ih an.2;simp only [flat,List.flatMap_cons]at ih⊢;rw [Dj an.1,ih];rfl
          refine⟨ci,?_,by rw [nJ];exact v1,fun e he=>by rw [Dj (List.all_eq_true.1 av.2 e he)];rfl⟩;rw [sr]
          have nG:∀C v,ci[C]? =some v→w.cell? ((I.at a.idx f).add C)=some v:=by intro C v bg;rw [Place.qT];have:=v2 C v bg;rw [←this];unfold Place.at;congr 2;omega
          exact⟨ap,fun _=>rfl,run_firstCells_some w 1 len _ len dm ci (by omega) nG,run_firstCells_some w.drew 1 len _ len dm ci (by omega) (by simpa using nG),by omega,v3⟩
         ·cases en
       ·cases he
      ·cases he
     ·cases he
    ·cases he
 ·rename_i s;split at he
  ·rename_i p;subst p;simp at he;subst he;simp only [aN]at ae;obtain⟨bL,rfl,rfl⟩:=ae;have hlen:(bL.data.toList.map fun b=>o.int .u8 b.toNat).length=bL.size:=by rw [List.length_map,Array.length_toList];rfl
   refine⟨byteCells bL,?_,?_,?_⟩
   ·rw [hlen]
    exact⟨ap,fun _=>rfl,firstCells_string bL w,firstCells_string bL w.drew,by rw [byteCells_length,Nat.mul_one],fun u hu=>by
     obtain⟨_,_,rfl⟩:=List.mem_map.1 hu
     rfl⟩
   ·have:flat (bL.data.toList.map fun b=>o.int .u8 b.toNat)=bL.data.toList.map fun b=>o.int .u8 b.toNat:=by
     generalize bL.data.toList=l;induction l with
     |nil=>rfl
     |cons a r ih=>simp only [List.map_cons,flat,List.flatMap_cons,o.cells]at ih⊢; rw [ih];rfl
    rw [this];exact bH.map _ _ _ fun b _=>by simp only [aN]
   ·intro e he;obtain⟨b,_,rfl⟩:=List.mem_map.1 he;rfl
  ·cases he
 ·cases he
theorem JV(n:Nat):∀(r c:Nat),c≤n+n/4+512→Builtin.growBy n r c≤n+n/4+512
 |0,c,h=>h
 |r+1,c,h=>by
  simp only [Builtin.growBy];split
  ·exact h
  ·exact JV n r _ (by omega)
theorem nextslicecap_le{jj cap:Nat}(h:cap<jj):Builtin.nextslicecap jj cap≤jj+jj/4+512:=by
 unfold Builtin.nextslicecap;split
 ·omega
 ·split
  ·omega
  ·exact JV _ _ _ (by omega)
theorem SA(lq:Array Value)(n:Nat):(Builtin.zeroCells lq n).size=n*lq.size:=by simp [Builtin.zeroCells]
theorem Alike.wb(w:World):Alike w w.drew:=Alike.drew w _
theorem Dw{ci:List Value}{lq:Array Value}{n c es:Nat}(az:ci.length=n*es)(eT:lq.size=es)(aS:n≤c) :
 (ci.toArray++Builtin.zeroCells lq (c-n)).size=c*es∧(ci.toArray++Builtin.zeroCells lq (c-n)).toList.take (n*es)=ci:=by
 constructor
 ·simp only [Array.size_append,List.size_toArray,SA,az,eT];rw [←Nat.add_mul];congr 1;omega
 ·simp only [Array.toList_append];rw [List.take_left' (by simpa using az)]
theorem JW(l m:List o):flat (l++m)=flat l++flat m:=by simp [flat]
theorem SB{D : dL}(b':D.dw P){be:Nat→Prop}{h aa:j}{br w:World}(r:c4 al be h w)(dE:Safe be br w)(dn:fC be br.heap.size){bh:Nat}(hid:∀v,al bh v=none)(aS:bh<h.next)
 {t ib:TypeId} (aq:TypeId) {s x v:o} {bL bV:Value} (an:aN al s bL) (ae:aN al x bV)
 (ap:(∃dT,P.underlying ib=some (.slice dT))∨P.underlying ib=some .string) (ai:hp D t s x bh h=some (v,aa)) :
 pQ P al be br h bh v aa (Builtin.append_ #[t,ib] aq #[bL,bV]) w:=by
 unfold hp at ai;split at ai
 ·rename_i d base len cap aC;obtain⟨iT,u,ia,hu,st,_, -, -⟩:=b'.get aC;split at ai
  ·rename_i e dY;rw [st]at dY;have:=ln dY;subst this;split at ai
   ·rename_i cT fU;obtain⟨d',oQ,gb, -, -,fg,Du,v'⟩:=b'.get fU;split at ai
    ·rename_i new ff;simp only at ai;split at ai
     ·rename_i av;obtain⟨l4,jp,sq,qW⟩:=av;obtain⟨news,src,pS,fu⟩:=zv (P:=P) (ib:=ib) r ae ff l4 ap;rw [fg]at src;have jL:fC be w.heap.size:=dn.le dE.size
      have SC:∃gl,d'.zero=some gl∧gl.cells.size=d'.size:=by
       unfold qH.r' at qW;cases wc:cT.zero with
       |none=>simp [wc]at qW
       |some z =>
        rw [wc]at qW;obtain⟨gl,l7,nK⟩:=tX (P:=P) (al:=al) (t:=e) b' v' wc;obtain⟨f1,f2,f3⟩:=so qW;have:=(nK.cells f2).length;rw [Array.length_toList]at this;exact⟨gl,l7,by omega⟩
      obtain⟨gl,l7,Dx⟩:=SC;have afJ:(2:Nat)^62=4611686018427387904:=by decide
      have afK:(2:Nat)^48=281474976710656:=by decide
      have grow:∀(zw:Option Addr)(dm:Nat)(olds:List Value),(Builtin.firstCells d'.size len (.slice zw len dm)).run P w.drew=.ok olds.toArray w.drew→dm<len+new.length →
       (Builtin.append_ #[t,ib] aq #[.slice zw len dm,bV]).run P w =
        .ok (.slice (some ⟨w.heap.size,0,none⟩) (len+new.length) (grownCap w (len+new.length) dm e))
         (w.drew.alloc (.cells ((olds++news).toArray++Builtin.zeroCells gl.cells (grownCap w (len+new.length) dm e- (len+new.length))) e)):=by
       intro zw dm olds hold cQ;refine run_append_grow_src w t ib aq e d' gl hu gb l7 zw len dm olds hold bV new.length news src cQ (by omega) ?_;have p:=nextslicecap_le cQ;have ad:=Nat.mul_le_mul_right d'.bytes p;rw [Du]at jp;omega
      have Dy:Safe be br w.drew:=dE.drew;split at ai
      ·
        simp only [aN]at an;obtain⟨rfl,rfl,rfl⟩:=an;split at ai
        ·rename_i bm;simp only [Option.some.injEq,Prod.mk.injEq]at ai;obtain⟨rfl,rfl⟩:=ai;have mD:new=[]:=List.length_eq_zero_iff.1 (by omega);subst mD;have vH:news=[]:=by have:=pS.length;simp [flat]at this;exact this
         subst vH;refine⟨.slice none 0 0,w,al,?_,hq.refl _ _ _,by simp [aN],r,dE,rfl⟩;exact run_append_nothing w t ib aq e d' hu gb none 0 0 (Nat.le_refl _) bV src
        ·rename_i bm;split at ai
         ·simp only [Option.some.injEq,Prod.mk.injEq]at ai;obtain⟨rfl,rfl⟩:=ai;have ag:=grow none 0 [] (run_firstCells_none _ _ _ _ _) (by omega);have gr:=grownCap_ge w (0+new.length) 0 e;have ll:news.length=new.length*d'.size:=by rw [src.newsLen]
          obtain⟨g1,g2⟩:=Dw (ci:=news) (lq:=gl.cells) (n:=0+new.length) (c:=grownCap w (0+new.length) 0 e) (es:=d'.size) (by rw [ll,Nat.zero_add]) Dx gr
          refine⟨_,_,al.add bh 0 ⟨w.heap.size,0,0,cT.size,grownCap w (0+new.length) 0 e,false,false⟩,ag,hq.add al _ (hid 0) _,
           aN.j5 (ex:=false) (Nat.le_refl _) gr (Nat.le_refl _) (by simp),?_,Dy.alloc (by simpa using jL) _,rfl⟩
          refine(r.alike (Alike.wb w)).made hid aS (by simpa using jL) l4 fu ?_ ?_ (by omega) ?_ (fun q h=>by cases h;exact⟨rfl,fun h=>absurd rfl h⟩)
          ·simp only [List.nil_append];rw [show new.length*cT.size=(0+new.length)*d'.size by rw [fg,Nat.zero_add],g2];exact pS
          ·simp only [List.nil_append];rw [g1,fg];exact Nat.le_refl _
          ·simp only [List.nil_append];rw [show new.length*cT.size=(0+new.length)*d'.size by rw [fg,Nat.zero_add],g2];exact src.one
         ·cases ai
      ·rename_i a;split at ai
       ·rename_i SD;obtain⟨pP,a8⟩:=SD;split at ai
        ·rename_i b au;simp only [aN]at an;obtain⟨fN,dm,rfl,ek,ck,iF⟩:=an;obtain⟨I,ac,jK,j6,hex⟩:=iF.plain a8;obtain⟨g1,iS,g2,g3,g4,g5,g6,g7,g8⟩:=r.dD _ _ _ ac;rw [au]at g2;simp at g2;subst g2;have l8:I.es=d'.size:=by omega
         split at ai
         ·rename_i oN;split at ai
          ·rename_i bm;subst bm;simp only [Option.some.injEq,Prod.mk.injEq]at ai;obtain⟨rfl,rfl⟩:=ai;have vH:news=[]:=by have:=pS.length;simp [flat]at this;exact this
           subst vH;refine⟨.slice (some fN) len dm,w,al,?_,hq.refl _ _ _,?_,r,dE,rfl⟩
           ·exact run_append_nothing w t ib aq e d' hu gb (some fN) len dm (by omega) bV src
           ·simp only [aN,List.length_nil,Nat.add_zero];exact⟨fN,dm,rfl,ek,ck,.inl ⟨a8,I,ac,jK,j6,hex⟩⟩
          ·rename_i b1;split at ai
           ·rename_i eb;obtain⟨eY,oR,lk⟩:=eb;simp only [Option.some.injEq,Prod.mk.injEq]at ai;obtain⟨rfl,rfl⟩:=ai;have Dz:0<new.length:=List.length_pos_iff.2 b1;rcases j6 with eT|⟨eZ,rfl,oM⟩
            ·omega
            ·rw [oR]at ac;obtain⟨aM,aR⟩:=r.RF ac au eY (idx:=a.idx+len) (l:=new) (by omega) (by omega) b1 (by rw [l8,←fg];exact fu) pS src.one
             have jq:I.off+(a.idx+len-I.a1)*I.es=I.off+(a.idx-I.a1)*I.es+0+len*d'.size:=by
              have:a.idx+len-I.a1=(a.idx-I.a1)+len:=by omega
              rw [this,Nat.add_mul,←l8];omega
             rw [jq]at aM aR;have kr:=run_append_room_src (P:=P) w t ib aq e d' hu gb I.cq (I.off+(a.idx-I.a1)*I.es+0) len dm bV new.length news src (by omega) (fun C aV=>(aR C aV).1) (fun C aV=>(aR C aV).2);refine⟨_,_,al,kr,hq.refl _ _ _,?_,aM,?_,rfl⟩
             ·simp only [aN];exact⟨_,dm,rfl,oN,ck,.inl ⟨a8,I,by rw [oR];exact ac,jK,.inr ⟨eZ,rfl,oM⟩,hex⟩⟩
             ·exact vU _ (g8.base (g6 eY)) _ _ dE
           ·cases ai
         ·rename_i oN;split at ai
          ·rename_i DA;split at ai
           ·rename_i old hold;simp only [Option.some.injEq,Prod.mk.injEq]at ai;obtain⟨rfl,rfl⟩:=ai;have oT:dm=cap:=hex (by rw [g5,DA])
            have ez:aN al (.slice (some a) len cap) (.slice (some fN) len dm):=by simp only [aN];exact⟨fN,dm,rfl,ek,ck,.inl ⟨a8,I,ac,jK,j6,hex⟩⟩
            obtain⟨olds,nM,zx,zy⟩:=zv (P:=P) (ib:=t) r ez hold l4 (.inl ⟨e,hu⟩)
            have su:old.length=len:=by have bn:=nM.len w;simp [Builtin.lenOf]at bn;exact bn.symm
            rw [su,fg]at nM;have ag:=grow (some fN) dm olds nM.cellsD (by omega);have gr:=grownCap_ge w (len+new.length) dm e;have ll:(olds++news).length=(len+new.length)*d'.size:=by rw [List.length_append,src.newsLen,nM.newsLen,Nat.add_mul]
            obtain⟨dH,dy⟩:=Dw (ci:=olds++news) (lq:=gl.cells) (n:=len+new.length) (c:=grownCap w (len+new.length) dm e) (es:=d'.size) ll Dx gr;have sr:(old++new).length*cT.size=(len+new.length)*d'.size:=by rw [List.length_append,su,fg]
            refine⟨_,_,al.add bh 0 ⟨w.heap.size,0,0,cT.size,grownCap w (len+new.length) dm e,false,false⟩,ag,hq.add al _ (hid 0) _,
             aN.j5 (ex:=false) (Nat.le_refl _) gr (Nat.le_refl _) (by simp),?_,Dy.alloc (by simpa using jL) _,rfl⟩
            refine(r.alike (Alike.wb w)).made hid aS (by simpa using jL) l4 (fun e he=> ?_) ?_ ?_ (by rw [List.length_append,su];exact gr) ?_ (fun q h=>by cases h;exact⟨rfl,fun h=>absurd rfl h⟩)
            ·rcases List.mem_append.1 he with he|he
             ·exact zy e he
             ·exact fu e he
            ·rw [sr,dy,JW];exact zx.append pS
            ·rw [dH,fg];exact Nat.le_refl _
            ·rw [sr,dy];intro y bY;rcases List.mem_append.1 bY with bY|bY
             ·exact nM.one y bY
             ·exact src.one y bY
           ·cases ai
          ·rename_i DA;split at ai
           ·rename_i eb;obtain⟨eY,oR,we,ub,kR⟩:=eb;simp only [Option.some.injEq,Prod.mk.injEq]at ai;obtain⟨rfl,rfl⟩:=ai;have JX:b.exact=false:=by simpa using DA
            rw [oR]at ac;by_cases zh:len+new.length≤dm
            ·
              rcases j6 with eT|⟨eZ,rfl,oM⟩
              ·exfalso;have mD:new.length=0:=by omega
               omega
              ·obtain⟨aM,aR⟩:=r.RH ac au eY (new:=new) (by omega) (by omega) (by rw [l8,←fg];exact fu) pS src.one
               have jq:I.off+(b.bi.length-I.a1)*I.es=I.off+(a.idx-I.a1)*I.es+0+len*d'.size:=by
                have:b.bi.length-I.a1=(a.idx-I.a1)+len:=by omega
                rw [this,Nat.add_mul,←l8];omega
               rw [jq]at aM aR;have kr:=run_append_room_src (P:=P) w t ib aq e d' hu gb I.cq (I.off+(a.idx-I.a1)*I.es+0) len dm bV new.length news src zh (fun C aV=>(aR C aV).1) (fun C aV=>(aR C aV).2)
               have jF:al a.id (b.J+1)=none:=by
                cases aD:al a.id (b.J+1)with
                |none=>rfl
                |some q=>obtain⟨_,iS,ad,bd,_⟩:=r.dD _ _ _ aD;rw [au]at ad;simp at ad;subst ad;omega
               refine⟨_,_,al.add a.id (b.J+1) I,kr,⟨al.sf I jF,fun i ak b1 l9 u=> ?_,al.CY I (g6 eY)⟩,?_,aM,?_,rfl⟩
               ·have:i≠a.id:=by rintro rfl;rw [l9]at ac;cases ac
                simp [Map.add,this,l9 u]
               ·simp only [aN];refine⟨_,dm,rfl,Nat.le_refl _,zh,.inl ⟨a8,I,by rw [oR];exact Map.zd _ _ _ _,jK,.inr ⟨eZ,rfl,oM⟩,fun h=> ?_⟩⟩;rw [g5,JX]at h;cases h
               ·exact vU _ (g8.base (g6 eY)) _ _ dE
            ·
              have ez:aN al (.slice (some a) len cap) (.slice (some fN) len dm):=by simp only [aN];exact⟨fN,dm,rfl,ek,ck,.inl ⟨a8,I,by rw [oR];exact ac,jK,j6,hex⟩⟩
              have hold:e2 cT.size (.slice (some a) len cap) h=some ((b.bi.drop a.idx).take len):=by
               simp only [e2,a8,pP,if_true,au];split
               ·rename_i bm;simp [bm]
               ·rw [if_pos];rw [oR];simp [R.cO];omega
              obtain⟨olds,nM,zx,zy⟩:=zv (P:=P) (ib:=t) r ez hold l4 (.inl ⟨e,hu⟩);have SE:(b.bi.drop a.idx).take len=b.bi.drop a.idx:=List.take_of_length_le (by simp;omega);rw [SE]at zx zy nM;have su:(b.bi.drop a.idx).length=len:=by simp;omega
              rw [su,fg]at nM;have ag:=grow (some fN) dm olds nM.cellsD (by omega);have gr:=grownCap_ge w (len+new.length) dm e;have ll:(olds++news).length=(len+new.length)*d'.size:=by rw [List.length_append,src.newsLen,nM.newsLen,Nat.add_mul]
              obtain⟨dH,dy⟩:=Dw (ci:=olds++news) (lq:=gl.cells) (n:=len+new.length) (c:=grownCap w (len+new.length) dm e) (es:=d'.size) ll Dx gr;have zz:b.es=d'.size:=by omega
              have sr:(b.bi.drop a.idx++new).length*b.es=(len+new.length)*d'.size:=by rw [List.length_append,su,zz]
              have jF:al a.id (b.J+1)=none:=by
               cases aD:al a.id (b.J+1)with
               |none=>rfl
               |some q=>obtain⟨_,iS,ad,bd,_⟩:=r.dD _ _ _ aD;rw [au]at ad;simp at ad;subst ad;omega
              refine⟨_,_,al.add a.id (b.J+1) ⟨w.heap.size,0,a.idx,b.es,grownCap w (len+new.length) dm e,false,false⟩,ag,⟨al.sf _ jF,fun i ak b1 l9 u=> ?_,al.CY _ rfl⟩,?_,?_,Dy.alloc (by simpa using jL) _,rfl⟩
              ·have:i≠a.id:=by rintro rfl;rw [l9]at ac;cases ac
               simp [Map.add,this,l9 u]
              ·simp only [aN];refine⟨_,_,rfl,Nat.le_refl _,gr,.inl ⟨a8,_,by rw [oR];exact Map.zd _ _ _ _,by rw [←g4,jK],.inr ⟨Nat.le_refl _,by simp [Place.at],by simp⟩,by simp⟩⟩
              ·refine(r.alike (Alike.wb w)).RG ac au eY JX (by simpa using jL) (by omega) (fun e he=>by rw [zy e he];omega) (fun e he=>by rw [fu e he];omega) ?_ (by rw [dH,zz];exact Nat.le_refl _) (by rw [List.length_append,su];exact gr) ?_ (fun q h=>by rcases kR with kR|kR<;>rw [kR]at h<;>cases h;exact⟨rfl,fun h=>absurd rfl h⟩)
               ·rw [sr,dy,JW];exact zx.append pS
               ·rw [sr,dy];intro y bY;rcases List.mem_append.1 bY with bY|bY
                ·exact nM.one y bY
                ·exact src.one y bY
           ·cases ai
        ·cases ai
       ·cases ai
     ·cases ai
    ·cases ai
   ·cases ai
  ·cases ai
 ·cases ai
end
end
end Go.cM
namespace Go.cM
noncomputable section
open Go.RowKit
section
variable {P:Program}{al:Map}
theorem JY:∀{l:List o}{s:List UInt8}{news:List Value},bytesOf l=some s→bH al (flat l) news→ ∃bM:List Int,news=bM.map (Value.int .u8)∧s=bM.map (fun n=>UInt8.ofNat n.toNat)
 |[],s,news,h,k=>by simp only [bytesOf,Option.some.injEq]at h;subst h;simp only [flat,List.flatMap_nil,bH]at k;subst k;exact⟨[],rfl,rfl⟩
 |a ::r,s,news,h,k=>by
  unfold bytesOf at h;split at h
  ·rename_i bm;cases bm
  ·rename_i n fL e;simp only [List.cons.injEq]at e;obtain⟨rfl,rfl⟩:=e;cases au:bytesOf r with
   |none=>rw [au]at h;cases h
   |some q =>
    rw [au]at h;simp only [Option.map_some,Option.some.injEq]at h;subst h;simp only [flat,List.flatMap_cons,o.cells,List.cons_append,List.nil_append,bH]at k;obtain⟨v,t,rfl,aM,aR⟩:=k;simp only [aN]at aM;subst aM;obtain⟨bM,bn,bs⟩:=JY au aR;exact⟨n::bM,by rw [bn];rfl,by rw [bs];rfl⟩
  ·cases h
theorem JZ:∀{l:List o}{s:List UInt8}{news:List Value},bytesOf l=some s→sa l=true→bH al (flat l) news→news=s.map fun x=>Value.int .u8 x.toNat
 |[],s,news,h,au,k=>by simp only [bytesOf,Option.some.injEq]at h;subst h;simp only [flat,List.flatMap_nil,bH]at k;subst k;rfl
 |a ::r,s,news,h,au,k=>by
  unfold bytesOf at h;split at h
  ·rename_i bm;cases bm
  ·rename_i n fL e;simp only [List.cons.injEq]at e;obtain⟨rfl,rfl⟩:=e;cases aD:bytesOf r with
   |none=>rw [aD]at h;cases h
   |some q =>
    rw [aD]at h;simp only [Option.map_some,Option.some.injEq]at h;subst h;simp only [sa,Bool.and_eq_true,decide_eq_true_eq]at au;simp only [flat,List.flatMap_cons,o.cells,List.cons_append,List.nil_append,bH]at k;obtain⟨v,t,rfl,aM,aR⟩:=k;simp only [aN]at aM;subst aM;rw [JZ aD au.2 aR,List.map_cons]
    have:((UInt8.ofNat n.toNat).toNat:Int)=n:=by rw [UInt8.toNat_ofNat',Nat.mod_eq_of_lt (by omega)];omega
    rw [this]
  ·cases h
theorem zA(w:World)(a:Addr){n:Nat}(aS:n≠0)(k:Nat):(w.freeze a n).heap[k]? =if a.block=k then(w.heap[k]?).map fun ab=>match ab with
 |.cells c elem (a1,ak)=> .cells c elem (if a1 == ak then(a.off,a.off+n)else(min a1 a.off,max ak (a.off+n)))
 |ab=>ab else w.heap[k]? :=by
 unfold World.freeze;rw [if_neg aS];simp only [Array.getElem?_modify];rfl
theorem zB(w:World)(a x:Addr){n:Nat}(aS:n≠0):(w.freeze a n).cell? x=w.cell? x:=by
 unfold World.cell?;rw [zA w a aS];by_cases h:a.block=x.block
 ·rw [if_pos h];cases bW:w.heap[x.block]? with
  |none=>rfl
  |some ab =>
   cases ab;case cells c t f=>obtain⟨a1,ak⟩:=f;rfl
   all_goals rfl
 ·rw [if_neg h]
theorem SF{w:World}{a:Addr}{m:Nat}(hm:m≠0){k:Nat}{t:TypeId}{n a1 ak:Nat}(h:fF w k=some (t,n,a1,ak)):∃a1 ak,fF (w.freeze a m) k=some (t,n,a1,ak):=by
 unfold fF at h⊢;rw [zA w a hm];by_cases e:a.block=k
 ·rw [if_pos e];cases bW:w.heap[k]? with
  |none=>rw [bW]at h;cases h
  |some ab =>
   rw [bW]at h;cases ab
   case cells c fj f =>
    obtain⟨ic,ga⟩:=f;simp only [Option.some.injEq,Prod.mk.injEq]at h;obtain⟨rfl,rfl,rfl,rfl⟩:=h;simp only [Option.map_some];by_cases az:ic=ga
    ·exact⟨a.off,a.off+m,by simp [az]⟩
    ·exact⟨min ic a.off,max ga (a.off+m),by simp [az]⟩
   all_goals cases h
 ·rw [if_neg e];exact⟨a1,ak,h⟩
theorem DB(w:World)(a:Addr)(n:Nat):(w.freeze a n).heap.size=w.heap.size:=by unfold World.freeze;split<;>simp
theorem c4.SG{be:Nat→Prop}{h:j}{w:World}(r:c4 al be h w){id v:Nat}{I:Place}{b:R}(ac:al id v=some I)(au:h.get id=some b)(eY:b.ro=false){a:Addr}(aT:a.block=I.cq){n:Nat}(aS:n≠0) :
 c4 al be (h.set id {b with ro:=true}) (w.freeze a n) where
 dD i u q aD:=by
  obtain⟨p,c,ad,bd,bS,bI,dx,cP,cy⟩:=r.dD i u q aD;by_cases e:id=i
  ·subst e;rw [au]at ad;simp at ad;subst ad;refine⟨p,_,j.hJ _ _ _,bd,bS,bI,nofun,cP,⟨by rw [DB];exact cy.cq,cy.base,fun ab ai=>by rw [zB w a _ aS];exact cy.cells ab ai,nofun,nofun,fun t9 fA=> ?_,fun i e g1 g2 g3=> ?_⟩⟩
   ·obtain⟨DC,SH,i9,DD,DE,DF⟩:=cy.jn t9 fA;obtain⟨oU,i8,wg⟩:=SF (a:=a) aS DD;exact⟨DC,oU,i8,wg,DE,DF⟩
   ·obtain⟨dH,dy,gy⟩:=cy.cont i e g1 g2 g3
    exact⟨dH,dy,fun C bV ae=>by
     obtain⟨x,pR,ss⟩:=gy C bV ae
     exact⟨x,by rw [zB w a _ aS];exact pR,ss⟩⟩
  ·obtain⟨_,iS,g2,_,_,_,g6,_,_⟩:=r.dD id v I ac;rw [au]at g2;simp at g2;subst g2
   have b1:I.cq≠q.cq:=fun k=>by have:=(r.apart id v I i u q ac aD k e).1;rw [g6 eY]at this;cases this
   have wh:(w.freeze a n).heap[q.cq]? =w.heap[q.cq]? :=by rw [zA w a aS,if_neg (by rw [aT];exact b1)]
   refine⟨p,c,by rw [j.fl _ _ e];exact ad,bd,bS,bI,dx,cP,⟨by rw [DB];exact cy.cq,cy.base,fun ab ai=>by rw [zB w a _ aS];exact cy.cells ab ai,fun bb ab ai=> ?_,fun bb=>(cy.mark bb).of_eq (se wh),fun t9 fA=>by rw [se wh];exact cy.jn t9 fA,fun i e g1 g2 g3=> ?_⟩⟩
   ·have:=cy.free bb ab ai;unfold World.frozen? at this⊢;rw [wh];exact this
   ·obtain⟨dH,dy,gy⟩:=cy.cont i e g1 g2 g3
    exact⟨dH,dy,fun C bV ae=>by
     obtain⟨x,pR,ss⟩:=gy C bV ae
     exact⟨x,by rw [zB w a _ aS];exact pR,ss⟩⟩
 apart:=r.apart
 same:=r.same
theorem Safe.SI{S:Nat→Prop}{a w:World}(h:Safe S a w){I:Addr}(ac:¬S I.block){n:Nat}(aS:n≠0):Safe S a (w.freeze I n) :=
 h.trans ⟨by unfold World.freeze;rw [if_neg aS],by unfold World.freeze;rw [if_neg aS],by unfold World.freeze;rw [if_neg aS],by rw [DB];exact Nat.le_refl _,fun k ap=>by
  have b1:¬I.block=k:=fun e=>ac (by rw [e];exact ap)
  rw [zA w I aS,if_neg b1]⟩
theorem SJ{w:World}{k:Nat}{t:TypeId}{n a1 ak:Nat}(h:fF w k=some (t,n,a1,ak)):w.shape? k=some (t,n):=by
 unfold fF at h;unfold World.shape?;cases bW:w.heap[k]? with
 |none=>rw [bW]at h;cases h
 |some ab =>
  rw [bW]at h;cases ab
  case cells c fj f =>
   obtain⟨ic,ga⟩:=f;simp only [Option.some.injEq,Prod.mk.injEq]at h;obtain⟨rfl,rfl,rfl,rfl⟩:=h;rfl
  all_goals cases h
theorem SK{w:World}{k:Nat}{t:TypeId}{n a1 ak ab:Nat}(h:fF w k=some (t,n,a1,ak))(av:(w.cell? ⟨k,ab,none⟩).isSome=true):ab<n:=by
 unfold fF at h;unfold World.cell? at av;cases bW:w.heap[k]? with
 |none=>rw [bW]at h;cases h
 |some DG =>
  simp only at av;rw [bW]at h av;cases DG
  case cells c fj f =>
   obtain⟨ic,ga⟩:=f;simp only [Option.some.injEq,Prod.mk.injEq]at h;obtain⟨rfl,rfl,rfl,rfl⟩:=h;simp only [Option.isSome_none,Bool.false_eq_true,if_false]at av;rcases Nat.lt_or_ge ab c.size with h|h
   ·exact h
   ·rw [Array.getElem?_eq_none h]at av;cases av
  all_goals cases h
theorem SL{eN:Array TypeId}{aq:TypeId}{x v:o}{bV:Value}(ae:aN al x bV)(h:CT x=some v)(w:World) :
 ∃bt,(Builtin.unsafeSliceData_ eN aq #[bV]).run P w=.ok bt w∧aN al v bt:=by
 unfold CT at h;split at h
 ·simp only [Option.some.injEq]at h;subst h;simp only [aN]at ae;obtain⟨rfl,_,_⟩:=ae;exact⟨.pointer none,rfl,by simp only [aN]⟩
 ·rename_i a n c;split at h
  ·rename_i av;simp only [Option.some.injEq]at h;subst h;simp only [aN]at ae;obtain⟨fN,dm,rfl,ek,ck,iF⟩:=ae;obtain⟨I,ac,jK,j6,hex⟩:=iF.plain av.1;rcases j6 with eT|⟨eZ,rfl,oM⟩
   ·omega
   ·have oT:dm≠0:=by omega
    refine⟨.pointer (some (I.at a.idx 0)),?_,?_⟩
    ·have sv:Builtin.unsafeSliceData_ eN aq #[.slice (some (I.at a.idx 0)) n dm] =
      (do
       if dm≠0 then pure (.pointer (some (I.at a.idx 0)))
       else if(←viewAt (I.at a.idx 0).block).isSome then pure (.pointer (some (I.at a.idx 0)))
       else pure (.pointer (some ⟨←newObj (.view (I.at a.idx 0) (←elemOf aq)),0,none⟩))):=rfl
     rw [sv,if_pos oT];rfl
    ·simp only [aN];exact⟨_,rfl,I,ac,jK,eZ,by rw [av.1]⟩
  ·cases h
 ·cases h
theorem SM{D:dL}(b':D.dw P){be:Nat→Prop}{h aa:j}{br w:World}(r:c4 al be h w)(dE:Safe be br w){eN:Array TypeId}{t aq:TypeId}(bX:eN[0]? =some t){I:Option bG}{n:Int}{bV:Value}(ae:aN al (.ptr I) bV){v:o}
 (ai:CR D t I n h=some (v,aa)) :
 ∃bt bC,(Builtin.unsafeString_ eN aq #[bV,.int .i64 n]).run P w=.ok bt bC∧aN al v bt∧c4 al be aa bC∧Safe be br bC∧aa.next=h.next:=by
 have sv:∀(eN:Array TypeId) q,Builtin.unsafeString_ eN aq #[.pointer q,.int .i64 n]=(do
  let n ←asInt (.int .i64 n)
  let some CS:=eN[0]? | stuck "unsafe.String: no argument types"
  if n<0 then runtimePanic (.error "unsafe.String: len out of range")
  if n>IntKind.i64.max then unsupported (.unsafePointer "String: a length above the largest int")
  match q with
  |none =>
   if n=0 then pure (.string .empty)
   else runtimePanic (.error "unsafe.String: ptr is nil and len is not zero")
  |some a =>
   if n=0 then pure (.string .empty)
   else if ←variablesAt a (←elemOf CS) n.toNat then do
    let s ←loadBytes a .empty n.toNat
    freeze a n.toNat
    pure (.string s)
   else unsupported (.unsafePointer "String: not so many bytes at ptr")):=fun _ _=>rfl
 have J0:∀q,(Builtin.unsafeString_ eN aq #[.pointer q,.int .i64 n]).run P w=(Builtin.unsafeString_ #[t,t] aq #[.pointer q,.int .i64 n]).run P w:=fun q=>by
  have e:eN[0]? =(#[t,t]:Array TypeId)[0]? :=by rw [bX];rfl
  rw [sv,sv,e]
 unfold CR at ai;split at ai
 ·rename_i bm;subst bm;simp only [Option.some.injEq,Prod.mk.injEq]at ai;obtain⟨rfl,rfl⟩:=ai
  obtain⟨q,rfl⟩:∃q,bV=.pointer q:=by
   cases I with
   |none=>simp only [aN]at ae;exact⟨_,ae⟩
   |some a=>simp only [aN]at ae;obtain⟨x,rfl,_⟩:=ae;exact⟨_,rfl⟩
  refine⟨_,w,by rw [J0];exact Go.Lib.run_unsafeString_none w _ _ _ q,?_,r,dE,rfl⟩;simp only [aN];exact⟨_,rfl,rfl⟩
 ·rename_i bm;split at ai
  ·rename_i d a aC;obtain⟨DH,DI,DJ,qX,qY, -⟩:=b'.get aC;split at ai
   ·rename_i e b ap au;rw [qY]at ap;have:=zi ap;subst this;split at ai
    ·rename_i hc pM;obtain⟨zl,qR,oO,pN,lp,cw, -⟩:=b'.get pM;split at ai
     ·rename_i av;obtain⟨dG,ee,f',jM,pT,lr,pU,oV,DK,J1,J2⟩:=av;cases DL:bytesOf (b.bi.take n.toNat)with
      |none=>rw [DL]at ai;cases ai
      |some s =>
       rw [DL]at ai;simp only [Option.map_some,Option.some.injEq,Prod.mk.injEq]at ai;obtain⟨rfl,rfl⟩:=ai;simp only [aN]at ae;obtain⟨x,rfl,pl,ac,l8,eZ,rfl⟩:=ae;obtain⟨g1,iS,g2,g3,g4,g5,g6,g7,g8⟩:=r.dD _ _ _ ac;rw [au]at g2;simp at g2;subst g2;obtain⟨m,a1,ak,aM,aR,bu⟩:=g8.jn _ pU;obtain⟨news,a6,aO,ft,ht,ig⟩:=r.Dv ac au (idx:=0) (len:=n.toNat) (by omega) (by omega) (by omega);rw [List.drop_zero]at a6;have J3:=JZ DL J2 a6;have SN:pl.es=1:=by omega
       have sw:s.length=n.toNat:=by have:=ig;rw [J3,List.length_map,SN,Nat.mul_one]at this;exact this
       have SO:pl.at a.idx a.bR=⟨pl.cq,0,none⟩:=by simp [Place.at,f',jM,bu]
       have nG:∀C x,s[C]? =some x→w.cell? ((⟨pl.cq,0,none⟩:Addr).add C)=some (.int .u8 x.toNat):=by intro C x aV;have aS:=aO C (.int .u8 x.toNat) (by rw [J3,List.getElem?_map,aV];rfl);rw [Addr.add_mid,Nat.zero_add];simpa [bu]using aS
       have DM:s≠[]:=by rintro rfl;simp at sw;omega
       have hle:s.length≤m:=by
        have cQ:s.length-1<s.length:=by have:=List.length_pos_iff.2 DM;omega
        have J4:=nG (s.length-1) _ (List.getElem?_eq_getElem cQ);rw [Addr.add_mid,Nat.zero_add]at J4;have:=SK aM (ab:=s.length-1) (by rw [J4];rfl);omega
       have pO:P.cellsOf e=1:=by unfold Program.cellsOf;rw [oO];simp;omega
       have kr:=Go.Lib.run_unsafeString_row (P:=P) w t t aq e qX pO pl.cq m (SJ aM) s DM hle (by omega) nG;have l9:(n:Int)=s.length:=by rw [sw];omega
       have nB:s.length≠0:=by simp only [ne_eq,List.length_eq_zero_iff];exact DM
       have dH:c4 al be (h.set a.id {b with ro:=true}) (w.freeze ⟨pl.cq,0,none⟩ s.length):=r.SG (a:=⟨pl.cq,0,none⟩) ac au lr rfl nB;have dy:Safe be br (w.freeze ⟨pl.cq,0,none⟩ s.length):=Safe.SI dE (I:=⟨pl.cq,0,none⟩) (g8.base (g6 lr)) nB;refine⟨.string ⟨s.toArray⟩,w.freeze ⟨pl.cq,0,none⟩ s.length,?_,?_,dH,dy,rfl⟩
       ·rw [J0,SO,l9];exact kr
       ·simp only [aN];exact⟨_,rfl,by simp⟩
     ·cases ai
    ·cases ai
   ·cases ai
  ·cases ai
end
end
end Go.cM
