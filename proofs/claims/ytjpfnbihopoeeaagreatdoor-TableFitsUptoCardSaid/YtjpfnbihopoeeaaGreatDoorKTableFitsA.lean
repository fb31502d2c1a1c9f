/-
  Parts of the proof of TableFits.
-/
import Derived.Calls
import Derived.Orders
import Derived.Lib.Bytealg
import Derived.Below
import Derived.Deep.MidRow
import Derived.WalkKit
import Derived.ChangeKeysEq
import Derived.WalkLawsBesides
import Derived.Deep.AppendSrc
import Derived.Deep.Upon
import Derived.Lib.UnsafeStr
set_option linter.unusedSectionVars false
set_option linter.unusedVariables false
set_option linter.unusedSimpArgs false
namespace Go.ba
inductive aK(α:Type) where
 |nil
 |node (v:Option α) (l r:aK α)
section
variable {α:Type}
noncomputable def aK.get(t:aK α):Nat→Option α :=
 aK.rec (motive:=fun _=>Nat→Option α) (fun _=>none)
  (fun v _ _ Ka nc k=>cond (Nat.beq k 0) v (cond (Nat.beq (k%2) 1) (Ka (k/2)) (nc (k/2-1)))) t
noncomputable def aK.gP(f:Nat):Nat→α→aK α :=
 Nat.rec (motive:=fun _=>Nat→α→aK α) (fun _ v=> .node (some v) .nil .nil)
  (fun _ ih k v=>cond (Nat.beq k 0) (.node (some v) .nil .nil) (cond (Nat.beq (k%2) 1) (.node none (ih (k/2) v) .nil) (.node none .nil (ih (k/2-1) v)))) f
noncomputable def aK.set(t:aK α):Nat→α→aK α :=
 aK.rec (motive:=fun _=>Nat→α→aK α) (fun k v=>aK.gP k k v)
  (fun o l r eS zu k v=>cond (Nat.beq k 0) (.node (some v) l r) (cond (Nat.beq (k%2) 1) (.node o (eS (k/2) v) r) (.node o l (zu (k/2-1) v)))) t
theorem beq_true{a b:Nat}(h:a=b):Nat.beq a b=true:=by subst h;exact Nat.beq_refl a
theorem beq_false{a b:Nat}(h:a≠b):Nat.beq a b=false:=by
 cases ao:Nat.beq a b with
 |false=>rfl
 |true=>exact absurd (Nat.eq_of_beq_eq_true ao) h
theorem aK.nd(k:Nat):(aK.nil:aK α).get k=none:=rfl
theorem aK.kk(v:Option α)(l r:aK α):(aK.node v l r).get 0=v:=rfl
theorem aK.jP(v:Option α)(l r:aK α)(m:Nat):(aK.node v l r).get (2*m+1)=l.get m:=by show cond (Nat.beq (2*m+1) 0) v (cond (Nat.beq ((2*m+1)%2) 1) (l.get ((2*m+1)/2)) (r.get ((2*m+1)/2-1)))=_;rw [beq_false (by omega),beq_true (by omega),show(2*m+1)/2=m by omega];rfl
theorem aK.jQ(v:Option α)(l r:aK α)(m:Nat):(aK.node v l r).get (2*m+2)=r.get m:=by show cond (Nat.beq (2*m+2) 0) v (cond (Nat.beq ((2*m+2)%2) 1) (l.get ((2*m+2)/2)) (r.get ((2*m+2)/2-1)))=_;rw [beq_false (by omega),beq_false (by omega),show(2*m+2)/2-1=m by omega];rfl
theorem aK.qg(f:Nat)(v:α):aK.gP f 0 v=.node (some v) .nil .nil:=by cases f<;>rfl
theorem aK.wx(f m:Nat)(v:α):aK.gP (f+1) (2*m+1) v=.node none (aK.gP f m v) .nil:=by show cond (Nat.beq (2*m+1) 0) (aK.node (some v) .nil .nil) (cond (Nat.beq ((2*m+1)%2) 1) (aK.node none (aK.gP f ((2*m+1)/2) v) .nil) (aK.node none .nil (aK.gP f ((2*m+1)/2-1) v)))=_;rw [beq_false (by omega),beq_true (by omega),show(2*m+1)/2=m by omega];rfl
theorem aK.wy(f m:Nat)(v:α):aK.gP (f+1) (2*m+2) v=.node none .nil (aK.gP f m v):=by show cond (Nat.beq (2*m+2) 0) (aK.node (some v) .nil .nil) (cond (Nat.beq ((2*m+2)%2) 1) (aK.node none (aK.gP f ((2*m+2)/2) v) .nil) (aK.node none .nil (aK.gP f ((2*m+2)/2-1) v)))=_;rw [beq_false (by omega),beq_false (by omega),show(2*m+2)/2-1=m by omega];rfl
theorem aK.set_nil(k:Nat)(v:α):(aK.nil:aK α).set k v=aK.gP k k v:=rfl
theorem aK.k0(o:Option α)(l r:aK α)(v:α):(aK.node o l r).set 0 v=.node (some v) l r:=rfl
theorem aK.ib(o:Option α)(l r:aK α)(m:Nat)(v:α):(aK.node o l r).set (2*m+1) v=.node o (l.set m v) r:=by show cond (Nat.beq (2*m+1) 0) (aK.node (some v) l r) (cond (Nat.beq ((2*m+1)%2) 1) (aK.node o (l.set ((2*m+1)/2) v) r) (aK.node o l (r.set ((2*m+1)/2-1) v)))=_;rw [beq_false (by omega),beq_true (by omega),show(2*m+1)/2=m by omega];rfl
theorem aK.ie(o:Option α)(l r:aK α)(m:Nat)(v:α):(aK.node o l r).set (2*m+2) v=.node o l (r.set m v):=by show cond (Nat.beq (2*m+2) 0) (aK.node (some v) l r) (cond (Nat.beq ((2*m+2)%2) 1) (aK.node o (l.set ((2*m+2)/2) v) r) (aK.node o l (r.set ((2*m+2)/2-1) v)))=_;rw [beq_false (by omega),beq_false (by omega),show(2*m+2)/2-1=m by omega];rfl
theorem three(k:Nat):k=0∨(∃m,k=2*m+1)∨ ∃m,k=2*m+2:=by
 rcases Nat.eq_zero_or_pos k with h|h
 ·exact .inl h
 ·rcases Nat.mod_two_eq_zero_or_one k with ak|ak
  ·exact .inr (.inr ⟨k/2-1,by omega⟩)
  ·exact .inr (.inl ⟨k/2,by omega⟩)
theorem aK.D'(v:α):∀(k f g:Nat),k≤f→k≤g→aK.gP f k v=aK.gP g k v:=by
 intro k;induction k using Nat.strongRecOn with
 |_ k ih =>
  intro f g aS an;rcases three k with rfl|⟨m,rfl⟩|⟨m,rfl⟩
  ·rw [aK.qg,aK.qg]
  ·obtain⟨f,rfl⟩:∃bG,f=bG+1:=⟨f-1,by omega⟩
   obtain⟨g,rfl⟩:∃l4,g=l4+1:=⟨g-1,by omega⟩
   rw [aK.wx,aK.wx,ih m (by omega) f g (by omega) (by omega)]
  ·obtain⟨f,rfl⟩:∃bG,f=bG+1:=⟨f-1,by omega⟩
   obtain⟨g,rfl⟩:∃l4,g=l4+1:=⟨g-1,by omega⟩
   rw [aK.wy,aK.wy,ih m (by omega) f g (by omega) (by omega)]
theorem aK.Kb(v:α):∀(k f j:Nat),k≤f→(aK.gP f k v).get j=if k=j then some v else none:=by
 intro k;induction k using Nat.strongRecOn with
 |_ k ih =>
  intro f j aS;rcases three k with rfl|⟨m,rfl⟩|⟨m,rfl⟩
  ·rw [aK.qg];rcases three j with rfl|⟨i,rfl⟩|⟨i,rfl⟩
   ·rw [aK.kk,if_pos rfl]
   ·rw [aK.jP,aK.nd,if_neg (by omega)]
   ·rw [aK.jQ,aK.nd,if_neg (by omega)]
  ·obtain⟨f,rfl⟩:∃bG,f=bG+1:=⟨f-1,by omega⟩
   rw [aK.wx];rcases three j with rfl|⟨i,rfl⟩|⟨i,rfl⟩
   ·rw [aK.kk,if_neg (by omega)]
   ·rw [aK.jP,ih m (by omega) f i (by omega)];by_cases h:m=i
    ·rw [if_pos h,if_pos (by omega)]
    ·rw [if_neg h,if_neg (by omega)]
   ·rw [aK.jQ,aK.nd,if_neg (by omega)]
  ·obtain⟨f,rfl⟩:∃bG,f=bG+1:=⟨f-1,by omega⟩
   rw [aK.wy];rcases three j with rfl|⟨i,rfl⟩|⟨i,rfl⟩
   ·rw [aK.kk,if_neg (by omega)]
   ·rw [aK.jP,aK.nd,if_neg (by omega)]
   ·rw [aK.jQ,ih m (by omega) f i (by omega)];by_cases h:m=i
    ·rw [if_pos h,if_pos (by omega)]
    ·rw [if_neg h,if_neg (by omega)]
theorem aK.lA(v:α):∀(t:aK α)(k j:Nat),(t.set k v).get j=if k=j then some v else t.get j
 |.nil,k,j=>by rw [aK.set_nil,aK.Kb v k k j (Nat.le_refl _),aK.nd]
 |.node o l r,k,j=>by
  rcases three k with rfl|⟨m,rfl⟩|⟨m,rfl⟩
  ·rw [aK.k0];rcases three j with rfl|⟨i,rfl⟩|⟨i,rfl⟩
   ·rw [aK.kk,if_pos rfl]
   ·rw [aK.jP,aK.jP,if_neg (by omega)]
   ·rw [aK.jQ,aK.jQ,if_neg (by omega)]
  ·rw [aK.ib];rcases three j with rfl|⟨i,rfl⟩|⟨i,rfl⟩
   ·rw [aK.kk,aK.kk,if_neg (by omega)]
   ·rw [aK.jP,aK.jP,aK.lA v l m i];by_cases h:m=i
    ·rw [if_pos h,if_pos (by omega)]
    ·rw [if_neg h,if_neg (by omega)]
   ·rw [aK.jQ,aK.jQ,if_neg (by omega)]
  ·rw [aK.ie];rcases three j with rfl|⟨i,rfl⟩|⟨i,rfl⟩
   ·rw [aK.kk,aK.kk,if_neg (by omega)]
   ·rw [aK.jP,aK.jP,if_neg (by omega)]
   ·rw [aK.jQ,aK.jQ,aK.lA v r m i];by_cases h:m=i
    ·rw [if_pos h,if_pos (by omega)]
    ·rw [if_neg h,if_neg (by omega)]
theorem aK.Kc(x y:α):∀(a b:Nat),a≠b→(aK.gP a a x).set b y=(aK.gP b b y).set a x:=by
 intro a;induction a using Nat.strongRecOn with
 |_ a ih =>
  intro b k3
  have rJ:∀(m:Nat)(v:α),aK.gP (2*m+1) (2*m+1) v=.node none (aK.gP m m v) .nil:=fun m v=>by rw [aK.wx,aK.D' v m (2*m) m (by omega) (Nat.le_refl _)]
  have even:∀(m:Nat)(v:α),aK.gP (2*m+2) (2*m+2) v=.node none .nil (aK.gP m m v):=fun m v=>by rw [aK.wy,aK.D' v m (2*m+1) m (by omega) (Nat.le_refl _)]
  rcases three a with rfl|⟨m,rfl⟩|⟨m,rfl⟩<;>rcases three b with rfl|⟨i,rfl⟩|⟨i,rfl⟩
  ·exact absurd rfl k3
  ·rw [aK.qg,rJ,aK.ib,aK.k0,aK.set_nil]
  ·rw [aK.qg,even,aK.ie,aK.k0,aK.set_nil]
  ·rw [aK.qg,rJ,aK.ib,aK.k0,aK.set_nil]
  ·rw [rJ,rJ,aK.ib,aK.ib,ih m (by omega) i (by omega)]
  ·rw [rJ,even,aK.ib,aK.ie,aK.set_nil,aK.set_nil]
  ·rw [aK.qg,even,aK.ie,aK.k0,aK.set_nil]
  ·rw [rJ,even,aK.ib,aK.ie,aK.set_nil,aK.set_nil]
  ·rw [even,even,aK.ie,aK.ie,ih m (by omega) i (by omega)]
theorem aK.set_comm(x y:α):∀(t:aK α)(a b:Nat),a≠b→(t.set a x).set b y=(t.set b y).set a x
 |.nil,a,b,h=>by rw [aK.set_nil,aK.set_nil,aK.Kc x y a b h]
 |.node o l r,a,b,h=>by
  rcases three a with rfl|⟨m,rfl⟩|⟨m,rfl⟩<;>rcases three b with rfl|⟨i,rfl⟩|⟨i,rfl⟩
  ·exact absurd rfl h
  ·rw [aK.k0,aK.ib,aK.ib,aK.k0]
  ·rw [aK.k0,aK.ie,aK.ie,aK.k0]
  ·rw [aK.k0,aK.ib,aK.ib,aK.k0]
  ·rw [aK.ib,aK.ib,aK.ib,aK.ib,aK.set_comm x y l m i (by omega)]
  ·rw [aK.ib,aK.ie,aK.ie,aK.ib]
  ·rw [aK.ie,aK.k0,aK.k0,aK.ie]
  ·rw [aK.ie,aK.ib,aK.ib,aK.ie]
  ·rw [aK.ie,aK.ie,aK.ie,aK.ie,aK.set_comm x y r m i (by omega)]
def zv(f:α→α→Bool):Option α→Option α→Bool
 |none,none=>true
 |some a,some b=>f a b
 |_,_=>false
def aK.o2(cj:Nat):aK α→Nat→Nat→Bool
 |.nil,_,_=>true
 |.node v l r,p,s=>(!decide (p<cj) || v.isNone)&&l.o2 cj (p+s) (2*s)&&r.o2 cj (p+2*s) (2*s)
def aK.l5(f:α→α→Bool)(cj:Nat):aK α→aK α→Nat→Nat→Bool
 |.nil,u,p,s=>u.o2 cj p s
 |.node v l r,.nil,p,s=>(aK.node v l r).o2 cj p s
 |.node v l r,.node a8 ds eZ,p,s=>(!decide (p<cj) || zv f v a8)&&aK.l5 f cj l ds (p+s) (2*s)&&aK.l5 f cj r eZ (p+2*s) (2*s)
theorem wz(p s m:Nat):p+s* (2*m+1)=p+s+2*s*m:=by rw [Nat.mul_add,Nat.mul_one,←Nat.mul_assoc,Nat.mul_comm s 2];omega
theorem wA(p s m:Nat):p+s* (2*m+2)=p+2*s+2*s*m:=by rw [Nat.mul_add,←Nat.mul_assoc,Nat.mul_comm s 2];omega
theorem aK.wB(cj:Nat):∀(t:aK α)(p s:Nat),t.o2 cj p s=true→ ∀k,p+s*k<cj→t.get k=none
 |.nil,p,s,_,k,_=>rfl
 |.node v l r,p,s,h,k,az=>by
  simp only [aK.o2,Bool.and_eq_true,Bool.or_eq_true,Bool.not_eq_true',decide_eq_false_iff_not]at h;obtain⟨⟨U,ak⟩,aP⟩:=h;rcases three k with rfl|⟨m,rfl⟩|⟨m,rfl⟩
  ·rw [aK.kk];rcases U with U|U
   ·simp at az;omega
   ·simpa using U
  ·rw [aK.jP];rw [wz]at az;exact aK.wB cj l _ _ ak m az
  ·rw [aK.jQ];rw [wA]at az;exact aK.wB cj r _ _ aP m az
theorem aK.wC(cj:Nat):∀(t:aK α)(p s:Nat),(∀k,p+s*k<cj→t.get k=none)→t.o2 cj p s=true
 |.nil,p,s,_=>rfl
 |.node v l r,p,s,h=>by
  simp only [aK.o2,Bool.and_eq_true,Bool.or_eq_true,Bool.not_eq_true',decide_eq_false_iff_not];refine⟨⟨?_,?_⟩,?_⟩
  ·by_cases ag:p<cj
   ·right;have:=h 0 (by simpa using ag);rw [aK.kk]at this;simp [this]
   ·exact .inl ag
  ·exact aK.wC cj l _ _ fun m hm=>by have:=h (2*m+1) (by rw [wz];exact hm);rwa [aK.jP]at this
  ·exact aK.wC cj r _ _ fun m hm=>by have:=h (2*m+2) (by rw [wA];exact hm);rwa [aK.jQ]at this
theorem aK.zw{f:α→α→Bool}(aS:∀a b,f a b=true→a=b)(cj:Nat):∀(t u:aK α)(p s:Nat),aK.l5 f cj t u p s=true→ ∀k,p+s*k<cj→t.get k=u.get k
 |.nil,u,p,s,h,k,az=>by rw [aK.nd,aK.wB cj u p s (by simpa [aK.l5]using h) k az]
 |.node v l r,.nil,p,s,h,k,az=>by rw [aK.nd,aK.wB cj _ p s (by simpa [aK.l5]using h) k az]
 |.node v l r,.node a8 ds eZ,p,s,h,k,az=>by
  simp only [aK.l5,Bool.and_eq_true,Bool.or_eq_true,Bool.not_eq_true',decide_eq_false_iff_not]at h;obtain⟨⟨U,ak⟩,aP⟩:=h;rcases three k with rfl|⟨m,rfl⟩|⟨m,rfl⟩
  ·rw [aK.kk,aK.kk];rcases U with U|U
   ·simp at az;omega
   ·cases v<;>cases a8<;>simp [zv]at U<;>first|rfl|(rw [aS _ _ U])
  ·rw [aK.jP,aK.jP];rw [wz]at az;exact aK.zw aS cj l ds _ _ ak m az
  ·rw [aK.jQ,aK.jQ];rw [wA]at az;exact aK.zw aS cj r eZ _ _ aP m az
theorem aK.zx{f:α→α→Bool}(aS:∀a,f a a=true)(cj:Nat):∀(t u:aK α)(p s:Nat),(∀k,p+s*k<cj→t.get k=u.get k)→aK.l5 f cj t u p s=true
 |.nil,u,p,s,h=>by simp only [aK.l5];exact aK.wC cj u p s fun k az=>by rw [←h k az,aK.nd]
 |.node v l r,.nil,p,s,h=>by simp only [aK.l5];exact aK.wC cj _ p s fun k az=>by rw [h k az,aK.nd]
 |.node v l r,.node a8 ds eZ,p,s,h=>by
  simp only [aK.l5,Bool.and_eq_true,Bool.or_eq_true,Bool.not_eq_true',decide_eq_false_iff_not];refine⟨⟨?_,?_⟩,?_⟩
  ·by_cases ag:p<cj
   ·right;have:=h 0 (by simpa using ag);rw [aK.kk,aK.kk]at this;subst this;cases v<;>simp [zv,aS]
   ·exact .inl ag
  ·exact aK.zx aS cj l ds _ _ fun m hm=>by have:=h (2*m+1) (by rw [wz];exact hm);rwa [aK.jP,aK.jP]at this
  ·exact aK.zx aS cj r eZ _ _ fun m hm=>by have:=h (2*m+2) (by rw [wA];exact hm);rwa [aK.jQ,aK.jQ]at this
end
end Go.ba
namespace Go.ba
noncomputable section
structure aO where
 id:Nat
 ver:Nat
 idx:Nat
 fld:Nat
 es:Nat
 deriving DecidableEq
inductive J where
 |undef
 |bool (b:Bool)
 |int (k:IntKind) (n:Int)
 |str (s:List UInt8)
 |ptr (a:Option aO)
 |slice (a:Option aO) (len cap:Nat)
 |func (fn:Fn) (first captured:List J)
 |nilFunc
 |iface (t:TypeId) (v:J)
 |nilIface
 |agg (cs:List J)
 |tuple (vs:List J)
 deriving Inhabited
abbrev fq:J:= .tuple []
def J.cells:J→List J
 |.agg cs=>cs
 |v=> [v]
def ig:Value→J
 |.bool b=> .bool b
 |.int k n=> .int k n
 |.string s=> .str s.data.toList
 |.pointer none=> .ptr none
 |.slice none 0 0=> .slice none 0 0
 |.nilFunc=> .nilFunc
 |.nilIface=> .nilIface
 |_=> .undef
def o3:Value→J
 |.agg cs=> .agg (cs.toList.map ig)
 |.iface t v=> .iface t (ig v)
 |v=>ig v
inductive gQ where
 |int (k:IntKind)|bool|string|ptr (e:TypeId)|slice (e:TypeId)|array (n:Nat) (e:TypeId)
 |struct (fs:List (Nat×TypeId))|func|iface (own:Bool)|other
 deriving Inhabited
structure o4 where
 kind:gQ
 size:Nat
 bytes:Nat
 zero:Option J
 deriving Inhabited
def gQ.isAgg:gQ→Bool
 |.struct _|.array _ _=>true
 |_=>false
def fY:TypeDesc→gQ
 |.int k=> .int k
 |.bool=> .bool
 |.string=> .string
 |.pointer e=> .ptr e
 |.slice e=> .slice e
 |.array n e=> .array n e
 |.struct fs=> .struct (fs.toList.map fun f=>(f.offset,f.type))
 |.func _ _ _=> .func
 |.interface wD=> .iface (!wD.isEmpty)
 |_=> .other
def rK(P:Program)(t:TypeId):Option o4 :=
 match P.info? t,P.underlying t with
 |some i,some d=>some {kind:=fY d,size:=i.size,bytes:=i.bytes,zero:=i.zero.map o3}
 |_,_=>none
abbrev c5:=TypeId→Option o4
def c5.dG(D:c5)(P:Program):Prop:= ∀t d,D t=some d→rK P t=some d
structure aJ where
 a':List J
 es:Nat
 exact:Bool
 ro:Bool
 ver:Nat
 eD:Nat
 hU:Nat
 ty:Option (TypeId×Nat)
 deriving Inhabited
structure I where
 next:Nat
 aj:aK aJ
def I.get(h:I)(id:Nat):Option aJ:=h.aj.get id
def I.set(h:I)(id:Nat)(b:aJ):I:= {h with aj:=h.aj.set id b}
def aJ.cj(b:aJ)(ver:Nat):Nat :=
 if ver=b.ver then b.a'.length else if b.eD≤ver∧ver<b.ver then b.hU else 0
def aJ.elem?(b:aJ)(ver idx:Nat):Option J :=
 if idx<b.cj ver then b.a'[idx]? else none
def aJ.made(a':List J)(es:Nat)(exact:Bool)(ty:Option (TypeId×Nat):=none):aJ :=
 {a',es,exact,ro:=false,ver:=0,eD:=0,hU:=0,ty}
def aJ.grow(b:aJ)(new:List J):aJ :=
 {b with a':=b.a'++new,ver:=b.ver+1,hU:=if b.eD=b.ver then b.a'.length else min b.hU b.a'.length}
def hf(l:List J)(i:Nat):List J→List J
 |[]=>l
 |v::vs=>hf (l.set i v) (i+1) vs
def aJ.put(b:aJ)(idx:Nat)(vs:List J):aJ :=
 {b with a':=hf b.a' idx vs,eD:=b.ver}
def n1(isA:Bool)(size fld:Nat)(e:J):Option J :=
 if isA then
  match e with
  |.agg cs=>if fld=0∧size=cs.length then some (.agg cs)else if fld+size≤cs.length then some (.agg ((cs.drop fld).take size))else none
  |_=>none
 else
  match e with
  |.agg cs=>cs[fld]?
  |_=>if fld=0 then some e else none
def aQ(D:c5)(t:TypeId)(a:aO)(h:I):Option J :=
 match D t,h.get a.id with
 |some d,some b =>
  match b.elem? a.ver a.idx with
  |some e=>n1 d.kind.isAgg d.size a.fld e
  |none=>none
 |_,_=>none
def J.iG:J→Bool
 |.agg _|.tuple _|.undef=>false
 |_=>true
def n3(fld:Nat)(v:J)(e:J):Option J :=
 match e with
 |.agg cs=>if fld+v.cells.length≤cs.length then some (.agg (hf cs fld v.cells))else none
 |_=>if fld=0∧v.iG then some v else none
def J.fits(v:J)(isA:Bool)(size:Nat):Bool :=
 match v with
 |.agg cs=>isA&&cs.length == size&&cs.all (·.iG)
 |.tuple _=>false
 |.undef=>false
 |_=> !isA&&size == 1
def e7(D:c5)(t:TypeId)(a:aO)(v:J)(h:I):Option I :=
 match D t,h.get a.id with
 |some d,some b =>
  if v.fits d.kind.isAgg d.size&&!b.ro&&a.ver == b.ver then
   match b.a'[a.idx]? with
   |some e =>
    match n3 a.fld v e with
    |some e'=>some (h.set a.id {b with a':=b.a'.set a.idx e',eD:=b.ver})
    |none=>none
   |none=>none
  else none
 |_,_=>none
def ju(op:BinOp)(k:IntKind)(x y:Int):Option J :=
 match op with
 |.add=>some (.int k (k.wrap (x+y)))
 |.sub=>some (.int k (k.wrap (x-y)))
 |.mul=>some (.int k (k.wrap (x*y)))
 |.quo=>if y=0 then none else some (.int k (k.wrap (x.tdiv y)))
 |.rem=>if y=0 then none else some (.int k (x.tmod y))
 |.and=>some (.int k (k.wrap (BitVec.ofInt k.bits x &&& BitVec.ofInt k.bits y).toNat))
 |.or=>some (.int k (k.wrap (BitVec.ofInt k.bits x ||| BitVec.ofInt k.bits y).toNat))
 |.xor=>some (.int k (k.wrap (BitVec.ofInt k.bits x ^^^ BitVec.ofInt k.bits y).toNat))
 |.andNot=>some (.int k (k.wrap (BitVec.ofInt k.bits x &&& ~~~(BitVec.ofInt k.bits y)).toNat))
 |.eql=>some (.bool (x == y))
 |.neq=>some (.bool (x != y))
 |.lss=>some (.bool (decide (x<y)))
 |.leq=>some (.bool (decide (x≤y)))
 |.gtr=>some (.bool (decide (x>y)))
 |.geq=>some (.bool (decide (x≥y)))
 |_=>none
def tk(op:BinOp)(k:IntKind)(x y:Int):Option J :=
 if y<0 then none else
 match op with
 |.shl=>some (.int k (k.wrap (x*2^(min y.toNat k.bits))))
 |.shr=>some (.int k (x.fdiv (2^(min y.toNat k.bits))))
 |_=>none
def tl(op:BinOp)(x y:List UInt8):Option J :=
 match op with
 |.add=>if x.length+y.length<2^62 then some (.str (x++y))else none
 |.eql=>some (.bool (x == y))
 |.neq=>some (.bool (!(x == y)))
 |.lss=>some (.bool (Op.bytesLess x y))
 |.leq=>some (.bool (Op.bytesLess x y || x == y))
 |.gtr=>some (.bool (!(Op.bytesLess x y || x == y)))
 |.geq=>some (.bool (!Op.bytesLess x y))
 |_=>none
def wE(k:gQ)(a b:J):Option Bool :=
 match k,a,b with
 |.int _,.int k a,.int k' b=>if k=k' then some (a == b)else none
 |.bool,.bool a,.bool b=>some (a == b)
 |.string,.str a,.str b=>some (a == b)
 |_,_,_=>none
def qh(D:c5):List (Nat×TypeId)→List J→List J→Option Bool
 |[],[],[]=>some true
 |(_,t)::fs,a::x,b::y =>
  match D t with
  |some d =>
   match wE d.kind a b,qh D fs x y with
   |some p,some q=>some (p&&q)
   |_,_=>none
  |none=>none
 |_,_,_=>none
def rL(k:gQ):List J→List J→Option Bool
 |[],[]=>some true
 |a::x,b::y =>
  match wE k a b,rL k x y with
  |some p,some q=>some (p&&q)
  |_,_=>none
 |_,_=>none
def o5(D:c5)(gB:TypeId→Bool)(lit:Bool)(t:TypeId)(x y:J):Option Bool :=
 match D t with
 |none=>none
 |some d =>
  match d.kind,x,y with
  |.bool,.bool a,.bool b=>some (a == b)
  |.ptr _,.ptr none,.ptr none=>some true
  |.ptr _,.ptr none,.ptr (some _)=>some false
  |.ptr _,.ptr (some _),.ptr none=>some false
  |.slice _,.slice none _ _,.slice none _ _=>some true
  |.slice _,.slice none _ _,.slice (some _) _ _=>some false
  |.slice _,.slice (some _) _ _,.slice none _ _=>some false
  |.func,.nilFunc,.nilFunc=>some true
  |.func,.nilFunc,.func _ _ _=>some false
  |.func,.func _ _ _,.nilFunc=>some false
  |.iface _,.nilIface,.nilIface=>if lit then some true else none
  |.iface _,.nilIface,.iface _ _=>some false
  |.iface _,.iface _ _,.nilIface=>some false
  |.struct fs,.agg x,.agg y=>if gB t then qh D fs x y else none
  |.array n e,.agg x,.agg y =>
   if gB t then
    match D e with
    |some hA=>if hA.size=1∧x.length=n then rL hA.kind x y else none
    |none=>none
   else none
  |_,_,_=>none
def nf(D:c5)(gB:TypeId→Bool)(lit:Bool)(op:BinOp)(t:TypeId)(x y:J):Option J :=
 match x,y with
 |.int k a,.int k' b =>
  match op with
  |.shl|.shr=>tk op k a b
  |_=>if k=k' then ju op k a b else none
 |.str a,.str b=>tl op a b
 |_,_ =>
  match op with
  |.eql=>(o5 D gB lit t x y).map fun b=> .bool b
  |.neq=>(o5 D gB lit t x y).map fun b=> .bool (!b)
  |_=>none
def tm(op:UnOp)(x:J):Option J :=
 match op,x with
 |.neg,.int k n=>some (.int k (k.wrap (0-n)))
 |.not,.bool b=>some (.bool (!b))
 |.xor,.int k n=>ju .xor k (if k.signed then-1 else k.max) n
 |_,_=>none
def wF:J→J→Option J
 |.int k x,.int k' y=>if k=k' then some (.int k (if y>x then y else x))else none
 |_,_=>none
def wG:J→J→Option J
 |.int k x,.int k' y=>if k=k' then some (.int k (if y<x then y else x))else none
 |_,_=>none
def o6(f:J→J→Option J):J→List J→Option J
 |x,[]=>some x
 |x,y::r =>
  match f x y with
  |some z=>o6 f z r
  |none=>none
def J.known:J→Bool
 |.undef=>false
 |_=>true
def rM(place:Nat→Option (Nat×Nat))(cells:List J):List (Nat×J)→Option (List J)
 |[]=>some cells
 |(i,v)::rest =>
  match place i with
  |none=>none
  |some (off,size) =>
   if v.cells.length=size∧off+size≤cells.length∧v.known=true then rM place (hf cells off v.cells) rest else none
def Ea(D:c5)(fs:List (Nat×TypeId)):Bool:=fs.all fun f=>(D f.2).isSome
def zy(D:c5)(t:TypeId)(parts:List (Nat×J)):Option J :=
 match D t with
 |some d =>
  match d.kind,d.zero with
  |.struct fs,some z =>
   if z.known=true∧Ea D fs=true then
    (rM (fun i=>match fs[i]? with|some (off,ng)=>(D ng).map fun x=>(off,x.size)|none=>none) z.cells parts).map .agg
   else none
  |.array _ e,some z =>
   match D e with
   |some x=>if z.known=true then(rM (fun i=>some (i*x.size,x.size)) z.cells parts).map .agg else none
   |none=>none
  |_,_=>none
 |none=>none
def l6(l:List J):List (Nat×J)→Option (List J)
 |[]=>some l
 |(i,v)::rest=>if i<l.length then l6 (l.set i v) rest else none
def ii(nid es len cap:Nat):J:= .slice (some ⟨nid,0,0,0,es⟩) len cap
def tn(D:c5)(t:TypeId)(len:Nat)(parts:List (Nat×J))(nid:Nat)(h:I):Option (J×I) :=
 match D t with
 |some d =>
  match d.kind with
  |.slice e =>
   match D e with
   |some x =>
    match x.zero with
    |some z =>
     if len*x.size≤2^24∧0<x.size∧z.fits x.kind.isAgg x.size∧(parts.all fun p=>p.2.fits x.kind.isAgg x.size)then
      match l6 (List.replicate len z) parts with
      |some l=>some (ii nid x.size len len,h.set nid (.made l x.size true))
      |none=>none
     else none
    |none=>none
   |none=>none
  |_=>none
 |none=>none
def n4(D:c5)(t:TypeId)(len cap:J)(nid:Nat)(h:I):Option (J×I) :=
 match D t,len,cap with
 |some d, .int _ l,.int _ c =>
  match d.kind with
  |.slice e =>
   match D e with
   |some x =>
    match x.zero with
    |some z =>
     if 0≤l∧l≤c∧c<2^62∧x.bytes*c≤2^48∧0<x.size∧z.fits x.kind.isAgg x.size then
      some (ii nid x.size l.toNat c.toNat,h.set nid (.made (List.replicate c.toNat z) x.size true))
     else none
    |none=>none
   |none=>none
  |_=>none
 |_,_,_=>none
def fJ(v:Option J)(zz dH:Nat):Option Nat :=
 match v with
 |none=>some zz
 |some (.int _ i)=>if 0≤i∧i≤dH then some i.toNat else none
 |_=>none
def gC(D:c5)(t:TypeId)(x:J)(aB ac mx:Option J):Option J :=
 match D t,x with
 |some d, .slice a len cap =>
  match d.kind with
  |.slice e =>
   match D e,fJ mx cap cap with
   |some b',some m =>
    match fJ ac len m with
    |some ck =>
     match fJ aB 0 ck with
     |some l =>
      if mx.isSome∧ac.isNone then none else
      match a with
      |none=>some (.slice none (ck-l) (m-l))
      |some a=>if a.es=b'.size∧a.fld=0 then some (.slice (some {a with idx:=a.idx+l}) (ck-l) (m-l))else none
     |none=>none
    |none=>none
   |_,_=>none
  |_=>none
 |some d,.ptr (some a) =>
  match d.kind with
  |.array n e =>
   match D e with
   |some b' =>
    if mx.isSome then none else
    match fJ ac n n with
    |some ck =>
     match fJ aB 0 ck with
     |some l=>if l<n∧b'.size=1 then some (.slice (some {a with fld:=a.fld+l+1}) (ck-l) (n-l))else none
     |none=>none
    |none=>none
   |none=>none
  |_=>none
 |some d,.str s =>
  match d.kind with
  |.string =>
   if mx.isSome then none else
   match fJ ac s.length s.length with
   |some ck =>
    match fJ aB 0 ck with
    |some l=>some (.str ((s.take ck).drop l))
    |none=>none
   |none=>none
  |_=>none
 |_,_=>none
def bb(D:c5)(t:TypeId)(x i:J):Option J :=
 match D t,x,i with
 |some d,.slice (some a) len _,.int _ i =>
  match d.kind with
  |.slice e =>
   match D e with
   |some b' =>
    if 0≤i∧i<len∧a.es=b'.size∧a.fld=0 then some (.ptr (some {a with idx:=a.idx+i.toNat}))
    else if 0≤i∧i<len∧0<a.fld∧b'.size=1 then some (.ptr (some {a with fld:=a.fld-1+i.toNat}))
    else none
   |none=>none
  |_=>none
 |some d,.ptr (some a),.int _ i =>
  match d.kind with
  |.array n e =>
   match D e with
   |some b'=>if 0≤i∧i<n then some (.ptr (some {a with fld:=a.fld+i.toNat*b'.size}))else none
   |none=>none
  |_=>none
 |_,_,_=>none
def apart(D:c5)(t:TypeId)(cs:List J)(off:Nat):Option J :=
 match D t with
 |some d=>if d.kind.isAgg then(if off+d.size≤cs.length then some (.agg ((cs.drop off).take d.size))else none)else cs[off]?
 |none=>none
def tp(D:c5)(t:TypeId)(x i:J):Option J :=
 match D t,x,i with
 |some d,.agg cs,.int _ i =>
  match d.kind with
  |.array n e =>
   match D e with
   |some b'=>if 0≤i∧i<n then apart D e cs (i.toNat*b'.size)else none
   |none=>none
  |_=>none
 |some d,.str s,.int _ i =>
  match d.kind with
  |.string=>if 0≤i then(s[i.toNat]?).map fun b=> .int .u8 b.toNat else none
  |_=>none
 |_,_,_=>none
def zA(D:c5)(t:TypeId)(x:J)(f:Nat):Option J :=
 match D t,x with
 |some d,.ptr (some a) =>
  match d.kind with
  |.struct fs =>
   match fs[f]? with
   |some (off,ng) =>
    match D ng with
    |some fd=>if 0<fd.size then some (.ptr (some {a with fld:=a.fld+off}))else none
    |none=>none
   |none=>none
  |_=>none
 |_,_=>none
def zB(D:c5)(t:TypeId)(x:J)(f:Nat):Option J :=
 match D t,x with
 |some d,.agg cs =>
  match d.kind with
  |.struct fs =>
   match fs[f]? with
   |some (off,ng)=>apart D ng cs off
   |none=>none
  |_=>none
 |_,_=>none
def gj(es:Nat)(x:J)(h:I):Option (List J) :=
 match x with
 |.slice none 0 _=>some []
 |.slice (some a) len _ =>
  if a.fld=0 then
   if a.es=es then
    match h.get a.id with
    |some b=>if len=0 then some []else if a.idx+len≤b.cj a.ver∧a.idx+len≤b.a'.length then some ((b.a'.drop a.idx).take len)else none
    |none=>if len=0 then some []else none
   else none
  else if len=0 then some []
  else if es=1 then
   match h.get a.id with
   |some b =>
    match b.elem? a.ver a.idx with
    |some (.agg cs)=>if a.fld-1+len≤cs.length∧((cs.drop (a.fld-1)).take len).all (·.iG)=true then some ((cs.drop (a.fld-1)).take len)else none
    |_=>none
   |none=>none
  else none
 |.str s=>if es=1 then some (s.map fun b=> .int .u8 b.toNat)else none
 |_=>none
def o4.o7(d:o4):Bool :=
 match d.zero with
 |some z=>z.fits d.kind.isAgg d.size
 |none=>false
def hB(D : c5)(t:TypeId)(s x:J)(nid:Nat)(h:I):Option (J×I) :=
 match D t,s with
 |some d, .slice base len cap =>
  match d.kind with
  |.slice e =>
   match D e with
   |some b' =>
    match gj b'.size x h with
    |some new =>
     let ij:=len+new.length
     if 0 < b'.size∧(ij+ij/4+512)*b'.bytes≤2^48∧ij<2^62∧b'.o7=true then
      match base with
      |none=>if ij=0 then some (.slice none 0 cap,h)else if cap=0∧len=0 then some (ii nid b'.size ij ij,h.set nid (.made new b'.size false (some (e,0))))else none
      |some a =>
       if a.es =b'.size∧a.fld=0 then
        match h.get a.id with
        |some b =>
         if ij≤cap then
          if new=[]then some (.slice base ij cap,h)else
          if b.ro=false∧a.ver=b.ver∧a.idx+ij≤b.a'.length then some (.slice base ij cap,h.set a.id (b.put (a.idx+len) new))else none
         else if b.exact then
          match gj b'.size s h with
          |some old=>some (ii nid b'.size ij ij,h.set nid (.made (old++new) b'.size false (some (e,0))))
          |none=>none
         else if b.ro=false∧a.ver=b.ver∧a.idx+len=b.a'.length∧new≠[]∧(b.ty=none∨b.ty=some (e,0))then
          some (.slice (some {a with ver:=a.ver+1}) ij ij,
           h.set a.id (b.grow new))
         else none
        |none=>none
       else none
     else none
    |none=>none
   |none=>none
  |_=>none
 |_,_=>none
def zC(D:c5)(t:TypeId)(x:J):Option J :=
 match D t,x with
 |some d,.slice _ n _=>match d.kind with|.slice _=>some (.int .i64 n)|_=>none
 |some d,.str s=>match d.kind with|.string=>some (.int .i64 s.length)|_=>none
 |some d,_=>match d.kind with|.array n _=>some (.int .i64 n)|_=>none
 |_,_=>none
def qi(D:c5)(src dst:TypeId)(x:J):Option J :=
 match D src,D dst,x with
 |some _,some d,.int _ n=>match d.kind with|.int k=>some (.int k (k.wrap n))|.string=>some (.str (Utf8.encode n).data.toList)|_=>none
 |some _,some d,.str s=>match d.kind with|.string=>some (.str s)|_=>none
 |_,_,_=>none
abbrev da:=FuncId→List J→I→Option (J×I)
abbrev o8:=List J→I→Option (J×I)
structure bh where
 D:c5
 eqs:List TypeId
 qj:FuncId→Option o8:=fun _=>none
 ext:FuncId→Option Nat:=fun _=>none
 cond:(Nat→Prop)→World→Prop:=fun _ _=>True
def bh.gB(E:bh)(t:TypeId):Bool:=E.eqs.contains t
def cK(s:List J):Operand→J
 |.tmp t=>s.getD t .undef
 |.const v=>o3 v
 |.global _=> .undef
 |.func f=> .func (.func f) [] []
def nh:Operand→Bool
 |.const _=>true
 |_=>false
def l7(call:da)(f:J)(args:List J)(h:I):Option (J×I) :=
 match f with
 |.func (.func g) first captured=>call g (first++args++captured) h
 |_=>none
def bytesOf:List J→Option (List UInt8)
 |[]=>some []
 |.int .u8 n::r=>(bytesOf r).map fun l=>UInt8.ofNat n.toNat::l
 |_=>none
def wH:List J→Bool
 |[]=>true
 |.int .u8 n::r=>decide (0≤n)&&decide (n<256)&&wH r
 |_=>false
def zD(D:c5)(o9:TypeId)(p:Option aO)(n:Int)(h:I):Option (J×I) :=
 if n=0 then some (.str [],h)else
 match D o9,p with
 |some d,some a =>
  match d.kind,h.get a.id with
  |.ptr e,some b =>
   match D e with
   |some hA =>
    if 0<n∧n≤1048576∧a.idx=0∧a.fld=0∧a.es=1∧b.ro=false∧b.ty=some (e,0)∧hA.size=1∧n.toNat≤b.cj a.ver∧n.toNat≤b.a'.length∧wH (b.a'.take n.toNat)=true then
     (bytesOf (b.a'.take n.toNat)).map fun s=>(.str s,h.set a.id {b with ro:=true})
    else none
   |none=>none
  |_,_=>none
 |_,_=>none
def zE:J→Option J
 |.slice none _ _=>some (.ptr none)
 |.slice (some a) _ c=>if a.fld=0∧0<c then some (.ptr (some a))else none
 |_=>none
def zF(D:c5)(t:TypeId)(s x:J)(h:I):Option (J×I) :=
 match D t,s,x with
 |some d, .slice (some a) len _,.slice (some gq) n _ =>
  match d.kind with
  |.slice e =>
   match D e,h.get gq.id,h.get a.id with
   |some b',some lB,some b =>
    if b'.size=1∧0<a.fld∧gq.fld=0∧gq.es=1∧0<n∧n≤len∧gq.idx+n≤lB.cj gq.ver∧gq.idx+n≤lB.a'.length∧b.ro=false∧a.ver=b.ver then
     match b.a'[a.idx]? with
     |some (.agg cs) =>
      if a.fld-1+n≤cs.length∧((lB.a'.drop gq.idx).take n).all (·.iG)=true then
       some (.int .i64 n,h.set a.id {b with a':=b.a'.set a.idx (.agg (hf cs (a.fld-1) ((lB.a'.drop gq.idx).take n))),eD:=b.ver})
      else none
     |_=>none
    else none
   |_,_,_=>none
  |_=>none
 |_,_,_=>none
def tq(D:c5)(t:TypeId)(s:J)(h:I):Option (J×I) :=
 match D t,s with
 |some d, .slice o n _ =>
  match d.kind with
  |.slice e =>
   if n=0 then some (.tuple [],h)
   else
    match o,D e with
    |some a,some b' =>
     match h.get a.id,b'.zero with
     |some b,some z =>
      if a.fld=0∧a.es=b'.size∧0<b'.size∧z.fits b'.kind.isAgg b'.size=true∧b.ro=false∧a.ver=b.ver∧a.idx+n≤b.a'.length then some (.tuple [],h.set a.id (b.put a.idx (List.replicate n z)))
      else none
     |_,_=>none
    |_,_=>none
  |_=>none
 |_,_=>none
def dk(E:bh)(b:Builtin)(ts:Array TypeId)(args:List J)(nid:Nat)(h:I):Option (J×I) :=
 match b with
 |.len =>
  match args,ts[0]? with
  |[x],some t=>(zC E.D t x).map fun v=>(v,h)
  |_,_=>none
 |.append =>
  match args,ts[0]?,ts[1]? with
  |[s,x],some t,some u=>match E.D u with|some kl=>(match kl.kind with|.slice _=>hB E.D t s x nid h|.string=>hB E.D t s x nid h|_=>none)|none=>none
  |_,_,_=>none
 |.max =>
  match args with
  |x::r=>(o6 wF x r).map fun v=>(v,h)
  |_=>none
 |.min =>
  match args with
  |x::r=>(o6 wG x r).map fun v=>(v,h)
  |_=>none
 |.copy =>
  match args,ts[0]?,ts[1]? with
  |[s,x],some t,some u=>zF E.D t s x h
  |_,_,_=>none
 |.clear =>
  match args,ts[0]? with
  |[s],some t=>tq E.D t s h
  |_,_=>none
 |.unsafeSliceData =>
  match args with
  |[x]=>(zE x).map fun v=>(v,h)
  |_=>none
 |.unsafeString =>
  match args,ts[0]? with
  |[.ptr p,.int .i64 n],some t=>zD E.D t p n h
  |_,_=>none
 |_=>none
def aV(E:bh)(call:da)(nid:Nat)(ρ:Operand→J)(h:I)(o:Op):Option (J×I) :=
 match o with
 |.move x|.assign x=>some (ρ x,h)
 |.pick c a b=>match ρ c with|.bool t=>some (if t then ρ a else ρ b,h)|_=>none
 |.alloc t =>
  match E.D t with
  |some d=>match d.zero with|some z=>if z.fits d.kind.isAgg d.size&&decide (0<d.size)then some (.ptr (some ⟨nid,0,0,0,d.size⟩),h.set nid (.made [z] d.size true (some (t,d.size))))else none|none=>none
  |none=>none
 |.box t x =>
  match E.D t with
  |some d=>if(ρ x).fits d.kind.isAgg d.size&&decide (0<d.size)then some (.ptr (some ⟨nid,0,0,0,d.size⟩),h.set nid (.made [ρ x] d.size true (some (t,d.size))))else none
  |none=>none
 |.build t parts=>(zy E.D t (parts.toList.map fun p=>(p.1,ρ p.2))).map fun v=>(v,h)
 |.buildSlice t n parts=>tn E.D t n (parts.toList.map fun p=>(p.1,ρ p.2)) nid h
 |.load t a=>match ρ a with|.ptr (some a)=>(aQ E.D t a h).map fun v=>(v,h)|_=>none
 |.store t a x=>match ρ a with|.ptr (some a)=>(e7 E.D t a (ρ x) h).map fun h'=>(fq,h')|_=>none
 |.nilCheck x=>match ρ x with|.ptr (some a)=>some (.ptr (some a),h)|.func (.func g) fs cs=>some (.func (.func g) fs cs,h)|_=>none
 |.binOp op t x y _=>(nf E.D E.gB (nh x || nh y) op t (ρ x) (ρ y)).map fun v=>(v,h)
 |.unOp op _ x=>(tm op (ρ x)).map fun v=>(v,h)
 |.convert s d x=>(qi E.D s d (ρ x)).map fun v=>(v,h)
 |.makeFunc (.func g) fs cs=>some (.func (.func g) (fs.toList.map ρ) (cs.toList.map ρ),h)
 |.makeInterface t x=>match E.D t with|some d=>(match d.kind with|.iface _=>none|_=>some (.iface t (ρ x),h))|none=>none
 |.makeSlice t l c=>n4 E.D t (ρ l) (ρ c) nid h
 |.slice t x aB ac mx=>(gC E.D t (ρ x) (aB.map ρ) (ac.map ρ) (mx.map ρ)).map fun v=>(v,h)
 |.fieldAddr t x f=>(zA E.D t (ρ x) f).map fun v=>(v,h)
 |.field t x f=>(zB E.D t (ρ x) f).map fun v=>(v,h)
 |.indexAddr t x i=>(bb E.D t (ρ x) (ρ i)).map fun v=>(v,h)
 |.index t x i=>(tp E.D t (ρ x) (ρ i)).map fun v=>(v,h)
 |.extract x i=>match ρ x with|.tuple vs=>(vs[i]?).map fun v=>(v,h)|_=>none
 |.call c =>
  match c.callee with
  |.value f=>l7 call (ρ f) (c.args.toList.map ρ) h
  |.builtin b=>dk E b c.argTypes (c.args.toList.map ρ) nid h
  |_=>none
 |_=>none
def tr(D:c5)(src dst:TypeId)(x:J)(nid:Nat)(h:I):Option (J×I) :=
 match D src,D dst,x with
 |some l8,some dd,.str s =>
  match l8.kind,dd.kind with
  |.string,.slice e =>
   match D e with
   |some hA =>
    match hA.kind with
    |.int .u8=>some (ii nid 1 s.length s.length,h.set nid (.made (s.map fun b=> .int .u8 b.toNat) 1 false))
    |_=>none
   |none=>none
  |_,_=>none
 |some l8,some dd,.slice a n c =>
  match l8.kind,dd.kind with
  |.slice e,.slice _ =>
   match D e,a with
   |some hA,some qk =>
    match hA.kind,h.get qk.id with
    |.int .u8,some b=>if src=dst∧b.ro=false∧qk.fld=0∧0<c then some (.slice (some qk) n c,h)else none
    |_,_=>none
   |_,_=>none
  |.slice e,.string =>
   match D e with
   |some hA =>
    match hA.kind with
    |.int .u8 =>
     match gj 1 (.slice a n c) h with
     |some l=>(bytesOf l).map fun s=>(.str s,h)
     |none=>none
    |_=>none
   |none=>none
  |_,_=>none
 |_,_,_=>none
def zG(k:Nat)(args:List J):Option J :=
 match args with
 |[.str s,.int .u8 c] =>
  match k with
  |0=>some (.int .i64 (Go.Lib.countByte s c.toNat.toUInt8))
  |1=>some (.int .i64 (Go.Lib.indexByte s c.toNat.toUInt8))
  |_=>none
 |[.str s,.str t]=>if k=2 then some (.int .i64 (Go.Lib.compareBytes s t))else none
 |_=>none
def gD(E:bh)(nid:Nat)(ρ:Operand→J)(h:I)(o:Op):Option (J×I) :=
 match o with
 |.convert s d x=>tr E.D s d (ρ x) nid h
 |.call c =>
  match c.callee with
  |.value f =>
   match ρ f with
   |.func (.func g) [] [] =>
    match E.ext g with
    |some k=>(zG k (c.args.toList.map ρ)).map fun v=>(v,h)
    |none=>none
   |_=>none
  |_=>none
 |_=>none
def ik(E:bh)(call:da)(nid:Nat)(ρ:Operand→J)(h:I)(o:Op):Option (J×I) :=
 match aV E call nid ρ h o with
 |some r=>some r
 |none=>gD E nid ρ h o
structure eu where
 ef:List J
 heap:I
def gE(s:List J)(dst:Option Tmp)(v:J):List J :=
 match dst with
 |some d=>s.set d v
 |none=>s
def il(ops:Array Oper)(s:List J)(o:Oper):Option Bool :=
 match o.guard with
 |none=>some true
 |some (j,want) =>
  match (ops[j]?).bind (·.dst)with
  |some d =>
   match s[d]? with
   |some (.bool b)=>some (b == want)
   |some (.tuple [])=>some false
   |_=>none
  |none=>none
def o'(E:bh)(call:da)(ops:Array Oper)(aD:Nat)(i:Nat)(s:eu):Option eu :=
 match ops[i]? with
 |none=>some s
 |some o =>
  match il ops s.ef o with
  |some true =>
   match ik E call (aD+i) (cK s.ef) s.heap o.op with
   |some (v,h)=>some ⟨gE s.ef o.dst v,h⟩
   |none=>none
  |some false=>some ⟨gE s.ef o.dst fq,s.heap⟩
  |none=>none
def ni(E:bh)(call:da)(ops:Array Oper)(aD:Nat):List Nat→eu→Option eu
 |[],s=>some s
 |i::r,s =>
  match o' E call ops aD i s with
  |some bm=>ni E call ops aD r bm
  |none=>none
inductive bx where
 |normal|exit (id:Nat)|goto (l:Nat)|ret
 deriving DecidableEq
inductive tt where
 |pure|load|alloc|store|call|hV|other
 deriving DecidableEq
def cX:Op→tt
 |.move _|.assign _|.pick _ _ _|.build _ _|.nilCheck _|.binOp _ _ _ _ _|.unOp _ _ _|.convert _ _ _|.makeFunc _ _ _|.slice _ _ _ _ _
 |.fieldAddr _ _ _|.field _ _ _|.indexAddr _ _ _|.index _ _ _|.extract _ _|.makeInterface _ _=> .pure
 |.load _ _=> .load
 |.store _ _ _=> .store
 |.alloc _|.box _ _|.buildSlice _ _ _|.makeSlice _ _ _=> .alloc
 |.call c =>
  match c.callee with
  |.value _=> .call
  |.builtin .len|.builtin .max|.builtin .min|.builtin .unsafeSliceData=> .pure
  |.builtin .append=> .hV
  |_=> .other
 |_=> .other
def hC(e:Edge):Bool:=Region.binds .any e
def c7(ops:Array Oper):Array Nat :=
 ops.toList.foldl (fun acc o=>acc.push (o.after.toList.foldl (fun s e=>if hC e then s ||| 2^e.on ||| acc.getD e.on 0 else s) 0)) #[]
def ordered(km:Array Nat)(i j:Nat):Bool:=(km.getD j 0).testBit i
def tmpsOf(xs:List Operand):List Tmp:=xs.filterMap fun|.tmp t=>some t|_=>none
def qm(ops:Array Oper)(o:Oper):List Tmp :=
 tmpsOf o.op.operands.toList++(match o.guard with|some (g,_)=>((ops[g]?).bind (·.dst)).toList|none=> [])
def tu(ops:Array Oper)(x y:Oper):Bool :=
 (match x.dst with|some d=> !(qm ops y).contains d&&!(y.dst == some d)|none=>true) &&
 (match y.dst with|some d=> !(qm ops x).contains d|none=>true)
def zH:tt→tt→Bool
 |.pure,_|_,.pure=>true
 |.load,.load|.load,.alloc|.alloc,.load|.alloc,.alloc|.call,.load|.load,.call|.load,.store|.store,.load|.hV,.alloc|.alloc,.hV=>true
 |_,_=>false
def n5(ops:Array Oper):Bool :=
 let km:=c7 ops
 (List.range ops.size).all fun j =>
  match ops[j]? with
  |none=>true
  |some y =>
   (y.after.toList.all fun e=> !hC e || decide (e.on<j)) &&
   (List.range j).all fun i =>
    ordered km i j ||
    match ops[i]? with
    |none=>true
    |some x=>zH (cX x.op) (cX y.op)&&tu ops x y
mutual
def J.same:J→J→Bool
 |.undef,.undef=>true
 |.bool a,.bool b=>a == b
 |.int k a,.int l b=>decide (k=l)&&a == b
 |.str a,.str b=>a == b
 |.ptr a,.ptr b=>decide (a=b)
 |.slice a n c,.slice b m d=>decide (a=b)&&n == m&&c == d
 |.func f a b,.func g c d=>decide (f=g)&&J.lC a c&&J.lC b d
 |.nilFunc,.nilFunc=>true
 |.iface t a,.iface u b=>t == u&&J.same a b
 |.nilIface,.nilIface=>true
 |.agg a,.agg b=>J.lC a b
 |.tuple a,.tuple b=>J.lC a b
 |_,_=>false
def J.lC:List J→List J→Bool
 |[],[]=>true
 |a::x,b::y=>J.same a b&&J.lC x y
 |_,_=>false
end
def aJ.same(a b:aJ):Bool :=
 J.lC a.a' b.a' && a.es == b.es&&a.exact == b.exact&&a.ro == b.ro&&a.ver == b.ver&&a.eD == b.eD&&a.hU == b.hU&&a.ty == b.ty
def n6(cj:Nat)(h h':I):Bool:=aK.l5 aJ.same cj h'.aj h.aj 0 1
def k4(ops:Array Oper)(km:Array Nat)(j:Nat):Bool :=
 (List.range ops.size).any fun i =>
  match ops[i]? with
  |some x=>decide (cX x.op=.load)&&!ordered km i j&&!ordered km j i
  |none=>false
def n7(ops:Array Oper)(km:Array Nat)(j:Nat):Bool :=
 (List.range ops.size).any fun i =>
  match ops[i]? with
  |some x=>decide (cX x.op=.store)&&!ordered km i j&&!ordered km j i
  |none=>false
def l9(ρ:Operand→J):Op→Option Nat
 |.store _ x _=>match ρ x with|.ptr (some a)=>some a.id|_=>none
 |_=>none
def jv(ρ:Operand→J):Op→Option Nat
 |.load _ x=>match ρ x with|.ptr (some a)=>some a.id|_=>none
 |_=>none
def gF:J→List Nat
 |.slice (some a) _ _=> [a.id]
 |_=> []
def gr(ρ:Operand→J):Op→List Nat
 |.call c=>(c.args.toList.map ρ).flatMap gF
 |_=> []
def gG:Op→Bool
 |.convert _ _ _=>true
 |_=>false
def kn(ops:Array Oper)(j:Nat):Bool :=
 let km:=c7 ops
 (List.range ops.size).all fun i =>
  (i == j) || ordered km i j || ordered km j i ||
   match ops[i]? with
   |some x=>decide (cX x.op=.pure)&&!(gG x.op)
   |none=>true
def l'(ρ:Operand→J):Op→Option J
 |.convert _ _ x=>match ρ x with|.slice a n c=>some (.slice a n c)|_=>none
 |_=>none
def hg(ops:Array Oper)(aD j:Nat)(ρ:Operand→J)(o:Op):Bool :=
 match l' ρ o with
 |some x =>
  ((gF x).all fun b=>decide (b<aD) || (decide (b<aD+ops.size)&&ordered (c7 ops) (b-aD) j)) &&
  ((List.range ops.size).all fun i=>(i == j) || ordered (c7 ops) i j || ordered (c7 ops) j i ||
    match ops[i]? with
    |some y=>decide (cX y.op=.pure) || decide (cX y.op=.load) || decide (cX y.op=.alloc)
    |none=>true)
 |none=>false
def ma(ops:Array Oper)(aD j:Nat)(ids:List Nat):Bool :=
 ids.all fun b=>decide (b<aD) || (decide (b<aD+ops.size)&&ordered (c7 ops) (b-aD) j) || decide (aD+ops.size≤b)
def pa(ops:Array Oper)(j:Nat):Bool :=
 (List.range ops.size).all fun i=>(i == j) || ordered (c7 ops) i j || ordered (c7 ops) j i ||
  match ops[i]? with
  |some y=>decide (cX y.op=.pure) || decide (cX y.op=.load)
  |none=>true
def eE(E:bh)(call:da)(ops:Array Oper)(aD j:Nat)(ρ:Operand→J)(h:I)(o:Op):Option (J×I) :=
 match cX o with
 |.load =>
  match jv ρ o with
  |some b=>if pa ops j=true∨b<aD∨(b<aD+ops.size∧ordered (c7 ops) (b-aD) j=true∧n7 ops (c7 ops) j=false)then aV E call (aD+j) ρ h o else none
  |none=>none
 |.store =>
  match l9 ρ o with
  |some b=>if k4 ops (c7 ops) j=true∧b<aD then none else aV E call (aD+j) ρ h o
  |none=>none
 |.call =>
  match aV E call (aD+j) ρ h o with
  |some (v,h')=>if k4 ops (c7 ops) j then(if n6 (aD+ops.size) h h' then some (v,h')else none)else some (v,h')
  |none=>none
 |.hV=>if ma ops aD j (gr ρ o)=true then aV E call (aD+j) ρ h o else none
 |.pure =>
  match aV E call (aD+j) ρ h o with
  |some r=>some r
  |none=>if gG o=true∧(kn ops j=true∨hg ops aD j ρ o=true)then gD E (aD+j) ρ h o else none
 |_=>aV E call (aD+j) ρ h o
def k5(E:bh)(call:da)(ops:Array Oper)(aD:Nat)(i:Nat)(s:eu):Option eu :=
 match ops[i]? with
 |none=>some s
 |some o =>
  match il ops s.ef o with
  |some true =>
   match eE E call ops aD i (cK s.ef) s.heap o.op with
   |some (v,h)=>some ⟨gE s.ef o.dst v,h⟩
   |none=>none
  |some false=>some ⟨gE s.ef o.dst fq,s.heap⟩
  |none=>none
def iH(E:bh)(call:da)(ops:Array Oper)(aD:Nat):List Nat→eu→Option eu
 |[],s=>some s
 |i::r,s =>
  match k5 E call ops aD i s with
  |some bm=>iH E call ops aD r bm
  |none=>none
def qn(E:bh)(call:da)(ops:Array Oper)(draw:Bool)(s:eu):Option eu :=
 if draw then
  (if n5 ops then iH E call ops s.heap.next (List.range ops.size) ⟨s.ef,{s.heap with next:=s.heap.next+ops.size}⟩else none)
 else ni E call ops s.heap.next (List.range ops.size) ⟨s.ef,{s.heap with next:=s.heap.next+ops.size}⟩
def ek(E:bh)(call:da):Nat→Option Code→Code→eu→Option (bx×eu)
 |0,_,_,_=>none
 |n +1,some body,c,s =>
  match ek E call n none c s with
  |some (.goto l,bm) =>
   match findLabel body l with
   |some rest=>ek E call n (some body) rest bm
   |none=>some (.goto l,bm)
  |r=>r
 |n +1,none,c,s =>
  match c with
  |.skip=>some (.normal,s)
  |.label _=>some (.normal,s)
  |.region _ ops draw=>(qn E call ops draw s).map fun bm=>(.normal,bm)
  |.seq a b =>
   match ek E call n none a s with
   |some (.normal,bm)=>ek E call n none b bm
   |r=>r
  |.cond x a b =>
   match cK s.ef x with
   |.bool true=>ek E call n none a s
   |.bool false=>ek E call n none b s
   |_=>none
  |.block id c =>
   match ek E call n none c s with
   |some (.exit j,bm)=>some (if j=id then .normal else .exit j,bm)
   |r=>r
  |.loop c =>
   match ek E call n none c s with
   |some (.normal,bm)=>ek E call n none (.loop c) bm
   |r=>r
  |.scope c=>ek E call n (some c) c s
  |.goto l=>some (.goto l,s)
  |.exit id=>some (.exit id,s)
  |.ret=>some (.ret,s)
  |_=>none
def im(D:c5)(rs:List ResultVar)(s:eu):Option (List J) :=
 match rs with
 |[]=>some []
 |.tmp t::r=>(im D r s).map fun l=>s.ef.getD t .undef::l
 |.cell a t::r =>
  match s.ef.getD a .undef with
  |.ptr (some p) =>
   match aQ D t p s.heap,im D r s with
   |some v,some l=>some (v::l)
   |_,_=>none
  |_=>none
def lD:List J→J
 |[v]=>v
 |l=> .tuple l
def jR(P:Program)(E:bh):Nat→da
 |0,_,_,_=>none
 |n + 1,f,args,h =>
  match E.qj f with
  |some g=>g args h
  |none =>
  match P.funcs[f]? with
  |some fn =>
   match fn.body with
   |some c =>
    match ek E (jR P E n) n none c ⟨args++List.replicate (fn.ntmps-args.length) fq,h⟩with
    |some (.exit _,_)=>none
    |some (.goto _,_)=>none
    |some (_,s)=>(im E.D fn.results.toList s).map fun l=>(lD l,s.heap)
    |none=>none
   |none=>none
  |none=>none
end
end Go.ba
namespace Go.ba
noncomputable section
structure Place where
 bD:Nat
 off:Nat
 aB:Nat
 es:Nat
 tot:Nat
 exact:Bool
 ro:Bool
abbrev Map:=Nat→Nat→Option Place
def Map.le(φ cm:Map):Prop:= ∀i v p,φ i v=some p→cm i v=some p
theorem Map.le_refl(φ:Map):φ.le φ:=fun _ _ _ h=>h
theorem Map.le_trans{φ cm tv:Map}(h:φ.le cm)(k:cm.le tv):φ.le tv:=fun i v p e=>k i v p (h i v p e)
def Place.at(p:Place)(idx fld:Nat):Addr:=⟨p.bD,p.off+(idx-p.aB)*p.es+fld,none⟩
def rN(φ:Map)(a:aO)(x:Addr):Prop :=
 ∃p,φ a.id a.ver=some p∧a.es=p.es∧p.aB≤a.idx∧x=p.at a.idx a.fld
def tw(φ:Map)(a:aO)(x:Addr)(cap cH:Nat):Prop :=
 ∃p,φ a.id a.ver=some p∧a.es=p.es∧(cH=0∨(p.aB≤a.idx∧x=p.at a.idx 0∧(a.idx-p.aB)+cH≤p.tot))∧(p.exact=true→cH=cap)
def rO(φ:Map)(a:aO)(x:Addr)(cap cH:Nat):Prop :=
 (a.fld=0∧tw φ a x cap cH)∨(∃f,a.fld=f+1∧rN φ {a with fld:=f} x)
theorem rO.plain{φ:Map}{a:aO}{x:Addr}{cap cH:Nat}(h:rO φ a x cap cH)(aS:a.fld=0):tw φ a x cap cH:=by
 rcases h with h|⟨f,h,_⟩
 ·exact h.2
 ·omega
mutual
def aA(φ:Map):J→Value→Prop
 |.undef,_=>True
 |.bool b,v=>v=.bool b
 |.int k n,v=>v=.int k n
 |.str s,v=> ∃t:ByteArray,v=.string t∧t.data.toList=s
 |.ptr none,v=>v=.pointer none
 |.ptr (some a),v=> ∃x,v=.pointer (some x)∧rN φ a x
 |.slice none len cap,v=>v=.slice none 0 0∧len=0∧cap=0
 |.slice (some a) len cap,v=> ∃x cH,v=.slice (some x) len cH∧len≤cap∧cap≤cH∧rO φ a x cap cH
 |.func fn f c,v=> ∃bG eN,v=.func fn bG eN∧bd φ f bG.toList∧bd φ c eN.toList
 |.nilFunc,v=>v=.nilFunc
 |.iface t a,v=> ∃x,v=.iface t x∧aA φ a x
 |.nilIface,v=>v=.nilIface
 |.agg cs,v=> ∃xs,v=.agg xs∧bd φ cs xs.toList
 |.tuple vs,v=> ∃xs,v=.tuple xs∧bd φ vs xs.toList
def bd(φ:Map):List J→List Value→Prop
 |[],l=>l=[]
 |a::r,l=> ∃v t,l=v::t∧aA φ a v∧bd φ r t
end
theorem rN.mono{φ cm:Map}(h:φ.le cm){a:aO}{x:Addr}(k:rN φ a x):rN cm a x :=
 let ⟨p,e,r⟩:=k;⟨p,h _ _ _ e,r⟩
theorem tw.mono{φ cm:Map}(h:φ.le cm){a:aO}{x:Addr}{c eN:Nat}(k:tw φ a x c eN):tw cm a x c eN:=by obtain⟨p,e,r⟩:=k;exact⟨p,h _ _ _ e,r⟩
theorem rO.mono{φ cm:Map}(h:φ.le cm){a:aO}{x:Addr}{c eN:Nat}(k:rO φ a x c eN):rO cm a x c eN:=by
 rcases k with ⟨U,ak⟩|⟨f,U,ak⟩
 ·exact .inl ⟨U,ak.mono h⟩
 ·exact .inr ⟨f,U,ak.mono h⟩
mutual
theorem aA.mono{φ cm:Map}(h:φ.le cm):∀{a:J}{v:Value},aA φ a v→aA cm a v
 |.undef,_,_=>by simp [aA]
 |.bool b,v,k=>by simpa [aA]using k
 |.int _ n,v,k=>by simpa [aA]using k
 |.str s,v,k=>by simpa [aA]using k
 |.ptr none,v,k=>by simpa [aA]using k
 |.ptr (some a),v,k=>by simp only [aA]at k⊢;obtain⟨x,e,r⟩:=k;exact⟨x,e,r.mono h⟩
 |.slice none len cap,v,k=>by simpa [aA]using k
 |.slice (some a) len cap,v,k=>by simp only [aA]at k⊢;obtain⟨x,c,e,dt,bX,r⟩:=k;exact⟨x,c,e,dt,bX,r.mono h⟩
 |.func fn f c,v,k=>by simp only [aA]at k⊢;obtain⟨bG,eN,e,cB,c9⟩:=k;exact⟨bG,eN,e,bd.mono h cB,bd.mono h c9⟩
 |.nilFunc,v,k=>by simpa [aA]using k
 |.iface t a,v,k=>by simp only [aA]at k⊢;obtain⟨x,e,r⟩:=k;exact⟨x,e,aA.mono h r⟩
 |.nilIface,v,k=>by simpa [aA]using k
 |.agg cs,v,k=>by simp only [aA]at k⊢;obtain⟨x,e,r⟩:=k;exact⟨x,e,bd.mono h r⟩
 |.tuple cs,v,k=>by simp only [aA]at k⊢;obtain⟨x,e,r⟩:=k;exact⟨x,e,bd.mono h r⟩
theorem bd.mono{φ cm:Map}(h:φ.le cm):∀{l:List J}{t:List Value},bd φ l t→bd cm l t
 |[],t,k=>by simpa [bd]using k
 |a::r,t,k=>by simp only [bd]at k⊢;obtain⟨v,e1,e,k1,k2⟩:=k;exact⟨v,e1,e,aA.mono h k1,bd.mono h k2⟩
end
theorem bd.length{φ:Map} :∀{l:List J}{t:List Value},bd φ l t→t.length=l.length
 |[],t,k=>by simp only [bd]at k;simp [k]
 |a::r,t,k=>by simp only [bd]at k;obtain⟨v,e1,e,k1,k2⟩:=k;simp [e,bd.length k2]
theorem bd.get{φ:Map} :∀{l:List J}{t:List Value}{i:Nat}{a:J},bd φ l t→l[i]? =some a→ ∃v,t[i]? =some v∧aA φ a v
 |[],t,i,a,k,h=>by simp at h
 |b::r,t,i,a,k,h=>by
  simp only [bd]at k;obtain⟨v,e1,e,k1,k2⟩:=k;subst e;cases i with
  |zero=>simp at h;subst h;exact⟨v,by simp,k1⟩
  |succ i=>simp at h;obtain⟨u,hu,zI⟩:=bd.get k2 h;exact⟨u,by simpa using hu,zI⟩
theorem bd.io{φ:Map} :∀{l:List J}{t:List Value},t.length=l.length→(∀(i:Nat)(a:J)(v:Value),l[i]? =some a→t[i]? =some v→aA φ a v)→bd φ l t
 |[],t,aF,h=>by simp at aF;simp [bd,aF]
 |a::r,[],aF,h=>by simp at aF
 |a::r,v::t,aF,h=>by simp only [bd];refine⟨v,t,rfl,h 0 a v (by simp) (by simp),bd.io (by simpa using aF) fun i bN a8 aW a7=>h (i+1) bN a8 (by simpa using aW) (by simpa using a7)⟩
theorem bd.append{φ:Map}{l m:List J}{t u:List Value}(h:bd φ l t)(k:bd φ m u):bd φ (l++m) (t++u):=by
 induction l generalizing t with
 |nil=>simp only [bd]at h;simpa [h]using k
 |cons a r ih =>
  simp only [bd]at h;obtain⟨v,e1,e,k1,k2⟩:=h;simp only [List.cons_append,bd];exact⟨v,e1++u,by simp [e],k1,ih k2⟩
theorem bd.set{φ:Map}{l:List J}{t:List Value}(h:bd φ l t)(i:Nat){a:J}{v:Value}(k:aA φ a v):bd φ (l.set i a) (t.set i v):=by
 refine bd.io (by simp [h.length]) fun j b u ao hu=> ?_
 by_cases e:i=j
 ·subst e
  have ac:i<l.length:=by have:=(List.getElem?_eq_some_iff.1 ao).1;simpa using this
  rw [List.getElem?_set_self (by simpa using ac)]at ao;rw [List.getElem?_set_self (by rw [h.length];exact ac)]at hu;simp at ao hu;subst ao hu;exact k
 ·rw [List.getElem?_set_ne e]at ao hu;obtain⟨x,ab,rx⟩:=h.get ao;rw [hu]at ab;simp at ab;subst ab;exact rx
theorem bd.drop{φ:Map}{l:List J}{t:List Value}(h:bd φ l t)(n:Nat):bd φ (l.drop n) (t.drop n):=by
 refine bd.io (by simp [h.length]) fun j b u ao hu=> ?_
 rw [List.getElem?_drop]at ao hu;obtain⟨x,ab,rx⟩:=h.get ao;rw [hu]at ab;simp at ab;subst ab;exact rx
theorem bd.take{φ:Map}{l:List J}{t:List Value}(h:bd φ l t)(n:Nat):bd φ (l.take n) (t.take n):=by
 refine bd.io (by simp [h.length]) fun j b u ao hu=> ?_
 rw [List.getElem?_take]at ao hu;split at ao
 ·rename_i ay;rw [if_pos ay]at hu;obtain⟨x,ab,rx⟩:=h.get ao;rw [hu]at ab;simp at ab;subst ab;exact rx
 ·simp at ao
theorem bd.map{φ:Map}{α:Type}(l:List α)(f:α→J)(g:α→Value)(h:∀x∈l,aA φ (f x) (g x)):bd φ (l.map f) (l.map g):=by
 induction l with
 |nil=>simp [bd]
 |cons x r ih =>
  simp only [List.map_cons,bd];exact⟨_,_,rfl,h x (by simp),ih fun y bi=>h y (by simp [bi])⟩
theorem bd.getD{φ:Map}{l:List J}{t:List Value}(h:bd φ l t)(i:Nat):aA φ (l.getD i .undef) (t.getD i undef):=by
 by_cases ac:i<l.length
 ·obtain⟨v,a7,dR⟩:=h.get (i:=i) (a:=l[i]) (List.getElem?_eq_getElem ac);rw [List.getD_eq_getElem?_getD,List.getD_eq_getElem?_getD,List.getElem?_eq_getElem ac,a7];simpa using dR
 ·rw [List.getD_eq_getElem?_getD,List.getElem?_eq_none (by omega)];simp [aA]
theorem aA.fq(φ:Map):aA φ fq undef:=by simp only [aA];exact⟨#[],rfl,by simp [bd]⟩
theorem bd.replicate{φ:Map}{a:J}{v:Value}(h:aA φ a v)(n:Nat):bd φ (List.replicate n a) (List.replicate n v):=by
 induction n with
 |zero=>simp [bd]
 |succ n ih=>simp only [List.replicate_succ,bd];exact⟨_,_,rfl,h,ih⟩
theorem tz(φ:Map)(v:Value):aA φ (ig v) v:=by unfold ig;split<;>simp [aA]
theorem Eb(φ:Map)(v:Value):aA φ (o3 v) v:=by
 unfold o3;split
 ·rename_i cs;simp only [aA];refine⟨cs,rfl,?_⟩;have:=bd.map (φ:=φ) cs.toList ig id (fun x _=>tz φ x);simpa using this
 ·simp only [aA];exact⟨_,rfl,tz φ _⟩
 ·exact tz φ v
theorem aA.cells{φ:Map}{a:J}{v:Value}(h:aA φ a v)(hu:a≠ .undef):bd φ a.cells v.cells.toList:=by
 cases a with
 |undef=>exact absurd rfl hu
 |agg cs=>simp only [aA]at h;obtain⟨xs,rfl,r⟩:=h;simpa [J.cells,Value.cells]using r
 |bool b=>have h':=h;simp only [aA]at h;subst h;simp only [J.cells,Value.cells,bd];exact⟨_,_,rfl,h',rfl⟩
 |int k n=>have h':=h;simp only [aA]at h;subst h;simp only [J.cells,Value.cells,bd];exact⟨_,_,rfl,h',rfl⟩
 |str s=>have h':=h;simp only [aA]at h;obtain⟨t,rfl,e⟩:=h;simp only [J.cells,Value.cells,bd];exact⟨_,_,rfl,h',rfl⟩
 |ptr o =>
  have h':=h;cases o with
  |none=>simp only [aA]at h;subst h;simp only [J.cells,Value.cells,bd];exact⟨_,_,rfl,h',rfl⟩
  |some x=>simp only [aA]at h;obtain⟨t,rfl,e⟩:=h;simp only [J.cells,Value.cells,bd];exact⟨_,_,rfl,h',rfl⟩
 |slice o l c =>
  have h':=h;cases o with
  |none=>simp only [aA]at h;obtain⟨rfl,_⟩:=h;simp only [J.cells,Value.cells,bd];exact⟨_,_,rfl,h',rfl⟩
  |some x=>simp only [aA]at h;obtain⟨t,eN,rfl,e⟩:=h;simp only [J.cells,Value.cells,bd];exact⟨_,_,rfl,h',rfl⟩
 |func fn f c=>have h':=h;simp only [aA]at h;obtain⟨t,eN,rfl,e⟩:=h;simp only [J.cells,Value.cells,bd];exact⟨_,_,rfl,h',rfl⟩
 |nilFunc=>have h':=h;simp only [aA]at h;subst h;simp only [J.cells,Value.cells,bd];exact⟨_,_,rfl,h',rfl⟩
 |iface t x=>have h':=h;simp only [aA]at h;obtain⟨t,rfl,e⟩:=h;simp only [J.cells,Value.cells,bd];exact⟨_,_,rfl,h',rfl⟩
 |nilIface=>have h':=h;simp only [aA]at h;subst h;simp only [J.cells,Value.cells,bd];exact⟨_,_,rfl,h',rfl⟩
 |tuple vs=>have h':=h;simp only [aA]at h;obtain⟨t,rfl,e⟩:=h;simp only [J.cells,Value.cells,bd];exact⟨_,_,rfl,h',rfl⟩
structure Safe(S:Nat→Prop)(w aN:World):Prop where
 os:aN.os=w.os
 tape:aN.tape=w.tape
 output:aN.output=w.output
 size:w.heap.size≤aN.heap.size
 block:∀k,S k→aN.heap[k]? =w.heap[k]?
def dW(S:Nat→Prop)(n:Nat):Prop:= ∀k,S k→k<n
theorem dW.le{S:Nat→Prop}{n m:Nat}(h:dW S n)(k:n≤m):dW S m:=fun i ac=>Nat.lt_of_lt_of_le (h i ac) k
theorem dW.no{S:Nat→Prop}{n:Nat}(h:dW S n):¬S n:=fun k=>Nat.lt_irrefl _ (h n k)
theorem Safe.refl(S:Nat→Prop)(w:World):Safe S w w:=⟨rfl,rfl,rfl,Nat.le_refl _,fun _ _=>rfl⟩
theorem Safe.trans{S:Nat→Prop}{a b c:World}(h:Safe S a b)(k:Safe S b c):Safe S a c :=
 ⟨k.os.trans h.os,k.tape.trans h.tape,k.output.trans h.output,Nat.le_trans h.size k.size,fun i ac=>(k.block i ac).trans (h.block i ac)⟩
theorem Safe.less{S T:Nat→Prop}{w aN:World}(h:Safe S w aN)(k:∀i,T i→S i):Safe T w aN:=⟨h.os,h.tape,h.output,h.size,fun i ac=>h.block i (k i ac)⟩
theorem Safe.drew{S:Nat→Prop}{a w:World}(h:Safe S a w):Safe S a w.drew:=⟨h.os,h.tape,h.output,h.size,h.block⟩
theorem Safe.alloc{S:Nat→Prop}{a w:World}(h:Safe S a w)(cb:dW S w.heap.size)(o:Obj):Safe S a (w.alloc o) :=
 h.trans ⟨rfl,rfl,rfl,by simp,fun k az=>Go.RowKit.Below.heap_alloc _ _ _ (cb k az)⟩
theorem Safe.setCell{S:Nat→Prop}{a w:World}(h:Safe S a w){p:Addr}(ag:¬S p.block)(u:Value):Safe S a (w.setCell p u) :=
 h.trans ⟨rfl,rfl,rfl,by simp [World.setCell],fun k az=>Go.RowKit.Below.heap_setCell _ _ _ _ (fun e=>ag (e▸az))⟩
theorem Safe.below{n:Nat}{w aN:World}(h:Safe (fun k=>k<n) w aN):Go.RowKit.Below n w aN:=⟨h.os,h.tape,h.output,h.size,h.block⟩
def eF(w:World)(b:Nat):Option (TypeId×Nat×Nat×Nat) :=
 match w.heap[b]? with
 |some (.cells c t (aB,ac))=>some (t,c.size,aB,ac)
 |_=>none
def jS(w:World)(b:Nat):Prop:= ∃t n aB ac,eF w b=some (t,n,aB,ac)∧(aB=ac∨n≤aB)
theorem jS.of_eq{w aN:World}{b:Nat}(h:jS w b)(e:eF aN b=eF w b):jS aN b:=by unfold jS;rw [e];exact h
theorem qp{w aN:World}{b:Nat}(e:aN.heap[b]? =w.heap[b]?):eF aN b=eF w b:=by unfold eF;rw [e]
structure Row(φ:Map)(N0:Nat→Prop)(b:aJ)(v:Nat)(p:Place)(w:World):Prop where
 bD:p.bD<w.heap.size
 base:p.ro=false→ ¬N0 p.bD
 cells:∀o,o<p.tot*p.es→(w.cell? ⟨p.bD,p.off+o,none⟩).isSome=true
 free:b.ro=false→ ∀o,o<p.tot*p.es→w.frozen? ⟨p.bD,p.off+o,none⟩=false
 mark:b.ro=false→jS w p.bD
 hW:∀q,b.ty=some q→ ∃n aB ac,eF w p.bD=some (q.1,n,aB,ac)∧(q.2≠0→n=q.2)∧p.off=0
 cont:∀i e,p.aB≤i→i<b.cj v→b.a'[i]? =some e →
  e.cells.length=p.es∧i-p.aB<p.tot∧∀j br,e.cells[j]? =some br→ ∃x,w.cell? (p.at i j)=some x∧aA φ br x∧x.oneCell'=true
structure ch(φ:Map)(N0:Nat→Prop)(h:I)(w:World):Prop where
 cO:∀i v p,φ i v=some p→i<h.next∧∃b,h.get i=some b∧v≤b.ver∧p.es=b.es∧p.exact=b.exact∧(b.ro=false→p.ro=false)∧0<p.es∧Row φ N0 b v p w
 apart:∀i v p j u q,φ i v=some p→φ j u=some q→p.bD=q.bD→i≠j→p.ro=true∧q.ro=true
 same:∀i v p u q,φ i v=some p→φ i u=some q→p.bD=q.bD→p.off=q.off∧p.aB=q.aB
structure fK(φ cm:Map)(n nid:Nat):Prop where
 le:φ.le cm
 new:∀i,i<n→i≠nid→(∀v,φ i v=none)→ ∀v,cm i v=none
 ro:∀i v p,cm i v=some p→p.ro=true→φ i v=some p
theorem fK.refl(φ:Map)(n nid:Nat):fK φ φ n nid:=⟨φ.le_refl,fun _ _ _ h=>h,fun _ _ _ h _=>h⟩
structure d'(φ cm:Map)(n:Nat):Prop where
 le:φ.le cm
 new:∀i,i<n→(∀u,φ i u=none)→ ∀u,cm i u=none
 ro:∀i v p,cm i v=some p→p.ro=true→φ i v=some p
theorem d'.refl(φ:Map)(n:Nat):d' φ φ n:=⟨φ.le_refl,fun _ _ h=>h,fun _ _ _ h _=>h⟩
theorem d'.trans{φ cm tv:Map}{n:Nat}(h:d' φ cm n)(k:d' cm tv n):d' φ tv n:=⟨Map.le_trans h.le k.le,fun i ac be=>k.new i ac (h.new i ac be),fun i v p ag aC=>h.ro i v p (k.ro i v p ag aC) aC⟩
theorem d'.mono{φ cm:Map}{n m:Nat}(h:d' φ cm n)(hm:m≤n):d' φ cm m:=⟨h.le,fun i ac be=>h.new i (by omega) be,h.ro⟩
theorem I.lA(h:I)(id:Nat)(b:aJ)(j:Nat):(h.set id b).get j=if id=j then some b else h.get j:=aK.lA b h.aj id j
@[simp] theorem I.Kd(h : I)(id : Nat)(b : aJ) : (h.set id b).next = h.next := rfl
theorem I.eG(h:I)(id:Nat)(b:aJ):(h.set id b).get id=some b:=by simp [I.lA]
theorem I.hX(h:I){id j:Nat}(b:aJ)(e:id≠j):(h.set id b).get j=h.get j:=by simp [I.lA,e]
@[simp] theorem I.V4(h : I)(n j : Nat) : ({ h with next := n } : I).get j = h.get j := rfl
theorem aJ.zJ(l:List J)(es:Nat)(e:Bool)(ty:Option (TypeId×Nat))(v:Nat):(aJ.made l es e ty).cj v=if v=0 then l.length else 0:=by
 by_cases a7:v=0
 ·subst a7;simp [aJ.cj,aJ.made]
 ·simp [aJ.cj,aJ.made,a7]
structure Alike(w aN:World):Prop where
 size:w.heap.size≤aN.heap.size
 cell:∀a,a.block<w.heap.size→aN.cell? a=w.cell? a
 frozen:∀a,a.block<w.heap.size→aN.frozen? a=w.frozen? a
 mark:∀b,b<w.heap.size→eF aN b=eF w b
theorem Row.alike{φ:Map}{N0:Nat→Prop}{b:aJ}{v:Nat}{p:Place}{w aN:World}(r:Row φ N0 b v p w)(k:Alike w aN):Row φ N0 b v p aN where
 bD:=Nat.lt_of_lt_of_le r.bD k.size
 base:=r.base
 cells o ap:=by rw [k.cell _ r.bD];exact r.cells o ap
 free aC o ap:=by rw [k.frozen _ r.bD];exact r.free aC o ap
 mark aC:=(r.mark aC).of_eq (k.mark _ r.bD)
 hW t bl:=by rw [k.mark _ r.bD];exact r.hW t bl
 cont i e U ak aP:=by obtain⟨bQ,ct,cL⟩:=r.cont i e U ak aP;refine⟨bQ,ct,fun j br ab=> ?_⟩;obtain⟨x,c3,eH⟩:=cL j br ab;exact⟨x,by rw [k.cell _ (by exact r.bD)];exact c3,eH⟩
theorem Row.mono{φ cm:Map}(h:φ.le cm){N0:Nat→Prop}{b:aJ}{v:Nat}{p:Place}{w:World}(r:Row φ N0 b v p w):Row cm N0 b v p w :=
 ⟨r.bD,r.base,r.cells,r.free,r.mark,r.hW,fun i e U ak aP=>by
  obtain⟨bQ,ct,cL⟩:=r.cont i e U ak aP;refine⟨bQ,ct,fun j br ab=> ?_⟩;obtain⟨x,c3,eH⟩:=cL j br ab
  exact⟨x,c3,eH.1.mono h,eH.2⟩⟩
theorem ch.alike{φ:Map}{N0:Nat→Prop}{h:I}{w aN:World}(r:ch φ N0 h w)(k:Alike w aN):ch φ N0 h aN where
 cO i v p ag:=by obtain⟨U,b,ak,aP,bQ,ct,cL,eT,bZ⟩:=r.cO i v p ag;exact⟨U,b,ak,aP,bQ,ct,cL,eT,bZ.alike k⟩
 apart:=r.apart
 same:=r.same
theorem ch.next{φ:Map}{N0:Nat→Prop}{h:I}{w:World}(r:ch φ N0 h w){n:Nat}(be:h.next≤n):ch φ N0 {h with next:=n} w where
 cO i v p ag:=by obtain⟨U,b,ak,aP,bQ,ct,cL,eT,bZ⟩:=r.cO i v p ag;exact⟨Nat.lt_of_lt_of_le U be,b,ak,aP,bQ,ct,cL,eT,bZ⟩
 apart:=r.apart
 same:=r.same
theorem Alike.drew(w:World)(n:Nat):Alike w {w with drawn:=n} :=⟨Nat.le_refl _,fun _ _=>rfl,fun _ _=>rfl,fun _ _=>rfl⟩
theorem heap_alloc(w:World)(o:Obj):(w.alloc o).heap=w.heap.push o:=rfl
theorem size_alloc(w:World)(o:Obj):(w.alloc o).heap.size=w.heap.size+1:=by rw [heap_alloc];simp
theorem Alike.alloc(w:World)(o:Obj):Alike w (w.alloc o) where
 size:=by rw [size_alloc];omega
 cell a aW:=by
  have:(w.heap.push o)[a.block]? =w.heap[a.block]? :=by rw [Array.getElem?_push];simp;omega
  simp only [World.cell?,heap_alloc,this]
 frozen a aW:=by
  have:(w.heap.push o)[a.block]? =w.heap[a.block]? :=by rw [Array.getElem?_push];simp;omega
  simp only [World.frozen?,heap_alloc,this]
 mark b ao:=qp (by rw [heap_alloc,Array.getElem?_push];simp;omega)
def Map.add(φ:Map)(id:Nat)(v:Nat)(p:Place):Map:=fun i u=>if i=id∧u=v then some p else φ i u
theorem Map.rP(φ:Map)(id v:Nat)(p:Place):φ.add id v p id v=some p:=by simp [Map.add]
theorem Map.pb(φ:Map){id v:Nat}(p:Place)(h:φ id v=none):φ.le (φ.add id v p):=by
 intro i u q aw;simp only [Map.add];split
 ·rename_i e;obtain⟨rfl,rfl⟩:=e;rw [h]at aw;cases aw
 ·exact aw
theorem Map.zK(φ:Map){id v:Nat}(p:Place)(aC:p.ro=false):∀i u q,(φ.add id v p) i u=some q→q.ro=true→φ i u=some q:=by
 intro i u q aw zL;unfold Map.add at aw;split at aw
 ·simp only [Option.some.injEq]at aw;subst aw;rw [aC]at zL;cases zL
 ·exact aw
theorem fK.add(φ:Map){id v:Nat}(p:Place)(h:φ id v=none)(n:Nat)(aC:p.ro=false:=by rfl):fK φ (φ.add id v p) n id where
 le:=φ.pb p h
 new i ac cg be u:=by simp [Map.add,cg,be u]
 ro:=φ.zK p aC
def flat(l:List J):List J:=l.flatMap J.cells
theorem mb{es:Nat} :∀{l:List J}(aF:∀e∈l,e.cells.length=es){i j:Nat}{e x:J},l[i]? =some e→e.cells[j]? =some x→(flat l)[i*es+j]? =some x
 |[],aF,i,j,e,x,h,k=>by simp at h
 |a ::r,aF,i,j,e,x,h,k=>by
  have aW:a.cells.length=es:=aF a (by simp);cases i with
  |zero =>
   simp at h;subst h;simp only [flat,List.flatMap_cons,Nat.zero_mul,Nat.zero_add];rw [List.getElem?_append_left (List.getElem?_eq_some_iff.1 k).1];exact k
  |succ i =>
   simp at h;have ih:=mb (l:=r) (fun e he=>aF e (by simp [he])) h k;simp only [flat,List.flatMap_cons]at ih⊢;rw [List.getElem?_append_right (by rw [aW,Nat.succ_mul];omega),aW,show(i+1)*es+j-es=i*es+j by rw [Nat.succ_mul];omega];exact ih
theorem ko{es:Nat} :∀{l:List J}(aF:∀e∈l,e.cells.length=es),(flat l).length=l.length*es
 |[],_=>by simp [flat]
 |a::r,aF=>by have aW:a.cells.length=es:=aF a (by simp);have ih:=ko (l:=r) (fun e he=>aF e (by simp [he]));simp only [flat,List.flatMap_cons,List.length_append,List.length_cons]at ih⊢;rw [ih,aW,Nat.succ_mul];omega
theorem qq(w:World)(c:Array Value)(t:TypeId)(f:Nat×Nat)(o:Nat):(w.alloc (.cells c t f)).cell? ⟨w.heap.size,o,none⟩=c[o]? :=by simp [World.cell?,heap_alloc]
theorem Ec(w:World)(c:Array Value)(t:TypeId)(o:Nat):(w.alloc (.cells c t)).frozen? ⟨w.heap.size,o,none⟩=false:=by simp [World.frozen?,heap_alloc]
theorem ch.made{φ:Map}{N0:Nat→Prop}{h:I}{w:World}(r:ch φ N0 h w){nid:Nat}(hid:∀v,φ nid v=none)(be:nid<h.next)(bA:dW N0 w.heap.size)
 {l:List J} {es:Nat} (eA:0<es) (aF:∀e∈l,e.cells.length=es) {c:Array Value} {t:TypeId} {tot:Nat} {ex:Bool}
 (ar:bd φ (flat l) (c.toList.take (l.length*es))) (di:tot*es≤c.size) (k6:l.length≤tot) (hD:∀x∈c.toList.take (l.length*es),x.oneCell'=true) {ty:Option (TypeId×Nat)} (hY:∀q,ty=some q→q.1=t∧(q.2≠0→c.size=q.2)) :
 ch (φ.add nid 0 ⟨w.heap.size,0,0,es,tot,ex,false⟩) N0 (h.set nid (.made l es ex ty)) (w.alloc (.cells c t)):=by
 have hle:=φ.pb (id:=nid) (v:=0) ⟨w.heap.size,0,0,es,tot,ex,false⟩ (hid 0);constructor
 ·intro i v p ag;simp only [Map.add]at ag;split at ag
  ·rename_i e;obtain⟨rfl,rfl⟩:=e;simp at ag;subst ag;refine⟨be,.made l es ex ty,I.eG _ _ _,Nat.le_refl _,rfl,rfl,fun _=>rfl,eA,?_⟩;constructor
   ·rw [size_alloc];simp
   ·intro _;exact bA.no
   ·intro o ap;simp only at ap⊢;rw [qq,Nat.zero_add,Array.getElem?_eq_getElem (by omega)];rfl
   ·intro _ o ap;exact Ec _ _ _ _
   ·intro _;exact⟨t,c.size,0,0,by simp [eF,heap_alloc],.inl rfl⟩
   ·intro e1 bl;exact⟨c.size,0,0,by rw [(hY e1 bl).1];simp [eF,heap_alloc],(hY e1 bl).2,rfl⟩
   ·intro i e _ ac he;rw [aJ.zJ]at ac;simp at ac;have iq:l[i]? =some e:=he;have hm:e∈l:=List.mem_of_getElem? iq;refine⟨aF e hm,by simp only;omega,fun j br ab=> ?_⟩;have aS:=mb aF iq ab;obtain⟨x,c3,eH⟩:=ar.get aS;refine⟨x,?_,eH.mono hle,hD x (List.mem_of_getElem? c3)⟩;simp only [Place.at,Nat.sub_zero,Nat.zero_add];rw [qq];rw [List.getElem?_take]at c3;split at c3
    ·simpa using c3
    ·simp at c3
  ·obtain⟨U,b,ak,aP,bQ,ct,cL,eT,bZ⟩:=r.cO i v p ag;have cg:nid≠i:=by intro e;subst e;rw [hid v]at ag;cases ag
   exact⟨U,b,by rw [I.hX _ _ cg];exact ak,aP,bQ,ct,cL,eT,(bZ.alike (Alike.alloc _ _)).mono hle⟩
 ·intro i v p j u q ag aw ao eO;simp only [Map.add]at ag aw;split at ag<;>split at aw
  ·rename_i bo bO;exact absurd (bo.1.trans bO.1.symm) eO
  ·simp at ag;subst ag;obtain⟨_,b,_,_,_,_,_,_,bZ⟩:=r.cO j u q aw;have:=bZ.bD;simp only at ao;omega
  ·simp at aw;subst aw;obtain⟨_,b,_,_,_,_,_,_,bZ⟩:=r.cO i v p ag;have:=bZ.bD;simp only at ao;omega
  ·exact r.apart i v p j u q ag aw ao eO
 ·intro i v p u q ag aw ao;simp only [Map.add]at ag aw;split at ag<;>split at aw
  ·simp at ag aw;subst ag aw;exact⟨rfl,rfl⟩
  ·simp at ag;subst ag;obtain⟨_,b,_,_,_,_,_,_,bZ⟩:=r.cO i u q aw;have:=bZ.bD;simp only at ao;omega
  ·simp at aw;subst aw;obtain⟨_,b,_,_,_,_,_,_,bZ⟩:=r.cO i v p ag;have:=bZ.bD;simp only at ao;omega
  ·exact r.same i v p u q ag aw ao
theorem ch.Ke{φ:Map}{N0:Nat→Prop}{h:I}{w:World}(r:ch φ N0 h w){nid:Nat}(hid:∀v,φ nid v=none)(be:nid<h.next)(bA:dW N0 w.heap.size)
 {l:List J} {es:Nat} (eA:0<es) (aF:∀e∈l,e.cells.length=es) {c:Array Value} {t:TypeId} {aI:Nat×Nat} {tot:Nat} {ex:Bool}
 (ar:bd φ (flat l) (c.toList.take (l.length*es))) (di:tot*es≤c.size) (k6:l.length≤tot) (hD:∀x∈c.toList.take (l.length*es),x.oneCell'=true) (Ed:aI.1=aI.2∨c.size≤aI.1) {ty:Option (TypeId×Nat)} (hY:∀q,ty=some q→q.1=t∧(q.2≠0→c.size=q.2)) :
 ch (φ.add nid 0 ⟨w.heap.size,0,0,es,tot,ex,false⟩) N0 (h.set nid (.made l es ex ty)) (w.alloc (.cells c t aI)):=by
 have hle:=φ.pb (id:=nid) (v:=0) ⟨w.heap.size,0,0,es,tot,ex,false⟩ (hid 0);constructor
 ·intro i v p ag;simp only [Map.add]at ag;split at ag
  ·rename_i e;obtain⟨rfl,rfl⟩:=e;simp at ag;subst ag;refine⟨be,.made l es ex ty,I.eG _ _ _,Nat.le_refl _,rfl,rfl,fun _=>rfl,eA,?_⟩;constructor
   ·rw [size_alloc];simp
   ·intro _;exact bA.no
   ·intro o ap;simp only at ap⊢;rw [qq,Nat.zero_add,Array.getElem?_eq_getElem (by omega)];rfl
   ·intro _ o ap;simp only at ap⊢;rw [Nat.zero_add];simp only [World.frozen?,heap_alloc,Array.getElem?_push_size];obtain⟨f1,f2⟩:=aI;simp only at Ed⊢;simp;omega
   ·intro _;exact⟨t,c.size,aI.1,aI.2,by simp [eF,heap_alloc],Ed⟩
   ·intro e1 bl;exact⟨c.size,aI.1,aI.2,by rw [(hY e1 bl).1];simp [eF,heap_alloc],(hY e1 bl).2,rfl⟩
   ·intro i e _ ac he;rw [aJ.zJ]at ac;simp at ac;have iq:l[i]? =some e:=he;have hm:e∈l:=List.mem_of_getElem? iq;refine⟨aF e hm,by simp only;omega,fun j br ab=> ?_⟩;have aS:=mb aF iq ab;obtain⟨x,c3,eH⟩:=ar.get aS;refine⟨x,?_,eH.mono hle,hD x (List.mem_of_getElem? c3)⟩;simp only [Place.at,Nat.sub_zero,Nat.zero_add];rw [qq];rw [List.getElem?_take]at c3;split at c3
    ·simpa using c3
    ·simp at c3
  ·obtain⟨U,b,ak,aP,bQ,ct,cL,eT,bZ⟩:=r.cO i v p ag;have cg:nid≠i:=by intro e;subst e;rw [hid v]at ag;cases ag
   exact⟨U,b,by rw [I.hX _ _ cg];exact ak,aP,bQ,ct,cL,eT,(bZ.alike (Alike.alloc _ _)).mono hle⟩
 ·intro i v p j u q ag aw ao eO;simp only [Map.add]at ag aw;split at ag<;>split at aw
  ·rename_i bo bO;exact absurd (bo.1.trans bO.1.symm) eO
  ·simp at ag;subst ag;obtain⟨_,b,_,_,_,_,_,_,bZ⟩:=r.cO j u q aw;have:=bZ.bD;simp only at ao;omega
  ·simp at aw;subst aw;obtain⟨_,b,_,_,_,_,_,_,bZ⟩:=r.cO i v p ag;have:=bZ.bD;simp only at ao;omega
  ·exact r.apart i v p j u q ag aw ao eO
 ·intro i v p u q ag aw ao;simp only [Map.add]at ag aw;split at ag<;>split at aw
  ·simp at ag aw;subst ag aw;exact⟨rfl,rfl⟩
  ·simp at ag;subst ag;obtain⟨_,b,_,_,_,_,_,_,bZ⟩:=r.cO i u q aw;have:=bZ.bD;simp only at ao;omega
  ·simp at aw;subst aw;obtain⟨_,b,_,_,_,_,_,_,bZ⟩:=r.cO i v p ag;have:=bZ.bD;simp only at ao;omega
  ·exact r.same i v p u q ag aw ao
end
end Go.ba
namespace Go.ba
noncomputable section
theorem wI:∀(vs l:List J)(i:Nat),(hf l i vs).length=l.length
 |[],l,i=>rfl
 |v::vs,l,i=>by simp [hf,wI vs]
theorem rQ:∀(vs l:List J)(i k:Nat),(hf l i vs)[k]? =if i≤k∧k<i+vs.length∧k<l.length then vs[k-i]? else l[k]?
 |[],l,i,k=>by simp only [hf,List.length_nil,Nat.add_zero];rw [if_neg (by omega)]
 |v ::vs,l,i,k=>by
  simp only [hf,List.length_cons];rw [rQ vs (l.set i v) (i+1) k,List.length_set];by_cases az:i=k
  ·subst az;rw [if_neg (by omega)];by_cases aF:i<l.length
   ·rw [if_pos (by omega),List.getElem?_set_self aF];simp
   ·rw [if_neg (by omega),List.getElem?_eq_none (by simpa using aF),List.getElem?_eq_none (by omega)]
  ·rw [List.getElem?_set_ne az];by_cases h:i+1≤k∧k<i+1+vs.length∧k<l.length
   ·rw [if_pos h,if_pos (by omega),show k-i=k- (i+1)+1 by omega];simp
   ·rw [if_neg h,if_neg (by omega)]
theorem World.zM(b:Nat):∀(vs:List Value)(o:Nat)(w:World),(w.setCells b o vs).heap.size=w.heap.size
 |[],_,_=>rfl
 |v::r,o,w=>by rw [World.setCells,World.zM b r];exact World.size_setCell _ _ _
theorem Ee(w:World)(a:Addr)(v:Value)(k:Nat):eF (w.setCell a v) k=eF w k:=by
 unfold eF World.setCell;simp only [Array.getElem?_modify];by_cases h:a.block=k
 ·subst h;simp only [if_true];cases ck:w.heap[a.block]? with
  |none=>rfl
  |some o =>
   cases o
   case cells c t f =>
    obtain⟨aB,ac⟩:=f;simp only [Option.map_some];split<;>simp
   all_goals rfl
 ·rw [if_neg h]
theorem jS.setCells{w:World}{k:Nat}(h:jS w k)(b o:Nat):∀(vs:List Value),jS (w.setCells b o vs) k:=by
 intro vs;induction vs generalizing w o with
 |nil=>exact h
 |cons v r ih=>exact ih (h.of_eq (Ee _ _ _ _)) _
theorem tA{w:World}(k b o:Nat):∀(vs:List Value),eF (w.setCells b o vs) k=eF w k:=by
 intro vs;induction vs generalizing w o with
 |nil=>rfl
 |cons v r ih=>exact(ih _).trans (Ee _ _ _ _)
theorem wJ{i j es tot:Nat}(ac:i<tot)(ay:j<es):i*es+j<tot*es:=by have h:(i+1)*es≤tot*es:=Nat.mul_le_mul_right es ac;rw [Nat.succ_mul]at h;omega
theorem rR{i k j es:Nat}(ac:i<k)(ay:j<es):i*es+j<k*es:=wJ ac ay
theorem ch.wrote{φ:Map}{N0:Nat→Prop}{h:I}{w:World}(r:ch φ N0 h w){id:Nat}{b:aJ}{p:Place}(ag:φ id b.ver=some p)(ao:h.get id=some b)
 (dD:b.ro=false) {l:List J} (aF:l.length=b.a'.length) {o:Nat} {vs:List Value}
 (ar:∀i e,p.aB≤i→l[i]? =some e→e.cells.length=p.es∧∀j br,e.cells[j]? =some br→ ∃x,(w.setCells p.bD o vs).cell? (p.at i j)=some x∧aA φ br x∧x.oneCell'=true) :
 ch φ N0 (h.set id {b with a':=l,eD:=b.ver}) (w.setCells p.bD o vs):=by
 constructor
 ·intro i v q aw;obtain⟨U,c,ak,aP,bQ,ct,cL,eT,bZ⟩:=r.cO i v q aw;have di:=World.zM p.bD vs o w;by_cases ac:i=id
  ·subst ac;rw [ao]at ak;simp at ak;subst ak;refine⟨U,_,I.eG _ _ _,aP,bQ,ct,cL,eT,⟨by rw [di];exact bZ.bD,bZ.base,fun hE hF=>World.isSome_setCells _ _ _ _ _ (bZ.cells hE hF),fun eB hE hF=>by rw [World.frozen?_setCells];exact bZ.free eB hE hF,fun eB=>(bZ.mark eB).setCells _ _ _,fun t9 eB=>by rw [tA];exact bZ.hW t9 eB,?_⟩⟩;intro k e fL fM kp;simp only [aJ.cj]at fM;by_cases a7:v=b.ver
   ·subst a7;rw [ag]at aw;simp at aw;subst aw;rw [if_pos rfl]at fM;obtain⟨e',iq⟩:∃e',b.a'[k]? =some e':=⟨_,List.getElem?_eq_getElem (by simpa [aF]using fM)⟩
    have:=bZ.cont k e' fL (by simpa [aJ.cj,aF]using fM) iq;exact⟨(ar k e fL kp).1,this.2.1,(ar k e fL kp).2⟩
   ·exfalso;rw [if_neg a7]at fM;rw [if_neg (by omega)]at fM;omega
  ·have cg:p.bD≠q.bD:=by intro e;have:=r.apart id b.ver p i v q ag aw e (fun e=>ac e.symm);obtain⟨_,fZ,zN,_,_,_,Kf,_,_⟩:=r.cO id b.ver p ag;rw [ao]at zN;simp at zN;subst zN;rw [Kf dD]at this;simp at this
   refine⟨U,c,by rw [I.hX _ _ (fun e=>ac e.symm)];exact ak,aP,bQ,ct,cL,eT,?_⟩;have jw:∀a:Addr,a.block=q.bD→(w.setCells p.bD o vs).cell? a=w.cell? a:=fun a aW=>World.cell?_setCells_out _ _ _ _ _ (fun ck _=>absurd (ck.symm.trans aW) cg)
   refine⟨by rw [di];exact bZ.bD,bZ.base,fun hE hF=>by rw [jw _ rfl];exact bZ.cells hE hF,fun eB hE hF=>by rw [World.frozen?_setCells];exact bZ.free eB hE hF,fun eB=>(bZ.mark eB).setCells _ _ _,fun t9 eB=>by rw [tA];exact bZ.hW t9 eB,?_⟩;intro k e fL fM kp;obtain⟨tB,zO,zP⟩:=bZ.cont k e fL fM kp;refine⟨tB,zO,fun j br ab=> ?_⟩;obtain⟨x,c3,eH⟩:=zP j br ab;exact⟨x,by rw [jw _ rfl];exact c3,eH⟩
 ·exact r.apart
 ·exact r.same
theorem ch.store{φ:Map}{N0:Nat→Prop}{h:I}{w:World}(r:ch φ N0 h w){id:Nat}{b:aJ}{p:Place}(ag:φ id b.ver=some p)(ao:h.get id=some b)
 (dD:b.ro=false) {idx fld:Nat} {e e':J} {cs:List J} {vs:List Value} (dK:p.aB≤idx) (he:b.a'[idx]? =some e)
 (cP:bd φ cs vs) (hD:∀x∈vs,x.oneCell'=true) (me:fld+cs.length≤p.es) (hlen:e'.cells=hf e.cells fld cs) :
 ch φ N0 (h.set id {b with a':=b.a'.set idx e',eD:=b.ver}) (w.setCells p.bD (p.off+(idx-p.aB)*p.es+fld) vs)
 ∧w.there p.bD (p.off+(idx-p.aB)*p.es+fld) vs.length:=by
 obtain⟨U,c,ak,aP,bQ,ct,cL,eT,bZ⟩:=r.cO id b.ver p ag;rw [ao]at ak;simp at ak;subst ak;have qt:idx<b.a'.length:=(List.getElem?_eq_some_iff.1 he).1;have jx:b.cj b.ver=b.a'.length:=by simp [aJ.cj]
 obtain⟨bU,b8,dj⟩:=bZ.cont idx e dK (by rw [jx];exact qt) he;have kq:vs.length=cs.length:=cP.length
 have pc:w.there p.bD (p.off+(idx-p.aB)*p.es+fld) vs.length:=by
  intro j ay;have ao:(idx-p.aB)*p.es+(fld+j)<p.tot*p.es:=wJ b8 (by omega);have k1:=bZ.cells _ ao;have k2:=bZ.free dD _ ao;have bo:p.off+(idx-p.aB)*p.es+fld+j=p.off+((idx-p.aB)*p.es+(fld+j)):=by omega
  rw [bo];exact⟨k1,k2⟩
 refine⟨?_,pc⟩;refine r.wrote ag ao dD (by simp) fun i f ac aS=> ?_
 by_cases Ef:idx=i
 ·subst Ef;rw [List.getElem?_set_self qt]at aS;simp at aS;subst aS;refine⟨by rw [hlen,wI];exact bU,fun j br ab=> ?_⟩;rw [hlen,rQ]at ab;split at ab
  ·rename_i ar;obtain⟨x,c3,eH⟩:=cP.get ab;have pd:j-fld<vs.length:=by omega
   have:=World.cell?_setCells_in p.bD vs (p.off+(idx-p.aB)*p.es+fld) w (fun k az=>(pc k az).1) (j-fld) pd;refine⟨x,?_,eH,hD x (List.mem_of_getElem? c3)⟩;rw [List.getElem?_eq_getElem pd]at c3;simp at c3;rw [Place.at,show p.off+(idx-p.aB)*p.es+j=p.off+(idx-p.aB)*p.es+fld+(j-fld)by omega,this,c3]
  ·rename_i ar;obtain⟨x,c3,eH⟩:=dj j br ab;refine⟨x,?_,eH⟩;have ay:j<e.cells.length:=(List.getElem?_eq_some_iff.1 ab).1;rw [World.cell?_setCells_out _ _ _ _ _ (fun _ _=> ?_)]
   ·exact c3
   ·simp only [Place.at];omega
 ·rw [List.getElem?_set_ne Ef]at aS;have du:i<b.a'.length:=(List.getElem?_eq_some_iff.1 aS).1;obtain⟨d1,d2,d3⟩:=bZ.cont i f ac (by rw [jx];exact du) aS;refine⟨d1,fun j br ab=> ?_⟩;obtain⟨x,c3,eH⟩:=d3 j br ab;refine⟨x,?_,eH⟩;have ay:j<f.cells.length:=(List.getElem?_eq_some_iff.1 ab).1;rw [World.cell?_setCells_out _ _ _ _ _ (fun _ _=> ?_)]
  ·exact c3
  ·simp only [Place.at];rcases Nat.lt_or_ge i idx with bH|hh
   ·left;have:=rR (i:=i-p.aB) (k:=idx-p.aB) (j:=j) (es:=p.es) (by omega) (by omega);omega
   ·right;have:=rR (i:=idx-p.aB) (k:=i-p.aB) (j:=fld+vs.length-1) (es:=p.es) (by omega) (by omega);omega
theorem wK{es:Nat} :∀{l:List J}(aF:∀e∈l,e.cells.length=es)(k:Nat),k<(flat l).length→ ∃i j e,k=i*es+j∧l[i]? =some e∧j<es
 |[],aF,k,h=>by simp [flat]at h
 |a ::r,aF,k,h=>by
  have aW:a.cells.length=es:=aF a (by simp);by_cases az:k<es
  ·exact⟨0,k,a,by simp,by simp,az⟩
  ·obtain⟨i,j,e,U,ak,aP⟩:=wK (l:=r) (fun e he=>aF e (by simp [he])) (k-es) (by simp only [flat,List.flatMap_cons,List.length_append]at h⊢; omega);exact⟨i+1,j,e,by rw [Nat.succ_mul];omega,by simpa using ak,aP⟩
theorem ch.Eg{φ:Map}{N0:Nat→Prop}{h:I}{w:World}(r:ch φ N0 h w){id:Nat}{b:aJ}{p:Place}(ag:φ id b.ver=some p)(ao:h.get id=some b)
 (dD:b.ro=false) {idx:Nat} {l:List J} {vs:List Value} (dK:p.aB≤idx) (bH:idx+l.length≤b.a'.length) (cg:l≠[])
 (aF:∀e∈l,e.cells.length=p.es) (qu:bd φ (flat l) vs) (hD:∀x∈vs,x.oneCell'=true) :
 ch φ N0 (h.set id (b.put idx l)) (w.setCells p.bD (p.off+(idx-p.aB)*p.es) vs)
 ∧w.there p.bD (p.off+(idx-p.aB)*p.es) vs.length:=by
 obtain⟨U,c,ak,aP,bQ,ct,cL,eT,bZ⟩:=r.cO id b.ver p ag;rw [ao]at ak;simp at ak;subst ak;have jx:b.cj b.ver=b.a'.length:=by simp [aJ.cj]
 have kq:vs.length=l.length*p.es:=by rw [qu.length,ko aF]
 have pe:0<l.length:=List.length_pos_iff.2 cg
 have V5:idx+l.length-1-p.aB<p.tot:=by
  have n8:idx+l.length-1<b.a'.length:=by omega
  exact(bZ.cont (idx+l.length-1) _ (by omega) (by rw [jx];exact n8) (List.getElem?_eq_getElem n8)).2.1
 have hmul:(idx-p.aB+l.length)*p.es≤p.tot*p.es:=Nat.mul_le_mul_right _ (by omega);rw [Nat.add_mul]at hmul
 have pc:w.there p.bD (p.off+(idx-p.aB)*p.es) vs.length:=by
  intro j ay;have ao:(idx-p.aB)*p.es+j<p.tot*p.es:=by omega
  have bo:p.off+(idx-p.aB)*p.es+j=p.off+((idx-p.aB)*p.es+j):=by omega
  rw [bo];exact⟨bZ.cells _ ao,bZ.free dD _ ao⟩
 refine⟨?_,pc⟩;refine r.wrote ag ao dD (by simp [wI]) fun i f ac aS=> ?_
 rw [rQ]at aS;split at aS
 ·rename_i ar;have hm:f∈l:=List.mem_of_getElem? aS;refine⟨aF f hm,fun j br ab=> ?_⟩;have ay:j<p.es:=by rw [←aF f hm];exact(List.getElem?_eq_some_iff.1 ab).1
  have an:=mb aF aS ab;obtain⟨x,c3,eH⟩:=qu.get an;refine⟨x,?_,eH,hD x (List.mem_of_getElem? c3)⟩;have pd:(i-idx)*p.es+j<vs.length:=by rw [kq];exact wJ (by omega) ay
  have:=World.cell?_setCells_in p.bD vs (p.off+(idx-p.aB)*p.es) w (fun k az=>(pc k az).1) _ pd;rw [List.getElem?_eq_getElem pd]at c3;simp at c3;have bO:(i-p.aB)*p.es=(idx-p.aB)*p.es+(i-idx)*p.es:=by rw [←Nat.add_mul];congr 1;omega
  rw [Place.at,show p.off+(i-p.aB)*p.es+j=p.off+(idx-p.aB)*p.es+((i-idx)*p.es+j)by omega,this,c3]
 ·rename_i ar;have du:i<b.a'.length:=(List.getElem?_eq_some_iff.1 aS).1;obtain⟨d1,d2,d3⟩:=bZ.cont i f ac (by rw [jx];exact du) aS;refine⟨d1,fun j br ab=> ?_⟩;obtain⟨x,c3,eH⟩:=d3 j br ab;refine⟨x,?_,eH⟩;have ay:j<f.cells.length:=(List.getElem?_eq_some_iff.1 ab).1;rw [World.cell?_setCells_out _ _ _ _ _ (fun _ _=> ?_)]
  ·exact c3
  ·simp only [Place.at];rcases Nat.lt_or_ge i idx with bH|hh
   ·left;have:=rR (i:=i-p.aB) (k:=idx-p.aB) (j:=j) (es:=p.es) (by omega) (by omega);omega
   ·right;have:=Nat.mul_le_mul_right p.es (show idx-p.aB+l.length≤i-p.aB by omega);rw [Nat.add_mul]at this;omega
theorem aJ.Eh(b:aJ)(new:List J)(v:Nat):(b.grow new).cj v =
 if v=b.ver+1 then b.a'.length+new.length else if b.eD≤v∧v<b.ver+1 then(if b.eD=b.ver then b.a'.length else min b.hU b.a'.length)else 0:=by
 rw [←List.length_append];rfl
theorem aJ.Ei(b:aJ)(new:List J)(v:Nat)(h:v≤b.ver):(b.grow new).cj v≤b.cj v∧(b.grow new).cj v≤b.a'.length:=by rw [aJ.Eh];unfold aJ.cj;rw [if_neg (by omega)];constructor<;>(repeat' split)<;>omega
theorem aJ.Ej(b:aJ)(new:List J):(b.grow new).cj (b.ver+1)=b.a'.length+new.length:=by rw [aJ.Eh,if_pos rfl]
theorem ch.Kg{φ:Map}{N0:Nat→Prop}{h:I}{w:World}(r:ch φ N0 h w){id:Nat}{b:aJ}{p:Place}(ag:φ id b.ver=some p)(ao:h.get id=some b)
 (dD:b.ro=false) (hex:b.exact=false) (bA:dW N0 w.heap.size) {idx:Nat} {new:List J} (qt:idx≤b.a'.length)
 (hold:∀e∈b.a'.drop idx,e.cells.length=b.es) (fg:∀e∈new,e.cells.length=b.es)
 {c:Array Value} {t:TypeId} {tot:Nat} (ar:bd φ (flat (b.a'.drop idx++new)) (c.toList.take ((b.a'.drop idx++new).length*b.es)))
 (di:tot*b.es≤c.size) (k6:(b.a'.drop idx++new).length≤tot)
 (hD:∀x∈c.toList.take ((b.a'.drop idx++new).length*b.es),x.oneCell'=true) (hY:∀q,b.ty=some q→q.1=t∧(q.2≠0→c.size=q.2)) :
 ch (φ.add id (b.ver+1) ⟨w.heap.size,0,idx,b.es,tot,false,false⟩) N0 (h.set id (b.grow new)) (w.alloc (.cells c t)):=by
 have jT:φ id (b.ver+1)=none:=by
  cases aw:φ id (b.ver+1)with
  |none=>rfl
  |some q=>obtain⟨_,fZ,ak,aP,_⟩:=r.cO _ _ _ aw;rw [ao]at ak;simp at ak;subst ak;omega
 have hle:=φ.pb (id:=id) (v:=b.ver+1) ⟨w.heap.size,0,idx,b.es,tot,false,false⟩ jT;obtain⟨g1,fZ,g2,g3,g4,g5,g6,g7,g8⟩:=r.cO id b.ver p ag;rw [ao]at g2;simp at g2;subst g2;constructor
 ·intro i v q aw;simp only [Map.add]at aw;split at aw
  ·rename_i e;obtain⟨rfl,rfl⟩:=e;simp at aw;subst aw;refine⟨g1,b.grow new,I.eG _ _ _,Nat.le_refl _,rfl,hex.symm,fun _=>rfl,by rw [←g4];exact g7,?_⟩;constructor
   ·rw [size_alloc];simp
   ·intro _;exact bA.no
   ·intro o ap;simp only at ap⊢;rw [qq,Nat.zero_add,Array.getElem?_eq_getElem (by omega)];rfl
   ·intro _ o ap;exact Ec _ _ _ _
   ·intro _;exact⟨t,c.size,0,0,by simp [eF,heap_alloc],.inl rfl⟩
   ·intro e1 bl;exact⟨c.size,0,0,by rw [(hY e1 bl).1];simp [eF,heap_alloc],(hY e1 bl).2,rfl⟩
   ·intro k e fL fM kp;rw [aJ.Ej]at fM;have hlen:(b.a'.drop idx++new).length=b.a'.length-idx+new.length:=by simp
    have gu:∀e∈b.a'.drop idx++new,e.cells.length=b.es:=fun e he=>by
     rcases List.mem_append.1 he with he|he
     ·exact hold e he
     ·exact fg e he
    have jy:(b.a'++new)[k]? =some e:=kp
    have Ek:(b.a'.drop idx++new)[k-idx]? =some e:=by
     simp only at fL;by_cases k7:k<b.a'.length
     ·rw [List.getElem?_append_left k7]at jy;rw [List.getElem?_append_left (by simp;omega),List.getElem?_drop,show idx+(k-idx)=k by omega];exact jy
     ·rw [List.getElem?_append_right (by omega)]at jy;rw [List.getElem?_append_right (by simp;omega),List.length_drop,show k-idx- (b.a'.length-idx)=k-b.a'.length by omega];exact jy
    have hm:=List.mem_of_getElem? Ek;refine⟨gu e hm,by simp only at fL⊢; omega,fun j br ab=> ?_⟩;have aS:=mb gu Ek ab;obtain⟨x,c3,eH⟩:=ar.get aS;refine⟨x,?_,eH.mono hle,hD x (List.mem_of_getElem? c3)⟩;simp only [Place.at,Nat.zero_add];rw [qq];rw [List.getElem?_take]at c3;split at c3
    ·simpa using c3
    ·simp at c3
  ·obtain⟨U,eN,ak,aP,bQ,ct,cL,eT,bZ⟩:=r.cO i v q aw;by_cases ac:i=id
   ·subst ac;rw [ao]at ak;simp at ak;subst ak;have qv:=(bZ.alike (Alike.alloc w (.cells c t))).mono hle;have jx:=aJ.Ei b new v aP;refine⟨U,b.grow new,I.eG _ _ _,by simp only [aJ.grow];omega,bQ,ct,cL,eT,⟨qv.bD,qv.base,qv.cells,qv.free,qv.mark,qv.hW,fun k e fL fM kp=>qv.cont k e fL (by omega) ?_⟩⟩;have jy:(b.a'++new)[k]? =some e:=kp
    rwa [List.getElem?_append_left (by omega)]at jy
   ·exact⟨U,eN,by rw [I.hX _ _ (fun e=>ac e.symm)];exact ak,aP,bQ,ct,cL,eT,(bZ.alike (Alike.alloc _ _)).mono hle⟩
 ·intro i v q j u kr aw dN hi eO;simp only [Map.add]at aw dN;split at aw<;>split at dN
  ·rename_i bo bO;exact absurd (bo.1.trans bO.1.symm) eO
  ·simp at aw;subst aw;obtain⟨_,_,_,_,_,_,_,_,bZ⟩:=r.cO j u kr dN;have:=bZ.bD;simp only at hi;omega
  ·simp at dN;subst dN;obtain⟨_,_,_,_,_,_,_,_,bZ⟩:=r.cO i v q aw;have:=bZ.bD;simp only at hi;omega
  ·exact r.apart i v q j u kr aw dN hi eO
 ·intro i v q u kr aw dN hi;simp only [Map.add]at aw dN;split at aw<;>split at dN
  ·simp at aw dN;subst aw dN;exact⟨rfl,rfl⟩
  ·simp at aw;subst aw;obtain⟨_,_,_,_,_,_,_,_,bZ⟩:=r.cO i u kr dN;have:=bZ.bD;simp only at hi;omega
  ·simp at dN;subst dN;obtain⟨_,_,_,_,_,_,_,_,bZ⟩:=r.cO i v q aw;have:=bZ.bD;simp only at hi;omega
  ·exact r.same i v q u kr aw dN hi
theorem ch.Kh{φ:Map}{N0:Nat→Prop}{h:I}{w:World}(r:ch φ N0 h w){id:Nat}{b:aJ}{p:Place}(ag:φ id b.ver=some p)(ao:h.get id=some b)
 (dD:b.ro=false) {new:List J} {vs:List Value} (dK:p.aB≤b.a'.length) (nj:b.a'.length-p.aB+new.length≤p.tot)
 (fg:∀e∈new,e.cells.length=p.es) (qu:bd φ (flat new) vs) (hD:∀x∈vs,x.oneCell'=true) :
 ch (φ.add id (b.ver+1) p) N0 (h.set id (b.grow new)) (w.setCells p.bD (p.off+(b.a'.length-p.aB)*p.es) vs)
 ∧w.there p.bD (p.off+(b.a'.length-p.aB)*p.es) vs.length:=by
 have jT:φ id (b.ver+1)=none:=by
  cases aw:φ id (b.ver+1)with
  |none=>rfl
  |some q=>obtain⟨_,fZ,ak,aP,_⟩:=r.cO _ _ _ aw;rw [ao]at ak;simp at ak;subst ak;omega
 have hle:=φ.pb (id:=id) (v:=b.ver+1) p jT;obtain⟨g1,fZ,g2,g3,g4,g5,g6,g7,g8⟩:=r.cO id b.ver p ag;rw [ao]at g2;simp at g2;subst g2;have kq:vs.length=new.length*p.es:=by rw [qu.length,ko fg]
 have hmul:(b.a'.length-p.aB+new.length)*p.es≤p.tot*p.es:=Nat.mul_le_mul_right _ nj;rw [Nat.add_mul]at hmul
 have pc:w.there p.bD (p.off+(b.a'.length-p.aB)*p.es) vs.length:=by
  intro j ay;have ao:(b.a'.length-p.aB)*p.es+j<p.tot*p.es:=by omega
  have bo:p.off+(b.a'.length-p.aB)*p.es+j=p.off+((b.a'.length-p.aB)*p.es+j):=by omega
  rw [bo];exact⟨g8.cells _ ao,g8.free dD _ ao⟩
 refine⟨?_,pc⟩;have di:=World.zM p.bD vs (p.off+(b.a'.length-p.aB)*p.es) w
 have El:∀(q:Place)(k j:Nat),q.bD=p.bD→q.off=p.off→q.aB=p.aB→q.es=p.es→k<b.a'.length→q.aB≤k→j<q.es →
  (w.setCells p.bD (p.off+(b.a'.length-p.aB)*p.es) vs).cell? (q.at k j)=w.cell? (q.at k j):=by
  intro q k j Em Ki Kj Kk fL fM ay;refine World.cell?_setCells_out _ _ _ _ _ (fun _ _=> .inl ?_);simp only [Place.at,Ki,Kj,Kk];have:=rR (i:=k-p.aB) (k:=b.a'.length-p.aB) (j:=j) (es:=p.es) (by omega) (by omega);omega
 have Kl:b.cj b.ver=b.a'.length:=by simp [aJ.cj]
 constructor
 ·intro i v q aw;simp only [Map.add]at aw;split at aw
  ·rename_i e;obtain⟨rfl,rfl⟩:=e;simp at aw;subst aw;refine⟨g1,b.grow new,I.eG _ _ _,Nat.le_refl _,g4,g5,g6,g7,⟨by rw [di];exact g8.bD,g8.base,fun hE hF=>World.isSome_setCells _ _ _ _ _ (g8.cells hE hF),fun eB hE hF=>by rw [World.frozen?_setCells];exact g8.free eB hE hF,fun eB=>(g8.mark eB).setCells _ _ _,fun t9 eB=>by rw [tA];exact g8.hW t9 eB,?_⟩⟩;intro k e fL fM kp;rw [aJ.Ej]at fM;have jy:(b.a'++new)[k]? =some e:=kp;by_cases k7:k<b.a'.length
   ·rw [List.getElem?_append_left k7]at jy;obtain⟨d1,d2,d3⟩:=g8.cont k e fL (by rw [Kl];exact k7) jy;refine⟨d1,d2,fun j br ab=> ?_⟩;obtain⟨x,c3,eH⟩:=d3 j br ab;have ay:j<e.cells.length:=(List.getElem?_eq_some_iff.1 ab).1;exact⟨x,by rw [El p k j rfl rfl rfl rfl k7 fL (by omega)];exact c3,eH.1.mono hle,eH.2⟩
   ·rw [List.getElem?_append_right (by omega)]at jy;have hm:=List.mem_of_getElem? jy;refine⟨fg e hm,by omega,fun j br ab=> ?_⟩;have ay:j<p.es:=by rw [←fg e hm];exact(List.getElem?_eq_some_iff.1 ab).1
    have an:=mb fg jy ab;obtain⟨x,c3,eH⟩:=qu.get an;refine⟨x,?_,eH.mono hle,hD x (List.mem_of_getElem? c3)⟩;have pd:(k-b.a'.length)*p.es+j<vs.length:=by rw [kq];exact wJ (by have:=(List.getElem?_eq_some_iff.1 jy).1;omega) ay
    have:=World.cell?_setCells_in p.bD vs (p.off+(b.a'.length-p.aB)*p.es) w (fun k az=>(pc k az).1) _ pd;rw [List.getElem?_eq_getElem pd]at c3;simp at c3;have bO:(k-p.aB)*p.es=(b.a'.length-p.aB)*p.es+(k-b.a'.length)*p.es:=by rw [←Nat.add_mul];congr 1;omega
    rw [Place.at,show p.off+(k-p.aB)*p.es+j=p.off+(b.a'.length-p.aB)*p.es+((k-b.a'.length)*p.es+j)by omega,this,c3]
  ·obtain⟨U,eN,ak,aP,bQ,ct,cL,eT,bZ⟩:=r.cO i v q aw;by_cases ac:i=id
   ·subst ac;rw [ao]at ak;simp at ak;subst ak;have jx:=aJ.Ei b new v aP;refine⟨U,b.grow new,I.eG _ _ _,by simp only [aJ.grow];omega,bQ,ct,cL,eT,⟨by rw [di];exact bZ.bD,bZ.base,fun hE hF=>World.isSome_setCells _ _ _ _ _ (bZ.cells hE hF),fun eB hE hF=>by rw [World.frozen?_setCells];exact bZ.free eB hE hF,fun eB=>(bZ.mark eB).setCells _ _ _,fun t9 eB=>by rw [tA];exact bZ.hW t9 eB,fun k e fL fM kp=> ?_⟩⟩;have jy:(b.a'++new)[k]? =some e:=kp;rw [List.getElem?_append_left (by omega)]at jy;obtain⟨d1,d2,d3⟩:=bZ.cont k e fL (by omega) jy;refine⟨d1,d2,fun j br ab=> ?_⟩;obtain⟨x,c3,eH⟩:=d3 j br ab;have ay:j<e.cells.length:=(List.getElem?_eq_some_iff.1 ab).1;refine⟨x,?_,eH.1.mono hle,eH.2⟩;by_cases zQ:q.bD=p.bD
    ·obtain⟨s1,s2⟩:=r.same i v q b.ver p aw ag zQ;rw [El q k j zQ s1 s2 (by rw [bQ,g4]) (by omega) fL (by omega)];exact c3
    ·rw [World.cell?_setCells_out _ _ _ _ _ (fun ck _=>absurd ck (by simp only [Place.at];exact zQ))];exact c3
   ·have cg:p.bD≠q.bD:=by intro e;have:=r.apart id b.ver p i v q ag aw e (fun e=>ac e.symm);rw [g6 dD]at this;simp at this
    have jw:∀a:Addr,a.block=q.bD→(w.setCells p.bD (p.off+(b.a'.length-p.aB)*p.es) vs).cell? a=w.cell? a:=fun a aW=>World.cell?_setCells_out _ _ _ _ _ (fun ck _=>absurd (ck.symm.trans aW) cg)
    refine⟨U,eN,by rw [I.hX _ _ (fun e=>ac e.symm)];exact ak,aP,bQ,ct,cL,eT,?_⟩;refine⟨by rw [di];exact bZ.bD,bZ.base,fun hE hF=>by rw [jw _ rfl];exact bZ.cells hE hF,fun eB hE hF=>by rw [World.frozen?_setCells];exact bZ.free eB hE hF,fun eB=>(bZ.mark eB).setCells _ _ _,fun t9 eB=>by rw [tA];exact bZ.hW t9 eB,?_⟩;intro k e fL fM kp;obtain⟨tB,zO,zP⟩:=bZ.cont k e fL fM kp;refine⟨tB,zO,fun j br ab=> ?_⟩;obtain⟨x,c3,eH⟩:=zP j br ab;exact⟨x,by rw [jw _ rfl];exact c3,eH.1.mono hle,eH.2⟩
 ·intro i v q j u kr aw dN hi eO;simp only [Map.add]at aw dN;split at aw<;>split at dN
  ·rename_i bo bO;exact absurd (bo.1.trans bO.1.symm) eO
  ·rename_i bo bO;simp at aw;subst aw;exact r.apart id b.ver p j u kr ag dN hi (by rw [←bo.1];exact eO)
  ·rename_i bo bO;simp at dN;subst dN;exact r.apart i v q id b.ver p aw ag hi (by rw [←bO.1];exact eO)
  ·exact r.apart i v q j u kr aw dN hi eO
 ·intro i v q u kr aw dN hi;simp only [Map.add]at aw dN;split at aw<;>split at dN
  ·simp at aw dN;subst aw dN;exact⟨rfl,rfl⟩
  ·rename_i bo bO;simp at aw;subst aw;exact r.same id b.ver p u kr ag (by rw [←bo.1];exact dN) hi
  ·rename_i bo bO;simp at dN;subst dN;exact r.same id v q b.ver p (by rw [←bO.1];exact aw) ag hi
  ·exact r.same i v q u kr aw dN hi
open Go.RowKit in
theorem rS{B:Nat→Prop}{a:World}(b:Nat)(ao:¬B b):∀(vs:List Value)(o:Nat){w:World},Safe B a w→Safe B a (w.setCells b o vs)
 |[],_,_,h=>h
 |v::r,o,w,h=>rS b ao r (o+1) (h.setCell (p:=⟨b,o,none⟩) ao v)
end
end Go.ba
namespace Go.ba
noncomputable section
open Go.RowKit
theorem c5.dG.get{D:c5}{P:Program}(h:D.dG P){t:TypeId}{d:o4}(aM:D t=some d) :
 ∃i u,P.info? t=some i∧P.underlying t=some u∧d.kind=fY u∧d.size=i.size∧d.bytes=i.bytes∧d.zero=i.zero.map o3:=by
 have:=h t d aM;unfold rK at this;split at this
 ·rename_i i u ac hu;simp at this;subst this;exact⟨i,u,ac,hu,rfl,rfl,rfl,rfl⟩
 ·cases this
theorem jU{u:TypeDesc}{e:TypeId}(h:fY u=.slice e):u=.slice e:=by cases u<;>simp [fY]at h⊢; exact h
theorem rT{u:TypeDesc}{n:Nat}{e:TypeId}(h:fY u=.array n e):u=.array n e:=by cases u<;>simp [fY]at h⊢; exact h
theorem pf{u:TypeDesc}(h:fY u=.string):u=.string:=by cases u<;>simp [fY]at h⊢
theorem En{u:TypeDesc}(h:fY u=.bool):u=.bool:=by cases u<;>simp [fY]at h⊢
theorem tC{u:TypeDesc}{k:IntKind}(h:fY u=.int k):u=.int k:=by cases u<;>simp [fY]at h⊢; exact h
theorem wL{u:TypeDesc}{e:TypeId}(h:fY u=.ptr e):u=.pointer e:=by cases u<;>simp [fY]at h⊢; exact h
theorem zR{u:TypeDesc}(h:fY u=.func):∃a b c,u=.func a b c:=by cases u<;>simp [fY]at h⊢
theorem zS{u:TypeDesc}{o:Bool}(h:fY u=.iface o):∃wD,u=.interface wD∧o= !wD.isEmpty:=by cases u<;>simp [fY]at h⊢; rw [h];simp
theorem wM{u:TypeDesc}{l:List (Nat×TypeId)}(h:fY u=.struct l):∃fs,u=.struct fs∧l=fs.toList.map fun f=>(f.offset,f.type):=by cases u<;>simp [fY]at h⊢; exact h.symm
theorem qx{P:Program}{t:TypeId}{u:TypeDesc}(h:P.underlying t=some u)(w:World):(isAgg t).run P w=.ok (fY u).isAgg w:=by unfold isAgg;rw [Sem.run_bind,run_underlying h];cases u<;>rfl
theorem kt{P:Program}{t:TypeId}{i:TypeInfo}(h:P.info? t=some i)(w:World):(sizeOf t).run P w=.ok i.size w:=by simp [sizeOf,typeInfo,h]
theorem Km{P:Program}{t:TypeId}{i:TypeInfo}(h:P.info? t=some i)(w:World):(typeInfo t).run P w=.ok i w:=by simp [typeInfo,h]
theorem rU{P:Program}{t:TypeId}{i:TypeInfo}{z:Value}(h:P.info? t=some i)(cl:i.zero=some z)(w:World):(zeroValue t).run P w=.ok z w:=by simp [zeroValue,typeInfo,h,cl]
section
variable {P:Program}{φ:Map}
theorem Kn{op:BinOp}{k:IntKind}{x y:Int}{v:J}(t:TypeId)(h:ju op k x y=some v)(w:World) :
 ∃a8,(binOp op t (.int k x) (.int k y)).run P w=.ok a8 w∧aA φ v a8:=by
 cases op<;>simp only [ju]at h <;>
  first
   |(cases h;done)
   |(split at h<;>first|(cases h;done)|(rename_i bi;simp at h;subst h;exact⟨_,by simp [binOp,Op.intDiv,bi];rfl,by simp only [aA]⟩))
   |(simp at h;subst h;exact⟨_,by simp [binOp,Op.intArith,Op.intBits,Op.intCmp];rfl,by simp only [aA]⟩)
theorem Eo{op:BinOp}{k k':IntKind}{x y:Int}{v:J}(t:TypeId)(jz:op=.shl∨op=.shr)(h:tk op k x y=some v)(w:World) :
 ∃a8,(binOp op t (.int k x) (.int k' y)).run P w=.ok a8 w∧aA φ v a8:=by
 unfold tk at h;split at h
 ·cases h
 ·rename_i bi;rcases jz with rfl|rfl
  ·simp at h;subst h;exact⟨_,by simp [binOp,Op.shift,bi];rfl,by simp only [aA]⟩
  ·simp at h;subst h;exact⟨_,by simp [binOp,Op.shift,bi];rfl,by simp only [aA]⟩
theorem Ko:IntKind.i64.max=9223372036854775807:=rfl
theorem Kp{op:BinOp}{a b:ByteArray}{v:J}(t:TypeId)(h:tl op a.data.toList b.data.toList=some v)(w:World) :
 ∃a8,(binOp op t (.string a) (.string b)).run P w=.ok a8 w∧aA φ v a8:=by
 cases op <;> simp only [tl]at h <;>
  first
   |(cases h;done)
   |(split at h<;>first
    |(cases h;done)
    |(rename_i bH
      simp at h;subst h;refine⟨.string (a++b),?_,?_⟩
      ·simp only [binOp,Op.stringOp];rw [if_neg]
       ·rfl
       ·simp only [Array.length_toList]at bH;rw [Ko];simp only [ByteArray.size];omega
      ·simp [aA]))
   |(simp at h;subst h;exact⟨_,by simp [binOp,Op.stringOp,ByteArray.toList_eq];rfl,by simp only [aA]⟩)
def zT(P:Program)(t:TypeId):Bool :=
 !P.eqGuardType P.depth t&&!P.stoodInHeld t &&
 (match P.underlying t with
 |some (.struct fs)=>fs.toList.zipIdx.all fun(f,i)=>f.name != "_" && f.offset == i
 |some (.array _ _)=>true
 |_=>false)
def pg(P:Program)(t:TypeId):Prop:=zT P t=true
theorem pg.spec{t:TypeId}(h:pg P t):P.eqGuardType P.depth t=false∧P.stoodInHeld t=false∧∀fs,P.underlying t=some (.struct fs)→ ∀(i:Nat)(f:Field),fs.toList[i]? =some f→f.name≠ "_" ∧f.offset=i:=by unfold pg zT at h;simp only [Bool.and_eq_true,Bool.not_eq_true']at h;obtain⟨⟨U,ak⟩,aP⟩:=h;refine⟨U,ak,fun fs rV i f aS=> ?_⟩;rw [rV]at aP;simp only [List.all_eq_true]at aP;have:=aP (f,i) (by rw [List.mem_zipIdx_iff_getElem?];exact aS);simpa using this
theorem Ep{k:gQ}{a b:J}{x y:Value}(aW:aA φ a x)(ao:aA φ b y){r:Bool}(h:wE k a b=some r){t:TypeId}{u:TypeDesc}(hu:P.underlying t=some u)(az:k=fY u)(d:Nat)(w:World) :
 (Op.equalIn (d+1) t x y).run P w=.ok r w∧(fY u).isAgg=false:=by
 unfold wE at h;split at h
 ·rename_i jN k1 a k2 b;have:=tC az.symm;subst this;split at h
  ·rename_i e;subst e;simp at h;subst h;simp only [aA]at aW ao;subst aW ao;refine⟨?_,rfl⟩;simp only [Op.equalIn,Sem.run_bind,run_underlying hu,Result.andThen_ok,if_true,Sem.run_pure]
  ·cases h
 ·have:=En az.symm;subst this;simp at h;subst h;simp only [aA]at aW ao;subst aW ao;refine⟨?_,rfl⟩;simp only [Op.equalIn,Sem.run_bind,run_underlying hu,Result.andThen_ok,Sem.run_pure]
 ·have:=pf az.symm;subst this;simp at h;subst h;simp only [aA]at aW ao;obtain⟨s,rfl,rfl⟩:=aW;obtain⟨bm,rfl,rfl⟩:=ao;refine⟨?_,rfl⟩;rw [run_equalIn_string w d t s bm hu,ByteArray.toList_eq,ByteArray.toList_eq]
 ·cases h
theorem Er{D:c5}(cp:D.dG P){xs ys:Array Value}(d:Nat)(w:World):∀{fs:List Field}{i:Nat}{x y:List J}{b:Bool},(∀(j:Nat)(f:Field),fs[j]? =some f→f.name≠ "_" ∧f.offset=i+j) →
 bd φ x (xs.toList.drop i)→bd φ y (ys.toList.drop i)→qh D (fs.map fun f=>(f.offset,f.type)) x y=some b→(Op.eqFields (d+1) xs ys fs).run P w=.ok b w
 |[],i,x,y,b,_,_,_,h=>by simp only [List.map_nil]at h;cases x<;>cases y<;>simp [qh]at h;subst h;rfl
 |f ::fs,i,x,y,b,aS,ab,bi,h=>by
  simp only [List.map_cons]at h;cases x with
  |nil=>cases y<;>simp [qh]at h
  |cons a x =>
   cases y with
   |nil=>simp [qh]at h
   |cons c y =>
    simp only [qh]at h;split at h
    ·rename_i V6 Kq;obtain⟨hZ,u,gR,hu,az, -⟩:=cp.get Kq;split at h
     ·rename_i p q ag aw;simp at h;subst h;obtain⟨be,ap⟩:=aS 0 f (by simp);simp only [bd]at ab bi;obtain⟨mf,tx,ex,zU,ab⟩:=ab;obtain⟨tD,ty,lE,zV,bi⟩:=bi;obtain⟨g1,g2⟩:=Ep (P:=P) zU zV ag hu az d w
      have n9:xs[f.offset]? =some mf:=by have:=congrArg (fun l=>l[0]?) ex;simpa [ap]using this
      have zW:ys[f.offset]? =some tD:=by have:=congrArg (fun l=>l[0]?) lE;simpa [ap]using this
      have zX:xs.toList.drop (i+1)=tx:=by rw [←List.drop_drop,ex];rfl
      have zY:ys.toList.drop (i+1)=ty:=by rw [←List.drop_drop,lE];rfl
      have ku:(part f.type xs f.offset).run P w=.ok mf w:=by simp only [part,Sem.run_bind,qx hu,Result.andThen_ok,g2];simp [n9]
      have zZ:(part f.type ys f.offset).run P w=.ok tD w:=by simp only [part,Sem.run_bind,qx hu,Result.andThen_ok,g2];simp [zW]
      have ih:=Er cp (xs:=xs) (ys:=ys) d w (fs:=fs) (i:=i+1) (fun j g an=>by
       have:=aS (j+1) g (by simpa using an)
       exact⟨this.1,by omega⟩) (by rw [zX];exact ab) (by rw [zY];exact bi) aw
      simp only [Op.eqFields];rw [if_pos be];simp only [Sem.run_bind,ku,zZ,Result.andThen_ok,g1];cases p
      ·rfl
      ·simp only [Bool.not_true,Bool.false_eq_true,if_false,Bool.true_and];exact ih
     ·cases h
    ·cases h
theorem Es{D:c5}{e:TypeId}{u:TypeDesc}(hu:P.underlying e=some u){xs ys:Array Value}(d:Nat)(w:World):∀{n i:Nat}{x y:List J}{b:Bool},x.length=n →
 bd φ x (xs.toList.drop i)→bd φ y (ys.toList.drop i)→rL (fY u) x y=some b→(Op.eqItems (d+1) e 1 xs ys (List.range' i n)).run P w=.ok b w
 |n,i,[],y,b,be,_,_,h=>by simp at be;subst be;cases y<;>simp [rL]at h;subst h;rfl
 |n,i,a::x,[],b,be,_,_,h=>by simp [rL]at h
 |n,i,a::x,c::y,b,be,ab,bi,h=>by
  obtain⟨m,rfl⟩:∃m,n=m+1:=⟨x.length,by simpa using be.symm⟩
  simp only [rL]at h;split at h
  ·rename_i p q ag aw;simp at h;subst h;simp only [bd]at ab bi;obtain⟨mf,tx,ex,zU,ab⟩:=ab;obtain⟨tD,ty,lE,zV,bi⟩:=bi;obtain⟨g1,g2⟩:=Ep (P:=P) zU zV ag hu rfl d w
   have n9:xs[i]? =some mf:=by have:=congrArg (fun l=>l[0]?) ex;simpa using this
   have zW:ys[i]? =some tD:=by have:=congrArg (fun l=>l[0]?) lE;simpa using this
   have zX:xs.toList.drop (i+1)=tx:=by rw [←List.drop_drop,ex];rfl
   have zY:ys.toList.drop (i+1)=ty:=by rw [←List.drop_drop,lE];rfl
   have ku:(part e xs (i*1)).run P w=.ok mf w:=by simp only [part,Sem.run_bind,qx hu,Result.andThen_ok,g2];simp [n9]
   have zZ:(part e ys (i*1)).run P w=.ok tD w:=by simp only [part,Sem.run_bind,qx hu,Result.andThen_ok,g2];simp [zW]
   have ih:=Es (D:=D) hu (xs:=xs) (ys:=ys) d w (n:=m) (i:=i+1) (by simpa using be) (by rw [zX];exact ab) (by rw [zY];exact bi) aw;rw [List.range'_succ];simp only [Op.eqItems];simp only [Sem.run_bind,ku,zZ,Result.andThen_ok,g1];cases p
   ·rfl
   ·simp only [Bool.not_true,Bool.false_eq_true,if_false,Bool.true_and];exact ih
  ·cases h
theorem md:Op.maxDepth=9999+1:=rfl
theorem Et{D:c5}(cp:D.dG P){gB:TypeId→Bool}(bR:∀t,gB t=true→pg P t){lit:Bool}{t:TypeId}{x y:J}{br er:Value}{b:Bool}
 (ab:aA φ x br) (bi:aA φ y er) (h:o5 D gB lit t x y=some b) (w:World):(Op.equalIn Op.maxDepth t br er).run P w=.ok b w:=by
 unfold o5 at h;split at h
 ·cases h
 ·rename_i d aM;obtain⟨i,u,ac,hu,az, -⟩:=cp.get aM;rw [az]at h;split at h
  ·rename_i e;have:=En e;subst this;simp only [aA]at ab bi;subst ab bi;simp at h;subst h;rw [md];generalize 9999=dd;simp only [Op.equalIn,Sem.run_bind,run_underlying hu,Result.andThen_ok,Sem.run_pure,Option.isNone_some,Option.isNone_none]
  ·rename_i e;have:=wL e;subst this;simp only [aA]at ab bi;subst ab bi;simp at h;subst h;rw [md];generalize 9999=dd;simp only [Op.equalIn,Sem.run_bind,run_underlying hu,Result.andThen_ok,Sem.run_pure,Option.isNone_some,Option.isNone_none]
  ·rename_i e;have:=wL e;subst this;simp only [aA]at ab bi;obtain⟨z,rfl,_⟩:=bi;subst ab;simp at h;subst h;rw [md];generalize 9999=dd;simp only [Op.equalIn,Sem.run_bind,run_underlying hu,Result.andThen_ok,Sem.run_pure,Option.isNone_some,Option.isNone_none]
  ·rename_i e;have:=wL e;subst this;simp only [aA]at ab bi;obtain⟨z,rfl,_⟩:=ab;subst bi;simp at h;subst h;rw [md];generalize 9999=dd;simp only [Op.equalIn,Sem.run_bind,run_underlying hu,Result.andThen_ok,Sem.run_pure,Option.isNone_some,Option.isNone_none]
  ·rename_i e;have:=jU e;subst this;simp only [aA]at ab bi;obtain⟨rfl,_⟩:=ab;obtain⟨rfl,_⟩:=bi;simp at h;subst h;rw [md];generalize 9999=dd;simp only [Op.equalIn,Sem.run_bind,run_underlying hu,Result.andThen_ok,Sem.run_pure,Option.isNone_some,Option.isNone_none]
  ·rename_i e;have:=jU e;subst this;simp only [aA]at ab bi;obtain⟨rfl,_⟩:=ab;obtain⟨z,c,rfl,_⟩:=bi;simp at h;subst h;rw [md];generalize 9999=dd;simp only [Op.equalIn,Sem.run_bind,run_underlying hu,Result.andThen_ok,Sem.run_pure,Option.isNone_some,Option.isNone_none]
  ·rename_i e;have:=jU e;subst this;simp only [aA]at ab bi;obtain⟨rfl,_⟩:=bi;obtain⟨z,c,rfl,_⟩:=ab;simp at h;subst h;rw [md];generalize 9999=dd;simp only [Op.equalIn,Sem.run_bind,run_underlying hu,Result.andThen_ok,Sem.run_pure,Option.isNone_some,Option.isNone_none]
  ·rename_i e;obtain⟨_,_,_,rfl⟩:=zR e;simp only [aA]at ab bi;subst ab bi;simp at h;subst h;rw [md];generalize 9999=dd;simp only [Op.equalIn,Sem.run_bind,run_underlying hu,Result.andThen_ok,Sem.run_pure,Option.isNone_some,Option.isNone_none]
  ·rename_i e;obtain⟨_,_,_,rfl⟩:=zR e;simp only [aA]at ab bi;obtain⟨_,_,rfl,_⟩:=bi;subst ab;simp at h;subst h;rw [md];generalize 9999=dd;simp only [Op.equalIn,Sem.run_bind,run_underlying hu,Result.andThen_ok,Sem.run_pure,Option.isNone_some,Option.isNone_none]
  ·rename_i e;obtain⟨_,_,_,rfl⟩:=zR e;simp only [aA]at ab bi;obtain⟨_,_,rfl,_⟩:=ab;subst bi;simp at h;subst h;rw [md];generalize 9999=dd;simp only [Op.equalIn,Sem.run_bind,run_underlying hu,Result.andThen_ok,Sem.run_pure,Option.isNone_some,Option.isNone_none]
  ·rename_i e;obtain⟨_,rfl,_⟩:=zS e;simp only [aA]at ab bi;subst ab bi;split at h<;>simp at h;subst h;rw [md];generalize 9999=dd;simp only [Op.equalIn,Sem.run_bind,run_underlying hu,Result.andThen_ok,Sem.run_pure,Option.isNone_some,Option.isNone_none]
  ·rename_i e;obtain⟨_,rfl,_⟩:=zS e;simp only [aA]at ab bi;obtain⟨_,rfl,_⟩:=bi;subst ab;simp at h;subst h;rw [md];generalize 9999=dd;simp only [Op.equalIn,Sem.run_bind,run_underlying hu,Result.andThen_ok,Sem.run_pure,Option.isNone_some,Option.isNone_none]
  ·rename_i e;obtain⟨_,rfl,_⟩:=zS e;simp only [aA]at ab bi;obtain⟨_,rfl,_⟩:=ab;subst bi;simp at h;subst h;rw [md];generalize 9999=dd;simp only [Op.equalIn,Sem.run_bind,run_underlying hu,Result.andThen_ok,Sem.run_pure,Option.isNone_some,Option.isNone_none]
  ·rename_i fs x y e;obtain⟨k8,rfl,k9⟩:=wM e;simp only [aA]at ab bi;obtain⟨xs,rfl,rx⟩:=ab;obtain⟨ys,rfl,wN⟩:=bi;split at h
   ·rename_i he;obtain⟨U,ak,aP⟩:=(bR t he).spec;have Eu:P.fieldsOf t=k8:=by simp [Program.fieldsOf,hu]
    rw [md,run_equalIn_struct w 9999 t xs ys (by rw [Eu];exact hu) ak,Eu];rw [k9]at h;exact Er cp 9998 w (i:=0) (fun j f aS=>by have:=aP k8 hu j f aS;exact⟨this.1,by omega⟩) (by simpa using rx) (by simpa using wN) h
   ·cases h
  ·rename_i n e x y Kr;have:=rT Kr;subst this;simp only [aA]at ab bi;obtain⟨xs,rfl,rx⟩:=ab;obtain⟨ys,rfl,wN⟩:=bi;split at h
   ·split at h
    ·rename_i hA n';obtain⟨rW,ph,nk,oa,kv,eA, -⟩:=cp.get n';split at h
     ·rename_i ar
      have lF:P.cellsOf e=1:=by unfold Program.cellsOf;rw [nk];simp;omega
      rw [md,run_equalIn_array w 9999 xs ys hu nk,lF,List.range_eq_range'];rw [kv]at h;exact Es (D:=D) oa 9998 w ar.2 (by simpa using rx) (by simpa using wN) h
     ·cases h
    ·cases h
   ·cases h
  ·cases h
theorem Ev{D:c5}{gB:TypeId→Bool}(bR:∀t,gB t=true→pg P t){op:BinOp}{t:TypeId}{hj nl:Operand}{x y:J}{br er:Value}{b:Bool}
 (ab:aA φ x br) (bi:aA φ y er) (h:o5 D gB (nh hj || nh nl) t x y=some b) (w:World):(eqGuard op t hj nl br er).run P w=.ok () w:=by
 have key :op=.eql∨op=.neq→(eqGuard op t hj nl br er).run P w=.ok () w:=by
  intro jz;unfold o5 at h;split at h
  ·cases h
  ·split at h
   all_goals first
    |(cases h;done)
    |(simp only [aA]at ab bi;subst ab bi;rcases jz with rfl|rfl<;>rfl)
    |(simp only [aA]at ab bi;obtain⟨rfl,_⟩:=ab;obtain⟨rfl,_⟩:=bi;rcases jz with rfl|rfl<;>rfl)
    |(simp only [aA]at ab bi;subst ab;obtain⟨_,rfl,_⟩:=bi;rcases jz with rfl|rfl<;>rfl)
    |(simp only [aA]at ab bi;subst bi;obtain⟨_,rfl,_⟩:=ab;rcases jz with rfl|rfl<;>rfl)
    |(simp only [aA]at ab bi;obtain⟨rfl,_⟩:=ab;obtain⟨_,_,rfl,_⟩:=bi;rcases jz with rfl|rfl<;>rfl)
    |(simp only [aA]at ab bi;obtain⟨rfl,_⟩:=bi;obtain⟨_,_,rfl,_⟩:=ab;rcases jz with rfl|rfl<;>rfl)
    |(simp only [aA]at ab bi;subst ab;obtain⟨_,_,rfl,_⟩:=bi;rcases jz with rfl|rfl<;>rfl)
    |(simp only [aA]at ab bi;subst bi;obtain⟨_,_,rfl,_⟩:=ab;rcases jz with rfl|rfl<;>rfl)
    |(simp only [aA]at ab bi;subst ab bi;split at h<;>first|(cases h;done)|skip
      rename_i aF;simp only [Bool.or_eq_true]at aF;rcases aF with aF|aF
      ·cases hj<;>first|(simp [nh]at aF;done)|(rcases jz with rfl|rfl<;>rfl)
      ·cases nl<;>first|(simp [nh]at aF;done)|(rcases jz with rfl|rfl<;>simp [eqGuard]))
    |(simp only [aA]at ab bi;obtain⟨_,rfl,rx⟩:=ab;obtain⟨_,rfl,wN⟩:=bi;split at h<;>first|(cases h;done)|skip
      rename_i he
      exact run_eqGuard_agg w op t hj nl _ _ (bR t he).spec.1)
 cases op<;>first|exact key (.inl rfl)|exact key (.inr rfl)|rfl
def tE:Value→Bool
 |.bool _|.pointer _|.slice _ _ _|.func _ _ _|.nilFunc|.nilIface|.iface _ _|.agg _=>true
 |_=>false
theorem Ks(t:TypeId)(x y:Value)(h:tE x=true):binOp .eql t x y=(do pure (.bool (←Op.equal t x y))):=by cases x<;>first|(simp [tE]at h;done)|(cases y<;>rfl)
theorem Kt(t:TypeId)(x y:Value)(h:tE x=true):binOp .neq t x y=(do pure (.bool (!(←Op.equal t x y)))):=by cases x<;>first|(simp [tE]at h;done)|(cases y<;>rfl)
theorem Ew{D:c5}{gB:TypeId→Bool}{lit:Bool}{t:TypeId}{x y:J}{br:Value}{b:Bool}(ab:aA φ x br)(h:o5 D gB lit t x y=some b):tE br=true:=by
 unfold o5 at h;split at h
 ·cases h
 ·split at h
  all_goals first
   |(cases h;done)
   |(simp only [aA]at ab;subst ab;rfl)
   |(simp only [aA]at ab;obtain⟨rfl,_⟩:=ab;rfl)
   |(simp only [aA]at ab;obtain⟨_,rfl,_⟩:=ab;rfl)
   |(simp only [aA]at ab;obtain⟨_,_,rfl,_⟩:=ab;rfl)
theorem Ku{D:c5}(cp:D.dG P){gB:TypeId→Bool}(bR:∀t,gB t=true→pg P t){op:BinOp}{t:TypeId}{hj nl:Operand}{x y v:J}{br er:Value}
 (ab:aA φ x br) (bi:aA φ y er) (h:nf D gB (nh hj || nh nl) op t x y=some v) (w:World) :
 ∃a8,(eqGuard op t hj nl br er).run P w=.ok () w∧(binOp op t br er).run P w=.ok a8 w∧aA φ v a8:=by
 unfold nf at h;split at h
 ·rename_i k a k' b;simp only [aA]at ab bi;subst ab bi
  have an:(eqGuard op t hj nl (.int k a) (.int k' b)).run P w=.ok () w:=by unfold eqGuard;split<;>rfl
  split at h
  ·obtain⟨a8,U,ak⟩:=Eo (P:=P) (φ:=φ) (k':=k') t (.inl rfl) h w;exact⟨a8,an,U,ak⟩
  ·obtain⟨a8,U,ak⟩:=Eo (P:=P) (φ:=φ) (k':=k') t (.inr rfl) h w;exact⟨a8,an,U,ak⟩
  ·split at h
   ·rename_i az;subst az;obtain⟨a8,U,ak⟩:=Kn (P:=P) (φ:=φ) t h w;exact⟨a8,an,U,ak⟩
   ·cases h
 ·rename_i a b;simp only [aA]at ab bi;obtain⟨s,rfl,rfl⟩:=ab;obtain⟨u,rfl,rfl⟩:=bi
  have an:(eqGuard op t hj nl (.string s) (.string u)).run P w=.ok () w:=by unfold eqGuard;split<;>rfl
  obtain⟨a8,U,ak⟩:=Kp (P:=P) (φ:=φ) t h w;exact⟨a8,an,U,ak⟩
 ·rename_i bK n2;split at h
  ·simp only [Option.map_eq_some_iff]at h;obtain⟨b,ao,rfl⟩:=h;refine⟨.bool b,Ev (D:=D) bR ab bi ao w,?_,by simp [aA]⟩;have he:=Et cp bR ab bi ao w;rw [Ks t br er (Ew ab ao)];simp [Op.equal,he]
  ·simp only [Option.map_eq_some_iff]at h;obtain⟨b,ao,rfl⟩:=h;refine⟨.bool (!b),Ev (D:=D) bR ab bi ao w,?_,by simp [aA]⟩;have he:=Et cp bR ab bi ao w;rw [Kt t br er (Ew ab ao)];simp [Op.equal,he]
  ·cases h
end
end
end Go.ba
namespace Go.ba
noncomputable section
open Go.RowKit
section
variable {P:Program}{φ:Map}
theorem Kv{op:UnOp}{x v:J}{br:Value}(ab:aA φ x br)(h:tm op x=some v)(w:World):∃a8,(Op.unary op br).run P w=.ok a8 w∧aA φ v a8:=by
 unfold tm at h;split at h
 ·simp only [aA]at ab;subst ab;simp at h;subst h;exact⟨_,by simp [Op.unary,Op.intArith];rfl,by simp only [aA]⟩
 ·simp only [aA]at ab;subst ab;simp at h;subst h;exact⟨_,by simp [Op.unary];rfl,by simp only [aA]⟩
 ·simp only [aA]at ab;subst ab;simp [ju]at h;subst h;exact⟨_,by simp [Op.unary,Op.intBits];rfl,by simp only [aA]⟩
 ·cases h
theorem Kw{D:c5}(cp:D.dG P){s t:TypeId}{x v:J}{br:Value}(ab:aA φ x br)(h:qi D s t x=some v)(w:World) :
 ∃a8,(convert s t br).run P w=.ok a8 w∧aA φ v a8:=by
 unfold qi at h;split at h
 ·rename_i ez Kx k n hs bl;simp only [aA]at ab;subst ab;obtain⟨_,z1,_,wO,_⟩:=cp.get hs;obtain⟨_,ut,_,wP,az,_⟩:=cp.get bl;rw [az]at h;split at h
  ·rename_i la e;have:=tC e;subst this;simp at h;subst h;refine⟨.int la (la.wrap n),?_,by simp only [aA]⟩;simp only [convert,Sem.run_bind,run_underlying wO,run_underlying wP,Result.andThen_ok];cases z1<;>simp [Conv.intToInt]
  ·rename_i e;have:=pf e;subst this;simp at h;subst h;exact⟨.string (Utf8.encode n),run_convert_int_string w s t k n (by rw [wO];rfl) wP,by simp only [aA];exact⟨_,rfl,rfl⟩⟩
  ·cases h
 ·rename_i ez Kx l hs bl;simp only [aA]at ab;obtain⟨bm,rfl,rfl⟩:=ab;obtain⟨_,z1,_,wO,_⟩:=cp.get hs;obtain⟨_,ut,_,wP,az,_⟩:=cp.get bl;rw [az]at h;split at h
  ·rename_i e;have:=pf e;subst this;simp at h;subst h;refine⟨.string bm,?_,by simp [aA]⟩;simp only [convert,Sem.run_bind,run_underlying wO,run_underlying wP,Result.andThen_ok];cases z1<;>rfl
  ·cases h
 ·cases h
theorem Ky{x y v:J}{br er:Value}(ab:aA φ x br)(bi:aA φ y er)(h:wF x y=some v)(w:World):∃a8,(Builtin.max2 br er).run P w=.ok a8 w∧aA φ v a8:=by
 unfold wF at h;split at h
 ·simp only [aA]at ab bi;subst ab bi;split at h
  ·rename_i az;subst az;simp at h;subst h;exact⟨_,by simp only [Builtin.max2];rfl,by simp only [aA]⟩
  ·cases h
 ·cases h
theorem Kz{x y v:J}{br er:Value}(ab:aA φ x br)(bi:aA φ y er)(h:wG x y=some v)(w:World):∃a8,(Builtin.min2 br er).run P w=.ok a8 w∧aA φ v a8:=by
 unfold wG at h;split at h
 ·simp only [aA]at ab bi;subst ab bi;split at h
  ·rename_i az;subst az;simp at h;subst h;exact⟨_,by simp only [Builtin.min2];rfl,by simp only [aA]⟩
  ·cases h
 ·cases h
theorem z6{f:J→J→Option J}{g:Value→Value→Sem Value}(w:World)
 (aS:∀x y v br er,aA φ x br→aA φ y er→f x y=some v→ ∃a8,(g br er).run P w=.ok a8 w∧aA φ v a8) :
 ∀{l:List J}{t:List Value}{x v:J}{br:Value},aA φ x br→bd φ l t→o6 f x l=some v→ ∃a8,(t.foldlM g br).run P w=.ok a8 w∧aA φ v a8
 |[],t,x,v,br,ab,aF,h=>by simp only [bd]at aF;subst aF;simp [o6]at h;subst h;exact⟨br,rfl,ab⟩
 |a ::r,t,x,v,br,ab,aF,h=>by
  simp only [bd]at aF;obtain⟨u,e1,rfl,U,ak⟩:=aF;simp only [o6]at h;split at h
  ·rename_i z cl;obtain⟨eC,bo,bO⟩:=aS _ _ _ _ _ ab U cl;obtain⟨a8,fR,jV⟩:=z6 w aS bO ak h;exact⟨a8,by rw [List.foldlM_cons,Sem.run_bind,bo];exact fR,jV⟩
  ·cases h
theorem KA{x v:J}{l:List J}{xs:Array Value}(ts:Array TypeId)(ty:TypeId)(ab:bd φ (x::l) xs.toList)(h:o6 wF x l=some v)(w:World) :
 ∃a8,(Builtin.max_ ts ty xs).run P w=.ok a8 w∧aA φ v a8:=by
 simp only [bd]at ab;obtain⟨br,t,e,U,ak⟩:=ab;unfold Builtin.max_;rw [e];exact z6 w (fun _ _ _ _ _ a b c=>Ky a b c w) U ak h
theorem KB{x v:J}{l:List J}{xs:Array Value}(ts:Array TypeId)(ty:TypeId)(ab:bd φ (x::l) xs.toList)(h:o6 wG x l=some v)(w:World) :
 ∃a8,(Builtin.min_ ts ty xs).run P w=.ok a8 w∧aA φ v a8:=by
 simp only [bd]at ab;obtain⟨br,t,e,U,ak⟩:=ab;unfold Builtin.min_;rw [e];exact z6 w (fun _ _ _ _ _ a b c=>Kz a b c w) U ak h
theorem Ex{D:c5}(cp:D.dG P){t:TypeId}{cs:List J}{xs:Array Value}{off:Nat}{v:J}(ab:bd φ cs xs.toList)(h:apart D t cs off=some v)(w:World) :
 ∃a8,(part t xs off).run P w=.ok a8 w∧aA φ v a8:=by
 unfold apart at h;split at h
 ·rename_i d aM;obtain⟨i,u,ac,hu,az,hs, -⟩:=cp.get aM;rw [az]at h;split at h
  ·rename_i aW;split at h
   ·rename_i hle;simp at h;subst h;refine⟨.agg (xs.extract off (off+i.size)),?_,?_⟩
    ·simp only [part,Sem.run_bind,qx hu,Result.andThen_ok,aW,if_true,kt ac,Sem.run_pure]
    ·simp only [aA];refine⟨_,rfl,?_⟩
     have e:(xs.extract off (off+i.size)).toList=(xs.toList.drop off).take i.size:=by simp [List.extract]
     rw [e,hs];exact(ab.drop off).take i.size
   ·cases h
  ·rename_i aW;obtain⟨a8,U,ak⟩:=ab.get h;refine⟨a8,?_,ak⟩;have hk:xs[off]? =some a8:=by simpa using U
   simp only [part,Sem.run_bind,qx hu,Result.andThen_ok];simp only [aW];simp [hk]
 ·cases h
theorem KC{D:c5}(cp:D.dG P){t:TypeId}{x:J}{br:Value}{f:Nat}{v:J}(ab:aA φ x br)(h:zB D t x f=some v)(w:World) :
 ∃a8,(Instr.field t br f).run P w=.ok a8 w∧aA φ v a8:=by
 unfold zB at h;split at h
 ·rename_i d cs aM;obtain⟨i,u,ac,hu,az,hs, -⟩:=cp.get aM;rw [az]at h;split at h
  ·rename_i fs e;obtain⟨k8,rfl,k9⟩:=wM e;split at h
   ·rename_i off ng aS;simp only [aA]at ab;obtain⟨xs,rfl,ee⟩:=ab;rw [k9]at aS;simp only [List.getElem?_map,Option.map_eq_some_iff]at aS;obtain⟨rX,pi,he⟩:=aS;simp at he;obtain⟨rfl,rfl⟩:=he;obtain⟨a8,U,ak⟩:=Ex cp ee h w;refine⟨a8,?_,ak⟩;have tF:k8[f]? =some rX:=by simpa using pi
    simp [Instr.field,run_underlying hu,tF,asAgg,U]
   ·cases h
  ·cases h
 ·cases h
theorem KD{D:c5}(cp:D.dG P){t:TypeId}{x i:J}{br eo:Value}{v:J}(ab:aA φ x br)(ac:aA φ i eo)(h:tp D t x i=some v)(w:World) :
 ∃a8,(Instr.index t br eo).run P w=.ok a8 w∧aA φ v a8:=by
 unfold tp at h;split at h
 ·rename_i d cs k n aM;obtain⟨hZ,u,gR,hu,az,hs, -⟩:=cp.get aM;rw [az]at h;split at h
  ·rename_i len e he;have:=rT he;subst this;split at h
   ·rename_i b' eU;obtain⟨dm,mg,eI,wQ,wR,ee, -⟩:=cp.get eU;split at h
    ·rename_i ao;simp only [aA]at ab ac;obtain⟨xs,rfl,KE⟩:=ab;subst ac;obtain⟨a8,U,ak⟩:=Ex cp KE h w;refine⟨a8,?_,ak⟩;rw [ee]at U;simp [Instr.index,asIntOf,run_underlying hu,ao,kt eI,U]
    ·cases h
   ·cases h
  ·cases h
 ·rename_i d s k n aM;obtain⟨hZ,u,gR,hu,az,hs, -⟩:=cp.get aM;rw [az]at h;split at h
  ·rename_i e;have:=pf e;subst this;split at h
   ·rename_i be;simp only [aA]at ab ac;obtain⟨bm,rfl,rfl⟩:=ab;subst ac;simp only [Option.map_eq_some_iff]at h;obtain⟨b,ao,rfl⟩:=h;refine⟨.int .u8 b.toNat,?_,by simp only [aA]⟩
    have fr:bm[n.toNat]? =some b:=by
     have bH:=(List.getElem?_eq_some_iff.1 ao).1;have he:=(List.getElem?_eq_some_iff.1 ao).2;have n8:n.toNat<bm.size:=by rw [Array.length_toList]at bH;exact bH
     rw [getElem?_pos bm n.toNat n8];rw [←he];rfl
    simp [Instr.index,asIntOf,run_underlying hu,be,fr]
   ·cases h
  ·cases h
 ·cases h
theorem KF{vs:List J}{br:Value}{i:Nat}{v:J}(ab:aA φ (.tuple vs) br)(h:vs[i]? =some v)(w:World) :
 ∃a8,(Instr.extract br i).run P w=.ok a8 w∧aA φ v a8:=by
 simp only [aA]at ab;obtain⟨xs,rfl,ee⟩:=ab;obtain⟨a8,U,ak⟩:=ee.get h;have hk:xs[i]? =some a8:=by simpa using U
 exact⟨a8,by simp [Instr.extract,hk],ak⟩
theorem Place.pj(p:Place)(i f n:Nat):(p.at i f).add n=p.at i (f+n):=by unfold Place.at;rw [Addr.add_mid];rw [Nat.add_assoc]
theorem KG{D:c5}(cp:D.dG P){t:TypeId}{x:J}{br:Value}{f:Nat}{v:J}(ab:aA φ x br)(h:zA D t x f=some v)(w:World) :
 ∃a8,(Instr.fieldAt t br f).run P w=.ok a8 w∧aA φ v a8:=by
 unfold zA at h;split at h
 ·rename_i d a aM;obtain⟨i,u,ac,hu,az,hs, -⟩:=cp.get aM;rw [az]at h;split at h
  ·rename_i fs e;obtain⟨k8,rfl,k9⟩:=wM e;split at h
   ·rename_i off ng aS;split at h
    ·rename_i fd KH;obtain⟨KI,i',tG,V7,V8,rV, -⟩:=cp.get KH;split at h
     ·rename_i jA;simp at h;subst h;rw [k9]at aS;simp only [List.getElem?_map,Option.map_eq_some_iff]at aS;obtain⟨rX,pi,he⟩:=aS;simp at he;obtain⟨rfl,rfl⟩:=he;simp only [aA]at ab;obtain⟨eP,rfl,p,ag,eA,dK,rfl⟩:=ab;have tF:k8[f]? =some rX:=by simpa using pi
      refine⟨.pointer (some (p.at a.idx (a.fld+rX.offset))),?_,?_⟩
      ·have cg:¬KI.size=0:=by omega
       simp [Instr.fieldAt,run_underlying hu,tF,Instr.sureAddr,fieldPlace,kt tG,cg,Place.pj]
      ·simp only [aA];exact⟨_,rfl,p,ag,eA,dK,rfl⟩
     ·cases h
    ·cases h
   ·cases h
  ·cases h
 ·cases h
theorem KJ{D:c5}(cp:D.dG P){t:TypeId}{x i:J}{br eo:Value}{v:J}(ab:aA φ x br)(ac:aA φ i eo)(h:bb D t x i=some v)(w:World) :
 ∃a8,(Instr.indexAt t br eo).run P w=.ok a8 w∧aA φ v a8:=by
 unfold bb at h;split at h
 ·rename_i d a len cap k n aM;obtain⟨hZ,u,gR,hu,az,hs, -⟩:=cp.get aM;rw [az]at h;split at h
  ·rename_i e he;have:=jU he;subst this;split at h
   ·rename_i b' eU;obtain⟨dm,mg,eI,wQ,wR,ee, -⟩:=cp.get eU;split at h
    ·rename_i ao;simp at h;subst h;simp only [aA]at ab ac;obtain⟨eP,cH,rfl,dt,bX,f'⟩:=ab;have aS:=ao.2.2.2;obtain⟨p,ag,eA,ir,hex⟩:=f'.plain aS;subst ac;rcases ir with bt|⟨dK,rfl,k6⟩
     ·omega
     ·refine⟨.pointer (some (p.at (a.idx+n.toNat) 0)),?_,?_⟩
      ·have bo:(p.at a.idx 0).add (n.toNat*dm.size)=p.at (a.idx+n.toNat) 0:=by
        rw [Place.pj];unfold Place.at;have:a.idx+n.toNat-p.aB=(a.idx-p.aB)+n.toNat:=by omega
        rw [this,Nat.add_mul,←ee,←ao.2.2.1,eA]
        congr 1;omega
       have iI:=ao.1;have kw:=ao.2.1;simp [Instr.indexAt,asIntOf,run_underlying hu,iI,kw,kt eI,bo]
      ·simp only [aA];exact⟨_,rfl,p,ag,eA,by show p.aB≤a.idx+n.toNat;omega,by simp only [aS]⟩
    ·split at h
     ·rename_i ao;simp at h;subst h;simp only [aA]at ab ac;obtain⟨eP,cH,rfl,dt,bX,f'⟩:=ab;subst ac;rcases f' with ⟨aS,_⟩|⟨f,aS,p,ag,eA,dK,rfl⟩
      ·omega
      ·simp only at ag eA dK;have c3:dm.size=1:=by omega
       have iI:=ao.1;have kw:=ao.2.1;refine⟨.pointer (some (p.at a.idx (f+n.toNat))),?_,?_⟩
       ·have bo:(p.at a.idx f).add (n.toNat*dm.size)=p.at a.idx (f+n.toNat):=by rw [Place.pj,c3,Nat.mul_one]
        simp [Instr.indexAt,asIntOf,run_underlying hu,iI,kw,kt eI,bo]
       ·simp only [aA];exact⟨_,rfl,p,ag,eA,dK,by show p.at a.idx (f+n.toNat)=p.at a.idx (a.fld-1+n.toNat);rw [aS];rfl⟩
     ·cases h
   ·cases h
  ·cases h
 ·rename_i d a k n aM;obtain⟨hZ,u,gR,hu,az,hs, -⟩:=cp.get aM;rw [az]at h;split at h
  ·rename_i len e he;have:=rT he;subst this;split at h
   ·rename_i b' eU;obtain⟨dm,mg,eI,wQ,wR,ee, -⟩:=cp.get eU;split at h
    ·rename_i ao;simp at h;subst h;simp only [aA]at ab ac;obtain⟨eP,rfl,p,ag,eA,dK,rfl⟩:=ab;subst ac;refine⟨.pointer (some (p.at a.idx (a.fld+n.toNat*dm.size))),?_,?_⟩
     ·have iI:=ao.1;have kw:=ao.2;simp [Instr.indexAt,asIntOf,run_underlying hu,iI,kw,kt eI,Instr.sureAddr,Place.pj]
     ·simp only [aA];exact⟨_,rfl,p,ag,eA,dK,by simp only [ee]⟩
    ·cases h
   ·cases h
  ·cases h
 ·cases h
end
end
end Go.ba
namespace Go.ba
noncomputable section
open Go.RowKit
section
variable {P:Program}{φ:Map}
def lc(φ:Map):Option J→Option Value→Prop
 |none,none=>True
 |some a,some b=>aA φ a b
 |_,_=>False
theorem tH{v:Option J}{a8:Option Value}(a7:lc φ v a8){zz dH r:Nat}(h:fJ v zz dH=some r)(hs:v.isSome=true)
 {z7:Nat} (hm:dH≤z7) (w:World) (code:BoundsCode):∃x,a8=some x∧(Instr.sliceBound x z7 code).run P w=.ok r w∧r≤dH:=by
 cases v with
 |none=>cases hs
 |some a =>
  cases a8 with
  |none=>exact a7.elim
  |some x =>
   refine⟨x,rfl,?_⟩;unfold fJ at h;split at h
   ·rename_i e;cases e
   ·rename_i k i e;simp at e;subst e;split at h
    ·rename_i ao;simp at h;subst h;simp only [lc,aA]at a7;subst a7;have hle:i≤(z7:Int):=by omega
     exact⟨by simp [Instr.sliceBound,asIntOf,ao.1,hle],by omega⟩
    ·cases h
   ·cases h
theorem wS{aB ac mx:Option J}{gS du mx':Option Value}(dK:lc φ aB gS)(ja:lc φ ac du)(lG:lc φ mx mx'){len cap cH m ck l:Nat}(Ey:len≤cap)(c0:cap≤cH)
 (hm:fJ mx cap cap=some m) (rY:fJ ac len m=some ck) (aF:fJ aB 0 ck=some l) (h0:¬(mx.isSome=true∧ac.isNone=true)) (isSlice:Bool) (w:World) :
 ∃gH,(Instr.sliceBounds isSlice len cH gS du mx').run P w=.ok (l,ck,gH) w∧m≤gH∧gH≤cH∧(cH=cap→gH=m)∧ck≤m∧l≤ck:=by
 have aP:∀code,(match gS with|some v=>Instr.sliceBound v ck code|none=>pure 0:Sem Nat).run P w=.ok l w∧l≤ck:=by
  intro code;cases aB with
  |none=>cases gS with
   |none=>simp [fJ]at aF;subst aF;exact⟨rfl,Nat.zero_le _⟩
   |some _=>exact dK.elim
  |some a =>
   obtain⟨x,rfl,U,ak⟩:=tH (P:=P) dK aF rfl (Nat.le_refl _) w code;exact⟨U,ak⟩
 cases mx with
 |none =>
  cases mx' with
  |some _=>exact lG.elim
  |none =>
   simp [fJ]at hm;subst hm;refine⟨cH,?_,c0,Nat.le_refl _,fun h=>h,?_⟩
   ·cases ac with
    |none=>cases du with
     |some _=>exact ja.elim
     |none =>
      simp [fJ]at rY;subst rY;have:=(aP .sliceB).1;cases gS<;>simp_all [Instr.sliceBounds]
    |some b =>
     obtain⟨x,rfl,U,ak⟩:=tH (P:=P) ja rY rfl c0 w (if isSlice then .sliceAcap else .sliceAlen);have:=(aP .sliceB).1;cases gS<;>simp_all [Instr.sliceBounds]
   ·refine⟨?_,(aP .sliceB).2⟩;cases ac with
    |none=>simp [fJ]at rY;omega
    |some b=>obtain⟨x,rfl,U,ak⟩:=tH (P:=P) ja rY rfl c0 w .sliceB;exact ak
 |some a =>
  obtain⟨y,rfl,g1,g2⟩:=tH (P:=P) lG hm rfl c0 w (if isSlice then .slice3Acap else .slice3Alen);cases ac with
  |none=>simp at h0
  |some b =>
   obtain⟨x,rfl,U,ak⟩:=tH (P:=P) ja rY rfl (Nat.le_refl _) w .slice3B;refine⟨m,?_,Nat.le_refl _,by omega,fun _=>rfl,ak,(aP .sliceB).2⟩;have:=(aP .slice3C).1;cases gS<;>simp_all [Instr.sliceBounds]
theorem KK(s:ByteArray)(l h:Nat):(s.extract l h).data.toList=(s.data.toList.take h).drop l:=by
 have:(s.extract l h).data=s.data.extract l h:=by simp
 rw [this];simp [List.extract,List.drop_take]
theorem KL{D:c5}(cp:D.dG P){t:TypeId}{x v:J}{br:Value}{aB ac mx:Option J}{gS du mx':Option Value}(ab:aA φ x br)
 (dK:lc φ aB gS) (ja:lc φ ac du) (lG:lc φ mx mx') (h:gC D t x aB ac mx=some v) (w:World) :
 ∃a8,(Instr.sliceAt t br gS du mx').run P w=.ok a8 w∧aA φ v a8:=by
 unfold gC at h;split at h
 ·rename_i d a len cap aM;obtain⟨hZ,u,gR,hu,az,hs, -⟩:=cp.get aM;rw [az]at h;split at h
  ·rename_i e he;have:=jU he;subst this;split at h
   ·rename_i b' m eU hm;obtain⟨dm,mg,eI,wQ,wR,ee, -⟩:=cp.get eU;split at h
    ·rename_i ck qy;split at h
     ·rename_i l aF;split at h
      ·cases h
      ·rename_i h0;split at h
       ·simp at h;subst h;simp only [aA]at ab;obtain⟨rfl,rfl,rfl⟩:=ab;obtain⟨gH,k1,k2,bT,cr,c6,ev⟩:=wS (P:=P) dK ja lG (Nat.le_refl _) (Nat.le_refl 0) hm qy aF h0 true w;have bo:gH=0:=by omega
        have bO:m=0:=by omega
        have fR:ck=0:=by omega
        have jV:l=0:=by omega
        subst bo bO fR jV;refine⟨.slice none 0 0,?_,by simp [aA]⟩;simp [Instr.sliceAt,run_underlying hu,Instr.slice,k1,kt eI]
       ·rename_i a;split at h
        ·rename_i KM;obtain⟨eA,aS⟩:=KM;simp at h;subst h;simp only [aA]at ab;obtain⟨eP,cH,rfl,dt,bX,f'⟩:=ab;obtain⟨p,ag,h1,ir,hex⟩:=f'.plain aS;obtain⟨gH,k1,k2,bT,cr,c6,ev⟩:=wS (P:=P) dK ja lG dt bX hm qy aF h0 true w;refine⟨.slice (if gH=l then some eP else some (eP.add (l*dm.size))) (ck-l) (gH-l),?_,?_⟩
         ·simp [Instr.sliceAt,run_underlying hu,Instr.slice,k1,kt eI]
         ·simp only [aA];by_cases Ez:gH=l
          ·rw [if_pos Ez];exact⟨eP,gH-l,rfl,by omega,by omega,.inl ⟨aS,p,ag,h1,.inl (by omega),fun ck=>by have:=cr (hex ck);omega⟩⟩
          ·rw [if_neg Ez];refine⟨_,gH-l,rfl,by omega,by omega,.inl ⟨aS,p,ag,h1,?_,fun ck=>by have:=cr (hex ck);omega⟩⟩;rcases ir with bt|⟨g1,rfl,g3⟩
           ·left;omega
           ·right;refine⟨by show p.aB≤a.idx+l;omega,?_,by show a.idx+l-p.aB+(gH-l)≤p.tot;omega⟩;rw [Place.pj];unfold Place.at;have:a.idx+l-p.aB=(a.idx-p.aB)+l:=by omega
            simp only [this,Nat.add_mul,←ee,←eA,h1]
            congr 1;omega
        ·cases h
     ·cases h
    ·cases h
   ·cases h
  ·cases h
 ·rename_i d a aM;obtain⟨hZ,u,gR,hu,az,hs, -⟩:=cp.get aM;rw [az]at h;split at h
  ·rename_i n el ob;have:=rT ob;subst this;split at h
   ·rename_i b' eU;obtain⟨dm,mg,eI,wQ,wR,ee, -⟩:=cp.get eU;split at h
    ·cases h
    ·rename_i h0;split at h
     ·rename_i ck qy;split at h
      ·rename_i l aF;split at h
       ·rename_i ar;obtain⟨nn,od⟩:=ar;simp at h;subst h;simp only [aA]at ab;obtain⟨eP,rfl,p,ag,h1,KN,rfl⟩:=ab;have z8:mx=none:=by cases mx<;>simp_all
        subst z8;have z':mx'=none:=by cases mx' with|none=>rfl|some _=>exact lG.elim
        subst z';obtain⟨gH,k1,k2,bT,cr,c6,ev⟩:=wS (P:=P) (mx:=none) (mx':=none) dK ja trivial (Nat.le_refl n) (Nat.le_refl n) (m:=n) (by simp [fJ]) qy aF (by simp) false w;have jW:=cr rfl;subst jW;have c3:dm.size=1:=by omega
        refine⟨.slice (some ((p.at a.idx a.fld).add (l*dm.size))) (ck-l) (gH-l),?_,?_⟩
        ·have cg:¬gH=l:=by omega
         simp [Instr.sliceAt,run_underlying hu,k1,kt eI,Instr.sureAddr,cg]
        ·simp only [aA];refine⟨_,gH-l,rfl,by omega,Nat.le_refl _,.inr ⟨a.fld+l,rfl,p,ag,h1,KN,?_⟩⟩;rw [Place.pj,c3,Nat.mul_one]
       ·cases h
      ·cases h
     ·cases h
   ·cases h
  ·cases h
 ·rename_i d s aM;obtain⟨hZ,u,gR,hu,az,hs, -⟩:=cp.get aM;rw [az]at h;split at h
  ·rename_i e;have:=pf e;subst this;split at h
   ·cases h
   ·rename_i h0;split at h
    ·rename_i ck qy;split at h
     ·rename_i l aF;simp at h;subst h;simp only [aA]at ab;obtain⟨bm,rfl,rfl⟩:=ab;rw [Array.length_toList]at qy;have z8:mx=none:=by cases mx<;>simp_all
      subst z8;have z':mx'=none:=by cases mx' with|none=>rfl|some _=>exact lG.elim
      subst z';obtain⟨gH,k1,k2,bT,cr,c6,ev⟩:=wS (P:=P) (mx:=none) (mx':=none) dK ja trivial (Nat.le_refl bm.size) (Nat.le_refl bm.size) (m:=bm.size) (by simp [fJ]) qy aF (by simp) false w;refine⟨.string (bm.extract l ck),?_,by simp only [aA];exact⟨_,rfl,KK _ _ _⟩⟩;simp [Instr.sliceAt,run_underlying hu,Instr.slice,k1]
     ·cases h
    ·cases h
  ·cases h
 ·cases h
theorem wT{w:World}{b o:Nat} :∀{l:List J},(∀j br,l[j]? =some br→ ∃x,w.cell? ⟨b,o+j,none⟩=some x∧aA φ br x∧x.oneCell'=true) →
 ∃vs,bd φ l vs∧w.rangeAt b o vs∧∀x∈vs,x.oneCell'=true
 |[],_=>⟨[],by simp [bd],by intro j v a7;simp at a7,by simp⟩
 |a ::r,h=>by
  obtain⟨x,c3,eH⟩:=h 0 a (by simp)
  have ih:=wT (w:=w) (b:=b) (o:=o+1) (l:=r) (fun j br ay=>by
   obtain⟨x,g1,g2⟩:=h (j+1) br (by simpa using ay)
   exact⟨x,by rw [show o+1+j=o+(j+1)by omega];exact g1,g2⟩)
  obtain⟨vs,i1,i2,i3⟩:=ih;refine⟨x::vs,by simp only [bd];exact⟨_,_,rfl,eH.1,i1⟩,?_,?_⟩
  ·intro j v a7;cases j with
   |zero=>simp at a7;subst a7;exact c3
   |succ j=>simp at a7;have:=i2 j v a7;rw [show o+(j+1)=o+1+j by omega];exact this
  ·intro y bi;rcases List.mem_cons.1 bi with rfl|bi
   ·exact eH.2
   ·exact i3 y bi
theorem ch.KO{N0:Nat→Prop}{h:I}{w:World}(r:ch φ N0 h w){a:aO}{eP:Addr}(aW:rN φ a eP){b:aJ}(ao:h.get a.id=some b){e:J}(he:b.elem? a.ver a.idx=some e) :
 ∃p,φ a.id a.ver=some p∧eP=p.at a.idx a.fld∧p.aB≤a.idx∧e.cells.length=p.es∧∀j br,e.cells[j]? =some br→ ∃x,w.cell? (p.at a.idx j)=some x∧aA φ br x∧x.oneCell'=true:=by
 obtain⟨p,ag,eA,dK,rfl⟩:=aW;obtain⟨U,c,ak,aP,bQ,ct,cL,eT,bZ⟩:=r.cO _ _ _ ag;rw [ao]at ak;simp at ak;subst ak;unfold aJ.elem? at he;split at he
 ·rename_i aF;obtain⟨bU,b8,dj⟩:=bZ.cont _ _ dK aF he;exact⟨p,ag,rfl,dK,bU,dj⟩
 ·cases he
theorem EA{D:c5}(cp:D.dG P){N0:Nat→Prop}{h:I}{w:World}(r:ch φ N0 h w){t:TypeId}{a:aO}{br:Value}{v:J}(ab:aA φ (.ptr (some a)) br)(ap:aQ D t a h=some v) :
 ∃a8,(Instr.loadAt t br).run P w=.ok a8 w∧aA φ v a8:=by
 unfold aQ at ap;split at ap
 ·rename_i d b aM ao;obtain⟨hZ,u,gR,hu,az,hs, -⟩:=cp.get aM;split at ap
  ·rename_i e he;simp only [aA]at ab;obtain⟨eP,rfl,wU⟩:=ab;obtain⟨p,ag,rfl,dK,hlen,lF⟩:=r.KO wU ao he;rw [az,hs]at ap;cases wV:(fY u).isAgg with
   |true =>
    rw [wV]at ap;simp only [n1,if_true]at ap;split at ap
    ·rename_i cs
     have key:∀(l:List J),(∀(j:Nat)(br:J),l[j]? =some br→cs[a.fld+j]? =some br)→l.length=hZ.size→ ∃a8,(Instr.loadAt t (.pointer (some (p.at a.idx a.fld)))).run P w=.ok a8 w∧aA φ (.agg l) a8:=by
      intro l aF pk
      obtain⟨vs,kZ,rZ, -⟩:=wT (φ:=φ) (w:=w) (b:=p.bD) (o:=p.off+(a.idx-p.aB)*p.es+a.fld) (l:=l) (fun j br ay=>by
       obtain⟨x,g1,g2⟩:=lF (a.fld+j) br (aF j br ay)
       exact⟨x,by rw [Place.at,←Nat.add_assoc]at g1;exact g1,g2⟩)
      refine⟨.agg vs.toArray,?_,by simp only [aA];exact⟨_,rfl,by simpa using kZ⟩⟩;exact run_loadAt_mid w p.bD _ t vs u rZ hu (by cases u<;>simp [fY,gQ.isAgg]at wV⊢) (by rw [gR];simp [kZ.length,pk])
     split at ap
     ·rename_i ar;simp at ap;subst ap;exact key cs (fun j br ay=>by rw [ar.1,Nat.zero_add];exact ay) ar.2.symm
     ·split at ap
      ·rename_i ar;simp at ap;subst ap;refine key _ (fun j br ay=> ?_) (by simp;omega);rw [List.getElem?_take]at ay;split at ay
       ·rw [List.getElem?_drop]at ay;exact ay
       ·simp at ay
      ·cases ap
    ·cases ap
   |false =>
    rw [wV]at ap
    have key:∀(j:Nat)(y:J),e.cells[j]? =some y→a.fld=j→ ∃a8,(Instr.loadAt t (.pointer (some (p.at a.idx a.fld)))).run P w=.ok a8 w∧aA φ y a8:=by intro j y bi ay;subst ay;obtain⟨x,g1,g2⟩:=lF a.fld y bi;refine⟨x,?_,g2.1⟩;simp only [Instr.loadAt,Instr.sureAddr,Sem.run_bind,Sem.run_pure,Result.andThen_ok,loadVar,qx hu,wV];simp [g1]
    simp only [n1]at ap;cases e with
    |agg cs=>exact key a.fld v ap rfl
    |_ =>
     simp at ap;obtain⟨aS,rfl⟩:=ap;exact key 0 _ (by simp [J.cells]) aS
  ·cases ap
 ·cases ap
theorem aA.KP{a:J}{v:Value}(h:aA φ a v)(hs:a.iG=true):v.oneCell'=true:=by
 cases a with
 |undef=>cases hs
 |agg cs=>cases hs
 |tuple cs=>cases hs
 |bool b=>simp only [aA]at h;subst h;rfl
 |int k n=>simp only [aA]at h;subst h;rfl
 |str s=>simp only [aA]at h;obtain⟨_,rfl,_⟩:=h;rfl
 |ptr o=>cases o with
  |none=>simp only [aA]at h;subst h;rfl
  |some x=>simp only [aA]at h;obtain⟨_,rfl,_⟩:=h;rfl
 |slice o l c=>cases o with
  |none=>simp only [aA]at h;obtain⟨rfl,_⟩:=h;rfl
  |some x=>simp only [aA]at h;obtain⟨_,_,rfl,_⟩:=h;rfl
 |func fn f c=>simp only [aA]at h;obtain⟨_,_,rfl,_⟩:=h;rfl
 |nilFunc=>simp only [aA]at h;subst h;rfl
 |iface t x=>simp only [aA]at h;obtain⟨_,rfl,_⟩:=h;rfl
 |nilIface=>simp only [aA]at h;subst h;rfl
end
end
end Go.ba
namespace Go.ba
noncomputable section
open Go.RowKit
section
variable {P:Program}{φ:Map}
theorem Aa{v:J}(h:v.iG=true):v.cells=[v]:=by cases v<;>first|rfl|(simp [J.iG]at h)
theorem pn{v:J}{isA:Bool}{size:Nat}(h:v.fits isA size=true):v.cells.length=size∧v≠ .undef∧∀c∈v.cells,c.iG=true:=by cases v<;>simp [J.fits,J.cells,J.iG]at h⊢ <;>first|exact h.2.symm|exact⟨h.1.2,h.2⟩|skip
theorem bd.one{l:List J}{t:List Value}(h:bd φ l t)(hs:∀c∈l,c.iG=true):∀x∈t,x.oneCell'=true:=by
 intro x ab;obtain⟨i,ac,rfl⟩:=List.mem_iff_getElem.1 ab;have du:i<l.length:=by rw [←h.length];exact ac
 obtain⟨v,a7,dR⟩:=h.get (List.getElem?_eq_getElem du);rw [List.getElem?_eq_getElem ac]at a7;simp at a7;subst a7;exact dR.KP (hs _ (List.getElem_mem _))
theorem KQ{D:c5}(cp:D.dG P){N0:Nat→Prop}{h h':I}{w0 w:World}(r:ch φ N0 h w)(cS:Safe N0 w0 w){t:TypeId}{a:aO}{v:J}{br a8:Value}
 (ab:aA φ (.ptr (some a)) br) (a7:aA φ v a8) (ap:e7 D t a v h=some h') :
 ∃aN,(Instr.storeAt t br a8).run P w=.ok () aN∧ch φ N0 h' aN∧Safe N0 w0 aN∧h'.next=h.next:=by
 unfold e7 at ap;split at ap
 ·rename_i d b aM ao;obtain⟨hZ,u,gR,hu,az,hs, -⟩:=cp.get aM;split at ap
  ·rename_i ar;simp only [Bool.and_eq_true,Bool.not_eq_true',beq_iff_eq]at ar;obtain⟨⟨Ab,dD⟩,ld⟩:=ar;split at ap
   ·rename_i e he;split at ap
    ·rename_i e' kx;simp at ap;subst ap;simp only [aA]at ab;obtain⟨eP,rfl,p,ag,eA,dK,rfl⟩:=ab;rw [ld]at ag;obtain⟨f1,f2,f3⟩:=pn Ab;have cP:=a7.cells f2;have hD:=cP.one f3;obtain⟨U,c,ak,aP,bQ,ct,cL,eT,bZ⟩:=r.cO _ _ _ ag;rw [ao]at ak;simp at ak;subst ak;have qt:a.idx<b.a'.length:=(List.getElem?_eq_some_iff.1 he).1;obtain⟨bU,b8,dj⟩:=bZ.cont a.idx e dK (by simp [aJ.cj];exact qt) he
     have EB:a.fld+v.cells.length≤p.es∧e'.cells=hf e.cells a.fld v.cells:=by
      unfold n3 at kx;split at kx
      ·rename_i cs;split at kx
       ·rename_i hle;simp at kx;subst kx;simp only [J.cells]at bU;exact⟨by omega,rfl⟩
       ·cases kx
      ·rename_i cg;split at kx
       ·rename_i ar;simp at kx;subst kx;have bo:e.cells=[e]:=by cases e<;>first|rfl|exact absurd rfl (cg _)
        rw [bo]at bU⊢;have bO:=Aa ar.2;rw [ar.1,bO];simp at bU;exact⟨by simp;omega,rfl⟩
       ·cases kx
     obtain⟨k1,k2⟩:=r.store ag ao dD dK he cP hD EB.1 EB.2;refine⟨_,?_,k1,?_,rfl⟩
     ·have di:a8.cells.size=hZ.size:=by have:=cP.length;rw [Array.length_toList]at this;omega
      have gT:=run_storeCells_cells (P:=P) p.bD (p.off+(a.idx-p.aB)*p.es+a.fld) a8.cells.toList 0 w (fun j ay=>by simpa using (k2 j ay).1) (fun j ay=>by simpa using (k2 j ay).2) hD;simp only [Nat.add_zero]at gT;simp only [Instr.storeAt,Instr.sureAddr,Sem.run_bind,Sem.run_pure,Result.andThen_ok,storeVar,kt gR,di,Place.at];simp only [ne_eq,not_true_eq_false,if_false];exact gT
     ·exact rS _ (bZ.base (cL dD)) _ _ cS
    ·cases ap
   ·cases ap
  ·cases ap
 ·cases ap
theorem KR(v:J):flat [v]=v.cells:=by simp [flat]
theorem EC{D:c5}{N0:Nat→Prop}{h:I}{w0 w:World}(r:ch φ N0 h w)(cS:Safe N0 w0 w)(bA:dW N0 w0.heap.size){nid:Nat}(hid:∀v,φ nid v=none)(be:nid<h.next)(t:TypeId){v:J}{a8:Value}{isA:Bool}{size:Nat}
 (a7:aA φ v a8) (Ab:v.fits isA size=true) (jA:0<size) :
 ∃aN bj,(newVar t a8).run P w=.ok ⟨w.heap.size,0,none⟩ aN∧fK φ bj h.next nid∧aA bj (.ptr (some ⟨nid,0,0,0,size⟩)) (.pointer (some ⟨w.heap.size,0,none⟩))
  ∧ch bj N0 (h.set nid (.made [v] size true (some (t,size)))) aN∧Safe N0 w0 aN:=by
 obtain⟨f1,f2,f3⟩:=pn Ab;have cP:=a7.cells f2;have hD:=cP.one f3;have hlen:a8.cells.toList.length=size:=by rw [cP.length,f1]
 have iJ:dW N0 w.heap.size:=bA.le cS.size;refine⟨w.alloc (.cells a8.cells t),φ.add nid 0 ⟨w.heap.size,0,0,size,1,true,false⟩,rfl,fK.add φ _ (hid 0) _,?_,?_,cS.alloc iJ _⟩
 ·simp only [aA];refine⟨_,rfl,_,Map.rP _ _ _ _,rfl,Nat.le_refl _,?_⟩;simp [Place.at]
 ·refine r.made hid be iJ jA (by intro e he;simp at he;subst he;exact f1) ?_ ?_ (by simp) ?_ (fun q h=>by cases h;exact⟨rfl,fun _=>by rw [←Array.length_toList,hlen]⟩)
  ·rw [KR,List.take_of_length_le (by simp [hlen])];exact cP
  ·rw [←Array.length_toList,hlen];omega
  ·intro x ab;exact hD x (List.mem_of_mem_take ab)
def tI(l:List Value)(i:Nat):List Value→List Value
 |[]=>l
 |v::vs=>tI (l.set i v) (i+1) vs
theorem bd.put{l m:List J}{t u:List Value}(h:bd φ l t)(k:bd φ m u)(i:Nat):bd φ (ba.hf l i m) (tI t i u):=by
 induction m generalizing l t u i with
 |nil=>simp only [bd]at k;subst k;exact h
 |cons a r ih =>
  simp only [bd]at k;obtain⟨v,qz,rfl,U,ak⟩:=k;exact ih (h.set i U) ak (i+1)
theorem ED:∀(vs:List Value)(off k:Nat)(cells:Array Value),((vs.zipIdx k).foldl (fun cs (x:Value×Nat)=>cs.setIfInBounds (off+x.2) x.1) cells).toList=tI cells.toList (off+k) vs
 |[],off,k,cells=>rfl
 |v::vs,off,k,cells=>by simp only [List.zipIdx_cons,List.foldl_cons,tI];rw [ED vs off (k+1),Array.toList_setIfInBounds,Nat.add_assoc]
theorem EE(vs:Array Value)(off:Nat)(cells:Array Value):(vs.zipIdx.foldl (fun cs (x:Value×Nat)=>cs.setIfInBounds (off+x.2) x.1) cells).toList=tI cells.toList off vs.toList:=by rw [←Array.foldl_toList,Array.toList_zipIdx];exact ED vs.toList off 0 cells
theorem Ac{place place':Nat→Option (Nat×Nat)}(ag:∀i x,place i=some x→place' i=some x):∀{parts:List (Nat×J)} {qA:List (Nat×Value)} {l ds:List J} {cells:Array Value},
 (parts.map (·.1)=qA.map (·.1))→bd φ (parts.map (·.2)) (qA.map (·.2))→bd φ l cells.toList→rM place l parts=some ds →
 ∃jB,Instr.fill place' cells qA=some jB∧bd φ ds jB.toList
 |[],[],l,ds,cells,_,_,aF,h=>by simp [rM]at h;subst h;exact⟨cells,rfl,aF⟩
 |[],_::_,_,_,_,h,_,_,_=>by simp at h
 |_::_,[],_,_,_,h,_,_,_=>by simp at h
 |(i, v)::rest,(eo,a8)::fA,l,ds,cells,U,ak,aF,h=>by
  simp at U;obtain⟨rfl,U⟩:=U;simp only [List.map_cons,bd]at ak;obtain⟨u,t,e,a7,ak⟩:=ak;simp at e;obtain⟨rfl,rfl⟩:=e;simp only [rM]at h;split at h
  ·cases h
  ·rename_i off size lH;split at h
   ·rename_i ar;have cP:=a7.cells (by rintro rfl;simp [J.known]at ar);have di:a8.cells.size=size:=by have:=cP.length;rw [Array.length_toList]at this;omega
    have dO:cells.size=l.length:=by have:=aF.length;rw [Array.length_toList]at this;omega
    have key:=Ac ag U ak (l:=hf l off v.cells) (cells:=a8.cells.zipIdx.foldl (fun cs (x:Value×Nat)=>cs.setIfInBounds (off+x.2) x.1) cells)
     (by rw [EE];exact aF.put cP off) h
    obtain⟨jB,k1,k2⟩:=key;refine⟨jB,?_,k2⟩;simp only [Instr.fill,ag _ _ lH];split
    ·rename_i Ad;exfalso;simp only [ne_eq,Bool.or_eq_true,decide_eq_true_eq]at Ad;omega
    ·exact k1
   ·cases h
theorem Ae(parts:Array (Nat×Operand))(ρ:Operand→J)(ρ':Operand→Value) :
 (parts.toList.map fun p=>(p.1,ρ p.2)).map (·.1)=((parts.map fun(i,x)=>(i,ρ' x)).toList).map (·.1):=by
 simp only [Array.toList_map,List.map_map];rfl
theorem Af{ρ:Operand→J}{ρ':Operand→Value}(b1:∀x,aA φ (ρ x) (ρ' x))(parts:Array (Nat×Operand)) :
 bd φ ((parts.toList.map fun p=>(p.1,ρ p.2)).map (·.2)) (((parts.map fun(i,x)=>(i,ρ' x)).toList).map (·.2)):=by
 simp only [Array.toList_map,List.map_map];exact bd.map _ _ _ fun x _=>b1 x.2
theorem qB{D:c5}(cp:D.dG P){t:TypeId}{d:o4}{i:TypeInfo}{z:J}(h:d.zero=i.zero.map o3)(cl:d.zero=some z):∃eC,i.zero=some eC∧aA φ z eC:=by
 rw [cl]at h;cases ac:i.zero with
 |none=>rw [ac]at h;cases h
 |some eC=>rw [ac]at h;simp at h;subst h;exact⟨eC,rfl,Eb φ eC⟩
theorem KS{fs:Array Field}{w:World}{g:Field→Nat}(an:∀f∈fs.toList,(sizeOf f.type).run P w=.ok (g f) w) :
 ((fs.mapM fun f=>(do pure (f.offset,←sizeOf f.type):Sem (Nat×Nat)))).run P w=.ok (fs.map fun f=>(f.offset,g f)) w:=by
 have key:∀(l:List Field),(∀f∈l,(sizeOf f.type).run P w=.ok (g f) w)→(l.mapM fun f=>(do pure (f.offset,←sizeOf f.type):Sem (Nat×Nat))).run P w=.ok (l.map fun f=>(f.offset,g f)) w:=by
  intro l;induction l with
  |nil=>intro _;rfl
  |cons f r ih =>
   intro h;simp only [List.mapM_cons,Sem.run_bind,h f (by simp),Result.andThen_ok,Sem.run_pure,ih (fun f aS=>h f (by simp [aS])),List.map_cons]
 have:=key fs.toList an;rw [←Array.toArray_toList (xs:=fs)];simp only [List.mapM_toArray,Sem.run_map,this,Result.andThen_ok,List.map_toArray]
theorem KT{D:c5}(cp:D.dG P){t:TypeId}{parts:Array (Nat×Operand)}{ρ:Operand→J}{ρ':Operand→Value}(b1:∀x,aA φ (ρ x) (ρ' x)){v:J}
 (h:zy D t (parts.toList.map fun p=>(p.1,ρ p.2))=some v) (w:World) :
 ∃a8,(Instr.build t (parts.map fun(i,x)=>(i,ρ' x))).run P w=.ok a8 w∧aA φ v a8:=by
 unfold zy at h;split at h
 ·rename_i d aM;obtain⟨hZ,u,gR,hu,az,hs, -,cl⟩:=cp.get aM;split at h
  ·rename_i fs z dz Ag;split at h
   ·rename_i r1;rw [az]at dz;obtain⟨k8,rfl,k9⟩:=wM dz;obtain⟨eC,jb,gv⟩:=qB (P:=P) (φ:=φ) (t:=t) cp cl Ag;simp only [Option.map_eq_some_iff]at h;obtain⟨cells,ar,rfl⟩:=h
    have di:∀f∈k8.toList,∃x,D f.type=some x:=by intro f aS;have Ah:=r1.2;unfold Ea at Ah;rw [k9,List.all_eq_true]at Ah;have:=Ah (f.offset,f.type) (List.mem_map.2 ⟨f,aS,rfl⟩);exact Option.isSome_iff_exists.1 this
    have gT:=KS (P:=P) (w:=w) (fs:=k8) (g:=fun f=>((D f.type).map (·.size)).getD 0) (fun f aS=>by
     obtain⟨x,ab⟩:=di f aS;obtain⟨dm,mg,eI, -, -,ee, -⟩:=cp.get ab
     rw [kt eI,ab];simp [ee])
    have Ai:z≠ .undef:=by rintro rfl;simp [J.known]at r1
    obtain⟨jB,k1,k2⟩:=Ac (φ:=φ) (place':=fun i=>(k8.map fun f=>(f.offset,((D f.type).map (·.size)).getD 0))[i]?) (fun i x ab=>by
     split at ab
     ·rename_i off ng aS;simp only [Option.map_eq_some_iff]at ab;obtain⟨y,bi,rfl⟩:=ab;rw [k9]at aS;simp only [List.getElem?_map,Option.map_eq_some_iff]at aS;obtain⟨rX,pi,he⟩:=aS;simp at he;obtain⟨rfl,rfl⟩:=he;have tF:k8[i]? =some rX:=by simpa using pi
      simp [tF,bi]
     ·cases ab) (Ae parts ρ ρ') (Af b1 parts) (gv.cells Ai) ar
    refine⟨.agg jB,?_,by simp only [aA];exact⟨_,rfl,k2⟩⟩;simp only [Instr.build,Sem.run_bind,rU gR jb,Result.andThen_ok,run_underlying hu,gT,k1,Sem.run_pure]
   ·cases h
  ·rename_i n e z dz Ag;split at h
   ·rename_i b' eU;split at h
    ·rename_i r1;rw [az]at dz;have:=rT dz;subst this;obtain⟨eC,jb,gv⟩:=qB (P:=P) (φ:=φ) (t:=t) cp cl Ag;obtain⟨dm,mg,eI, -, -,ee, -⟩:=cp.get eU;simp only [Option.map_eq_some_iff]at h;obtain⟨cells,ar,rfl⟩:=h;have Ai:z≠ .undef:=by rintro rfl;simp [J.known]at r1
     obtain⟨jB,k1,k2⟩:=Ac (φ:=φ) (place':=fun i=>some (i*dm.size,dm.size)) (fun i x ab=>by rw [←ee];exact ab) (Ae parts ρ ρ') (Af b1 parts) (gv.cells Ai) ar;refine⟨.agg jB,?_,by simp only [aA];exact⟨_,rfl,k2⟩⟩;simp only [Instr.build,Sem.run_bind,rU gR jb,Result.andThen_ok,run_underlying hu,kt eI,k1,Sem.run_pure]
    ·cases h
   ·cases h
  ·cases h
 ·cases h
end
end
end Go.ba
namespace Go.ba
noncomputable section
open Go.RowKit
section
variable {P:Program}{φ:Map}
def oe(P:Program)(φ:Map)(N0:Nat→Prop)(w0:World)(h:I)(nid:Nat)(v:J)(h':I)(s:Sem Value)(w:World):Prop :=
 ∃a8 aN bj,s.run P w=.ok a8 aN∧fK φ bj h.next nid∧aA bj v a8∧ch bj N0 h' aN∧Safe N0 w0 aN∧h'.next=h.next
theorem oe.pure{N0:Nat→Prop}{w0:World}{h:I}{nid:Nat}{v:J}{s:Sem Value}{w:World}(r:ch φ N0 h w)(ao:Safe N0 w0 w)(k:∃a8,s.run P w=.ok a8 w∧aA φ v a8):oe P φ N0 w0 h nid v h s w :=
 let ⟨a8,U,ak⟩:=k;⟨a8,w,φ,U,fK.refl _ _ _,ak,r,ao,rfl⟩
theorem KU(zs:Array Value)(i:Nat)(h:i<zs.size):zs[i]! =zs[i]:=by simp [getElem!_pos,h]
theorem Aj{z:J}{eC:Value}{es:Nat}(cl:aA φ z eC)(az:z≠ .undef)(hlen:z.cells.length=es)(eA:0<es)(n:Nat) :
 bd φ (flat (List.replicate n z)) ((Array.range (n*es)).map (fun i=>eC.cells[i%eC.cells.size]!)).toList:=by
 have ar:=cl.cells az;have di:eC.cells.size=es:=by have:=ar.length;rw [Array.length_toList]at this;omega
 have gu:∀e∈List.replicate n z,e.cells.length=es:=by intro e he;rw [List.eq_of_mem_replicate he];exact hlen
 refine bd.io (by rw [ko gu];simp) fun i a v aW a7=> ?_
 have ac:i<(flat (List.replicate n z)).length:=(List.getElem?_eq_some_iff.1 aW).1;obtain⟨q,j,e,rfl,he,ay⟩:=wK gu i ac;have KV:e=z:=List.eq_of_mem_replicate (List.mem_of_getElem? he);subst KV;have tJ:e.cells[j]? =some (e.cells[j]'(by omega)):=List.getElem?_eq_getElem _;have aS:=mb gu he tJ;rw [aS]at aW;simp at aW;subst aW;have KW:(q*es+j)%es=j:=by rw [Nat.add_comm,Nat.add_mul_mod_self_right];exact Nat.mod_eq_of_lt ay
 have bH:q*es+j<n*es:=by rw [ko gu]at ac;simpa using ac
 obtain⟨u,hu,zI⟩:=ar.get tJ
 have KX:eC.cells[j]'(by omega)=u:=by have:=(List.getElem?_eq_some_iff.1 hu).2;simpa using this
 simp only [Array.toList_map,Array.toList_range,List.getElem?_map,List.getElem?_range bH,Option.map_some,Option.some.injEq]at a7;rw [di,KW,KU _ _ (by omega),KX]at a7;subst a7;exact zI
theorem EF:∀{parts:List (Nat×J)} {l ds:List J},l6 l parts=some ds→ds.length=l.length
 |[],l,ds,h=>by simp [l6]at h;subst h;rfl
 |(i,v)::r,l,ds,h=>by
  simp only [l6]at h;split at h
  ·rw [EF h];simp
  ·cases h
theorem KY{es:Nat} :∀{l:List J}(aF:∀e∈l,e.cells.length=es){i:Nat}{v:J},i<l.length→v.cells.length=es→flat (l.set i v)=hf (flat l) (i*es) v.cells:=by
 intro l aF i v ac a7
 have r2:∀e∈l.set i v,e.cells.length=es:=by
  intro e he;rcases List.mem_or_eq_of_mem_set he with h|h
  ·exact aF e h
  ·rw [h];exact a7
 apply List.ext_getElem?;intro k;rw [rQ];by_cases az:k<(flat (l.set i v)).length
 ·obtain⟨q,j,e,rfl,he,ay⟩:=wK r2 k az;have KZ:e.cells.length=es:=r2 e (List.mem_of_getElem? he);rw [mb r2 he (List.getElem?_eq_getElem (by omega:j<e.cells.length))];have k7:q*es+j<(flat l).length:=by rw [ko aF];rw [ko r2,List.length_set]at az;exact az
  by_cases lf:i=q
  ·subst lf;rw [List.getElem?_set_self ac]at he;simp at he;subst he;rw [if_pos ⟨by omega,by rw [a7];omega,k7⟩,show i*es+j-i*es=j by omega,List.getElem?_eq_getElem (by omega)]
  ·rw [List.getElem?_set_ne lf]at he;rw [if_neg]
   ·rw [mb aF he (List.getElem?_eq_getElem (by omega:j<e.cells.length))]
   ·intro ar;rcases Nat.lt_or_ge q i with bH|hh
    ·have:=rR (i:=q) (k:=i) (j:=j) (es:=es) bH ay;omega
    ·have:=rR (i:=i) (k:=q) (j:=es-1) (es:=es) (by omega) (by omega);omega
 ·rw [List.getElem?_eq_none (by omega),if_neg (by rw [ko r2,List.length_set]at az;rw [ko aF];omega),List.getElem?_eq_none (by rw [ko aF];rw [ko r2,List.length_set]at az;omega)]
theorem EG{es:Nat} :∀{parts:List (Nat×J)} {qA:List (Nat×Value)} {l ds:List J} {cells:Array Value},
 (parts.map (·.1)=qA.map (·.1))→bd φ (parts.map (·.2)) (qA.map (·.2))→(∀p∈parts,p.2≠ .undef∧p.2.cells.length=es)→(∀e∈l,e.cells.length=es)→bd φ (flat l) cells.toList→l6 l parts=some ds →
 ∃jB,Instr.fill (fun i=>some (i*es,es)) cells qA=some jB∧bd φ (flat ds) jB.toList∧(∀e∈ds,e.cells.length=es)
 |[],[],l,ds,cells,_,_,_,pe,aF,h=>by simp [l6]at h;subst h;exact⟨cells,rfl,aF,pe⟩
 |[],_::_,_,_,_,h,_,_,_,_,_=>by simp at h
 |_::_,[],_,_,_,h,_,_,_,_,_=>by simp at h
 |(i, v)::rest,(eo,a8)::fA,l,ds,cells,U,ak,aP,pe,aF,h=>by
  simp at U;obtain⟨rfl,U⟩:=U;simp only [List.map_cons,bd]at ak;obtain⟨u,t,e,a7,ak⟩:=ak;simp at e;obtain⟨rfl,rfl⟩:=e;simp only [l6]at h;split at h
  ·rename_i ac;obtain⟨K0,kq⟩:v≠ .undef∧v.cells.length=es:=aP (i,v) (by simp);have cP:=a7.cells K0;have di:a8.cells.size=es:=by have:=cP.length;rw [Array.length_toList]at this;omega
   have dO:cells.size=l.length*es:=by have:=aF.length;rw [Array.length_toList,ko pe]at this;omega
   have hle:i*es+es≤l.length*es:=by have:=Nat.mul_le_mul_right es (show i+1≤l.length by omega);rw [Nat.succ_mul]at this;exact this
   have key:=EG U ak (fun p dX=>aP p (by simp [dX])) (l:=l.set i v) (cells:=a8.cells.zipIdx.foldl (fun cs (x:Value×Nat)=>cs.setIfInBounds (i*es+x.2) x.1) cells)
    (by
     intro e he;rcases List.mem_or_eq_of_mem_set he with h|h
     ·exact pe e h
     ·rw [h];exact kq)
    (by rw [EE,KY pe ac kq];exact aF.put cP _) h
   obtain⟨jB,k1,k2,bT⟩:=key;refine⟨jB,?_,k2,bT⟩;simp only [Instr.fill];split
   ·rename_i Ad;exfalso;simp only [ne_eq,Bool.or_eq_true,decide_eq_true_eq]at Ad;omega
   ·exact k1
  ·cases h
theorem Ak{l:List J}{isA:Bool}{es:Nat}(h:∀e∈l,e.fits isA es=true):∀c∈flat l,c.iG=true:=by intro c ar;obtain⟨e,he,K1⟩:=List.mem_flatMap.1 ar;exact(pn (h e he)).2.2 c K1
theorem EH(t:TypeId)(c:Array Value)(w:World):(newRow t c).run P w=.ok ⟨w.heap.size,0,none⟩ (w.alloc (.cells c t)):=rfl
theorem aA.ii{φ:Map}{nid b es len cap tot:Nat}{ex:Bool}{cH:Nat}(Ey:len≤cap)(c0:cap≤cH)(bl:cH≤tot)(hex:ex=true→cH=cap) :
 aA (φ.add nid 0 ⟨b,0,0,es,tot,ex,false⟩) (ii nid es len cap) (.slice (some ⟨b,0,none⟩) len cH):=by
 simp only [ba.ii,aA];refine⟨_,_,rfl,Ey,c0,.inl ⟨rfl,_,Map.rP _ _ _ _,rfl,.inr ⟨Nat.le_refl _,?_,by simpa using bl⟩,hex⟩⟩;simp [Place.at]
theorem K2{D:c5}(cp:D.dG P){N0:Nat→Prop}{h h':I}{w0 w:World}(r:ch φ N0 h w)(cS:Safe N0 w0 w)(bA:dW N0 w0.heap.size){nid:Nat}(hid:∀v,φ nid v=none)(be:nid<h.next)
 {t:TypeId} {n:Nat} {parts:Array (Nat×Operand)} {ρ:Operand→J} {ρ':Operand→Value} (b1:∀x,aA φ (ρ x) (ρ' x)) {v:J}
 (ap:tn D t n (parts.toList.map fun p=>(p.1,ρ p.2)) nid h=some (v,h')) :
 oe P φ N0 w0 h nid v h' (Instr.buildSlice t n (parts.map fun(i,x)=>(i,ρ' x))) w:=by
 unfold tn at ap;split at ap
 ·rename_i d aM;obtain⟨hZ,u,gR,hu,az,hs, -, -⟩:=cp.get aM;split at ap
  ·rename_i e dz;rw [az]at dz;have:=jU dz;subst this;split at ap
   ·rename_i b' eU;obtain⟨dm,mg,eI, -, -,ee, -,qC⟩:=cp.get eU;split at ap
    ·rename_i z cl;obtain⟨eC,jb,gv⟩:=qB (P:=P) (φ:=φ) (t:=e) cp qC cl;split at ap
     ·rename_i ar;obtain⟨nn,od,mh,po⟩:=ar;split at ap
      ·rename_i l aF;simp at ap;obtain⟨rfl,rfl⟩:=ap;obtain⟨f1,f2,f3⟩:=pn mh;have jA:0<dm.size:=by omega
       have tK:∀e∈List.replicate n z,e.fits b'.kind.isAgg b'.size=true:=by intro e he;rw [List.eq_of_mem_replicate he];exact mh
       have K3:∀e∈l,e.fits b'.kind.isAgg b'.size=true:=by
        have key:∀(parts:List (Nat×J)) (m gH:List J),(∀p∈parts,p.2.fits b'.kind.isAgg b'.size=true)→(∀e∈m,e.fits b'.kind.isAgg b'.size=true)→l6 m parts=some gH→ ∀e∈gH,e.fits b'.kind.isAgg b'.size=true:=by
         intro parts;induction parts with
         |nil=>intro m gH _ hm hs;simp [l6]at hs;subst hs;exact hm
         |cons p r ih =>
          obtain⟨i,v⟩:=p;intro m gH ag hm hs;simp only [l6]at hs;split at hs
          ·refine ih (m.set i v) gH (fun p dX=>ag p (by simp [dX])) ?_ hs;intro e he;rcases List.mem_or_eq_of_mem_set he with h|h
           ·exact hm e h
           ·rw [h];exact ag (i,v) (by simp)
          ·cases hs
        exact key _ _ _ (fun p ag=>List.all_eq_true.1 po p ag) tK aF
       obtain⟨jB,k1,k2,bT⟩:=EG (φ:=φ) (es:=dm.size) (Ae parts ρ ρ') (Af b1 parts)
        (fun p ag=>by have:=pn (List.all_eq_true.1 po p ag);exact⟨this.2.1,by omega⟩)
        (by intro e he;rw [List.eq_of_mem_replicate he];omega)
        (Aj gv f2 (by omega:z.cells.length=dm.size) jA n) aF
       have pk:l.length=n:=by rw [EF aF];simp
       have iJ:dW N0 w.heap.size:=bA.le cS.size;have k9:(flat l).length=n*dm.size:=by rw [ko bT,pk]
       have dO:jB.size=n*dm.size:=by have:=k2.length;rw [Array.length_toList]at this;omega
       refine⟨.slice (some ⟨w.heap.size,0,none⟩) n n,w.alloc (.cells jB e),φ.add nid 0 ⟨w.heap.size,0,0,b'.size,n,true,false⟩,?_,fK.add φ _ (hid 0) _,aA.ii (Nat.le_refl _) (Nat.le_refl _) (Nat.le_refl _) (fun _=>rfl),?_,cS.alloc iJ _,rfl⟩
       ·have hle:¬n*dm.size>2^24:=by rw [←ee];omega
        simp only [Instr.buildSlice,Sem.run_bind,run_underlying hu,Result.andThen_ok,kt eI];rw [if_neg hle];by_cases ky:n*dm.size=0
        ·have K4:n=0:=by rcases Nat.mul_eq_zero.1 ky with h|h<;>omega
         subst K4;simp only [Nat.zero_mul,if_true,Sem.run_bind,Sem.run_pure,Result.andThen_ok]at k1⊢;have e0:(Array.range 0).map (fun i=>(#[]:Array Value)[i%(#[]:Array Value).size]!)=(Array.range 0).map (fun i=>eC.cells[i%eC.cells.size]!):=by simp
         rw [e0,k1];rfl
        ·rw [if_neg ky];simp only [Sem.run_bind,rU eI jb,Result.andThen_ok,Sem.run_pure,k1];rfl
       ·refine r.made hid be iJ od (by intro e he;rw [bT e he,ee]) ?_ (by rw [dO,ee];exact Nat.le_refl _) (by omega) ?_ nofun
        ·rw [List.take_of_length_le (by rw [Array.length_toList,dO,pk,ee];exact Nat.le_refl _)];exact k2
        ·intro x ab;exact k2.one (Ak K3) x (List.mem_of_mem_take ab)
      ·cases ap
     ·cases ap
    ·cases ap
   ·cases ap
  ·cases ap
 ·cases ap
theorem EI{k:IntKind}{n:Int}(h:0≤n)(ak:n<2^62)(az:k=.i64):k.wrap n=n:=by
 subst az;have e:(2:Int)^62=4611686018427387904:=by decide
 exact IntWalk.i64_in _ (by omega)
theorem K5{D:c5}(cp:D.dG P){N0:Nat→Prop}{h h':I}{w0 w:World}(r:ch φ N0 h w)(cS:Safe N0 w0 w)(bA:dW N0 w0.heap.size){nid:Nat}(hid:∀v,φ nid v=none)(be:nid<h.next)
 {t:TypeId} {x y v:J} {br er:Value} (ab:aA φ x br) (bi:aA φ y er) (ap:n4 D t x y nid h=some (v,h')) :
 oe P φ N0 w0 h nid v h' (Instr.makeSlice t br er) w:=by
 unfold n4 at ap;split at ap
 ·rename_i d k1 l k2 c aM;simp only [aA]at ab bi;subst ab bi;obtain⟨hZ,u,gR,hu,az,hs, -, -⟩:=cp.get aM;split at ap
  ·rename_i e dz;rw [az]at dz;have:=jU dz;subst this;split at ap
   ·rename_i b' eU;obtain⟨dm,mg,eI, -, -,ee,wW,qC⟩:=cp.get eU;split at ap
    ·rename_i z cl;obtain⟨eC,jb,gv⟩:=qB (P:=P) (φ:=φ) (t:=e) cp qC cl;split at ap
     ·rename_i ar;obtain⟨nn,od,mh,po,K6,EJ⟩:=ar;simp at ap;obtain⟨rfl,rfl⟩:=ap;obtain⟨f1,f2,f3⟩:=pn EJ;have jA:0<dm.size:=by omega
      have iJ:dW N0 w.heap.size:=bA.le cS.size;have pq:IntKind.i64.wrap l=l:=EI nn (by omega) rfl;have K7:IntKind.i64.wrap c=c:=EI (by omega) mh rfl;have tL:=Aj gv f2 (by omega:z.cells.length=dm.size) jA c.toNat;have tK:∀e∈List.replicate c.toNat z,e.fits b'.kind.isAgg b'.size=true:=by intro e he;rw [List.eq_of_mem_replicate he];exact EJ
      have gu:∀e∈List.replicate c.toNat z,e.cells.length=dm.size:=by intro e he;rw [List.eq_of_mem_replicate he];omega
      refine⟨.slice (some ⟨w.heap.size,0,none⟩) l.toNat c.toNat,w.alloc (.cells ((Array.range (c.toNat*dm.size)).map (fun i=>eC.cells[i%eC.cells.size]!)) e),
       φ.add nid 0 ⟨w.heap.size,0,0,b'.size,c.toNat,true,false⟩,?_,fK.add φ _ (hid 0) _,aA.ii (by omega) (Nat.le_refl _) (Nat.le_refl _) (fun _=>rfl),?_,cS.alloc iJ _,rfl⟩
      ·have c0:¬c<0:=by omega
       have pk:¬l<0:=by omega
       have EK:¬l>c:=by omega
       have tM:¬((dm.bytes:Int)*c>2^48):=by rw [←wW];omega
       simp only [Instr.makeSlice,Sem.run_bind,run_underlying hu,Result.andThen_ok,asInt,asIntOf,Sem.run_pure,Km eI,pq,K7];rw [if_neg (by simp only [Bool.or_eq_true,decide_eq_true_eq];omega)];simp only [Sem.run_bind,Sem.run_pure,run_askRoom,Result.andThen_ok,kt eI];by_cases ky:c.toNat*dm.size=0
       ·have e0:c.toNat*dm.size=0:=ky;rw [if_pos ky];have bo:Array.range 0= #[]:=rfl;simp only [Sem.run_bind,Sem.run_pure,Result.andThen_ok,e0,EH,bo];simp
       ·rw [if_neg ky];simp only [Sem.run_bind,rU eI jb,Result.andThen_ok,Sem.run_pure,EH]
      ·refine r.made hid be iJ K6 (by intro e he;rw [gu e he,ee]) ?_ (by rw [ee];simp) (by simp) ?_ nofun
       ·rw [List.take_of_length_le (by simp [ee])];exact tL
       ·intro x ab;exact tL.one (Ak tK) x (List.mem_of_mem_take ab)
     ·cases ap
    ·cases ap
   ·cases ap
  ·cases ap
 ·cases ap
theorem K8{D:c5}(cp:D.dG P){t:TypeId}{x v:J}{xs:Array Value}{ts:Array TypeId}(ty:TypeId)(ab:bd φ [x] xs.toList)(bl:ts[0]? =some t)(h:zC D t x=some v)(w:World) :
 ∃a8,(Builtin.len_ ts ty xs).run P w=.ok a8 w∧aA φ v a8:=by
 simp only [bd]at ab;obtain⟨br,l,e,ab,aF⟩:=ab;have pr:xs[0]? =some br:=by rw [←Array.getElem?_toList,e];rfl
 unfold zC at h;split at h
 ·rename_i d a n c aM;obtain⟨hZ,u,gR,hu,az, -⟩:=cp.get aM;split at h
  ·rename_i e dz;rw [az]at dz;have:=jU dz;subst this;simp at h;subst h;refine⟨.int .i64 n,?_,by simp only [aA]⟩
   have:∃bN eN,br=.slice bN n eN:=by
    cases a with
    |none=>simp only [aA]at ab;obtain⟨rfl,rfl,rfl⟩:=ab;exact⟨_,_,rfl⟩
    |some a=>simp only [aA]at ab;obtain⟨_,_,rfl,_⟩:=ab;exact⟨_,_,rfl⟩
   obtain⟨bN,eN,rfl⟩:=this;simp [Builtin.len_,bl,pr,run_underlying hu,goInt]
  ·cases h
 ·rename_i d s aM;obtain⟨hZ,u,gR,hu,az, -⟩:=cp.get aM;split at h
  ·rename_i dz;rw [az]at dz;have:=pf dz;subst this;simp at h;subst h;simp only [aA]at ab;obtain⟨bm,rfl,rfl⟩:=ab;refine⟨.int .i64 bm.size,?_,by simp only [aA];rfl⟩;simp [Builtin.len_,bl,pr,run_underlying hu,goInt]
  ·cases h
 ·rename_i d aM _ _;obtain⟨hZ,u,gR,hu,az, -⟩:=cp.get aM;split at h
  ·rename_i n e dz;rw [az]at dz;have:=rT dz;subst this;simp at h;subst h;refine⟨.int .i64 n,?_,by simp only [aA]⟩;simp [Builtin.len_,bl,pr,run_underlying hu,goInt]
  ·cases h
 ·cases h
end
end
end Go.ba
namespace Go.ba
noncomputable section
open Go.RowKit
section
variable {P:Program}{φ:Map}
theorem ch.wX{N0:Nat→Prop}{h:I}{w:World}(r:ch φ N0 h w){id ver:Nat}{p:Place}(ag:φ id ver=some p){b:aJ}(ao:h.get id=some b){idx len:Nat}
 (dK:p.aB≤idx) (aF:idx+len≤b.cj ver) (hle:idx+len≤b.a'.length) :
 ∃news,bd φ (flat ((b.a'.drop idx).take len)) news∧w.rangeAt p.bD (p.off+(idx-p.aB)*p.es) news∧(∀x∈news,x.oneCell'=true)∧(∀e∈(b.a'.drop idx).take len,e.cells.length=p.es)∧news.length=len*p.es:=by
 obtain⟨U,c,ak,aP,bQ,ct,cL,eT,bZ⟩:=r.cO _ _ _ ag;rw [ao]at ak;simp at ak;subst ak
 have hl:∀(i:Nat)(e:J),((b.a'.drop idx).take len)[i]? =some e→i<len∧b.a'[idx+i]? =some e:=by
  intro i e he;rw [List.getElem?_take]at he;split at he
  ·rw [List.getElem?_drop]at he;exact⟨by assumption,he⟩
  ·simp at he
 have gu:∀e∈(b.a'.drop idx).take len,e.cells.length=p.es:=by intro e he;obtain⟨i,ac⟩:=List.getElem?_of_mem he;obtain⟨g1,g2⟩:=hl i e ac;exact(bZ.cont (idx+i) e (by omega) (by omega) g2).1
 obtain⟨news,bK,n2,b2⟩:=wT (φ:=φ) (w:=w) (b:=p.bD) (o:=p.off+(idx-p.aB)*p.es) (l:=flat ((b.a'.drop idx).take len)) (fun k br az=>by
  have k7:=(List.getElem?_eq_some_iff.1 az).1;obtain⟨i,j,e,rfl,he,ay⟩:=wK gu k k7;obtain⟨g1,g2⟩:=hl i e he;have KZ:e.cells.length=p.es:=gu e (List.mem_of_getElem? he);obtain⟨bU,b8,dj⟩:=bZ.cont (idx+i) e (by omega) (by omega) g2;have tJ:e.cells[j]? =some (e.cells[j]'(by omega)):=List.getElem?_eq_getElem _;rw [mb gu he tJ]at az;simp at az;subst az;obtain⟨x,cf,cu⟩:=dj j _ tJ;refine⟨x,?_,cu⟩;have bO:(idx+i-p.aB)*p.es=(idx-p.aB)*p.es+i*p.es:=by rw [←Nat.add_mul];congr 1;omega
  rw [show p.off+(idx-p.aB)*p.es+(i*p.es+j)=p.off+(idx+i-p.aB)*p.es+j by omega]
  exact cf)
 exact⟨news,bK,n2,b2,gu,by rw [bK.length,ko gu];congr 1;simp;omega⟩
theorem wY{N0 : Nat→Prop}{h:I}{w:World}(r:ch φ N0 h w){es:Nat}{x:J}{br:Value}(ab:aA φ x br){l:List J}(he:gj es x h=some l)(eA:0<es){tx:TypeId}
 (az:(∃e',P.underlying tx=some (.slice e'))∨P.underlying tx=some .string) :
 ∃news,Src P es tx br l.length news w∧bd φ (flat l) news∧(∀e∈l,e.cells.length=es):=by
 unfold gj at he;split at he
 ·rename_i c;simp at he;subst he;simp only [aA]at ab;obtain⟨rfl,_,_⟩:=ab;refine⟨[],⟨az,fun _=>rfl,run_firstCells_none w es 0 0 0,run_firstCells_none w.drew es 0 0 0,by simp,by simp⟩,by simp [flat,bd],by simp⟩
 ·rename_i a len cap;simp only [aA]at ab;obtain⟨eP,cH,rfl,dt,bX,f'⟩:=ab
  have r3:len=0→l=[]→ ∃news,Src P es tx (.slice (some eP) len cH) l.length news w∧bd φ (flat l) news∧(∀e∈l,e.cells.length=es):=by rintro rfl rfl;exact⟨[],⟨az,fun _=>rfl,run_firstCells_some w es 0 eP 0 cH [] (by simp) (by simp),run_firstCells_some w.drew es 0 eP 0 cH [] (by simp) (by simp),by simp,by simp⟩,by simp [flat,bd],by simp⟩
  split at he
  ·rename_i aS;obtain⟨p,ag,h1,ir,hex⟩:=f'.plain aS;split at he
   ·rename_i ob;split at he
    ·rename_i b ao;split at he
     ·rename_i bt;simp at he;subst he;exact r3 bt rfl
     ·rename_i bt;split at he
      ·rename_i aF;simp at he;subst he;rcases ir with cl|⟨dK,rfl,k6⟩
       ·omega
       ·obtain⟨_,c,ak,_⟩:=r.cO _ _ _ ag;have hle:a.idx+len≤b.a'.length:=aF.2;obtain⟨news,bK,n2,b2,cY,cU⟩:=r.wX ag ao dK aF.1 hle;have hlen:((b.a'.drop a.idx).take len).length=len:=by simp;omega
        have hG:p.es=es:=by omega
        refine⟨news,?_,bK,by rw [←hG];exact cY⟩;rw [hlen]
        have ar:∀j v,news[j]? =some v→w.cell? ((p.at a.idx 0).add j)=some v:=by intro j v a7;rw [Place.pj,Nat.zero_add];exact n2 j v a7
        exact⟨az,fun _=>rfl,run_firstCells_some w es len _ len cH news (by rw [cU,hG]) ar,run_firstCells_some w.drew es len _ len cH news (by rw [cU,hG]) (by simpa using ar),by rw [cU,hG],b2⟩
      ·cases he
    ·split at he
     ·rename_i bt;simp at he;subst he;exact r3 bt rfl
     ·cases he
   ·cases he
  ·rename_i aS;split at he
   ·rename_i bt;simp at he;subst he;exact r3 bt rfl
   ·rename_i bt;split at he
    ·rename_i U;subst U;split at he
     ·rename_i b ao;split at he
      ·rename_i cs cP;split at he
       ·rename_i ar;simp only [Option.some.injEq]at he;subst he;rcases f' with ⟨K9,_⟩|⟨f,pi,p,ag,h1,dK,rfl⟩
        ·exact absurd K9 aS
        ·simp only at ag h1 dK;obtain⟨g1,fZ,g2,g3,g4,g5,g6,g7,g8⟩:=r.cO _ _ _ ag;rw [ao]at g2;simp at g2;subst g2;have K':a.fld-1=f:=by omega
         rw [K']at ar⊢;unfold aJ.elem? at cP;split at cP
         ·rename_i jx;obtain⟨cC,ci,gI⟩:=g8.cont a.idx _ dK jx cP;have og:((cs.drop f).take len).length=len:=by simp;omega
          obtain⟨vs,v1,v2,v3⟩:=wT (φ:=φ) (w:=w) (b:=p.bD) (o:=p.off+(a.idx-p.aB)*p.es+f) (l:=(cs.drop f).take len) (fun j br ab=>by
           rw [List.getElem?_take]at ab;split at ab
           ·rw [List.getElem?_drop]at ab;obtain⟨x,gw,gk⟩:=gI (f+j) br ab;refine⟨x,?_,gk⟩;rw [←gw];unfold Place.at;congr 2;omega
           ·cases ab)
          have kq:vs.length=len:=by have:=v1.length;omega
          have k9:flat ((cs.drop f).take len)=(cs.drop f).take len:=by
           have hs:=ar.2;generalize (cs.drop f).take len=l at hs;induction l with
           |nil=>rfl
           |cons x r ih =>
            simp only [List.all_cons,Bool.and_eq_true]at hs;have ih:=ih hs.2;simp only [flat,List.flatMap_cons]at ih⊢;rw [Aa hs.1,ih];rfl
          refine⟨vs,?_,by rw [k9];exact v1,fun e he=>by rw [Aa (List.all_eq_true.1 ar.2 e he)];rfl⟩;rw [og]
          have jw:∀j v,vs[j]? =some v→w.cell? ((p.at a.idx f).add j)=some v:=by intro j v a7;rw [Place.pj];have:=v2 j v a7;rw [←this];unfold Place.at;congr 2;omega
          exact⟨az,fun _=>rfl,run_firstCells_some w 1 len _ len cH vs (by omega) jw,run_firstCells_some w.drew 1 len _ len cH vs (by omega) (by simpa using jw),by omega,v3⟩
         ·cases cP
       ·cases he
      ·cases he
     ·cases he
    ·cases he
 ·rename_i s;split at he
  ·rename_i U;subst U;simp at he;subst he;simp only [aA]at ab;obtain⟨bm,rfl,rfl⟩:=ab;have hlen:(bm.data.toList.map fun b=>J.int .u8 b.toNat).length=bm.size:=by rw [List.length_map,Array.length_toList];rfl
   refine⟨byteCells bm,?_,?_,?_⟩
   ·rw [hlen]
    exact⟨az,fun _=>rfl,firstCells_string bm w,firstCells_string bm w.drew,by rw [byteCells_length,Nat.mul_one],fun u hu=>by
     obtain⟨_,_,rfl⟩:=List.mem_map.1 hu
     rfl⟩
   ·have:flat (bm.data.toList.map fun b=>J.int .u8 b.toNat)=bm.data.toList.map fun b=>J.int .u8 b.toNat:=by
     generalize bm.data.toList=l;induction l with
     |nil=>rfl
     |cons a r ih=>simp only [List.map_cons,flat,List.flatMap_cons,J.cells]at ih⊢; rw [ih];rfl
    rw [this];exact bd.map _ _ _ fun b _=>by simp only [aA]
   ·intro e he;obtain⟨b,_,rfl⟩:=List.mem_map.1 he;rfl
  ·cases he
 ·cases he
theorem EL(n:Nat):∀(r c:Nat),c≤n+n/4+512→Builtin.growBy n r c≤n+n/4+512
 |0,c,h=>h
 |r+1,c,h=>by
  simp only [Builtin.growBy];split
  ·exact h
  ·exact EL n r _ (by omega)
theorem nextslicecap_le{ij cap:Nat}(h:cap<ij):Builtin.nextslicecap ij cap≤ij+ij/4+512:=by
 unfold Builtin.nextslicecap;split
 ·omega
 ·split
  ·omega
  ·exact EL _ _ _ (by omega)
theorem La(zs:Array Value)(n:Nat):(Builtin.zeroCells zs n).size=n*zs.size:=by simp [Builtin.zeroCells]
theorem Alike.tN(w:World):Alike w w.drew:=Alike.drew w _
theorem Al{vs:List Value}{zs:Array Value}{n c es:Nat}(aF:vs.length=n*es)(cl:zs.size=es)(be:n≤c) :
 (vs.toArray++Builtin.zeroCells zs (c-n)).size=c*es∧(vs.toArray++Builtin.zeroCells zs (c-n)).toList.take (n*es)=vs:=by
 constructor
 ·simp only [Array.size_append,List.size_toArray,La,aF,cl];rw [←Nat.add_mul];congr 1;omega
 ·simp only [Array.toList_append];rw [List.take_left' (by simpa using aF)]
theorem EM(l m:List J):flat (l++m)=flat l++flat m:=by simp [flat]
theorem Lb{D : c5}(cp:D.dG P){N0:Nat→Prop}{h h':I}{w0 w:World}(r:ch φ N0 h w)(cS:Safe N0 w0 w)(bA:dW N0 w0.heap.size){nid:Nat}(hid:∀v,φ nid v=none)(be:nid<h.next)
 {t tx:TypeId} (ty:TypeId) {s x v:J} {bm br:Value} (hs:aA φ s bm) (ab:aA φ x br)
 (az:(∃e',P.underlying tx=some (.slice e'))∨P.underlying tx=some .string) (ap:hB D t s x nid h=some (v,h')) :
 oe P φ N0 w0 h nid v h' (Builtin.append_ #[t,tx] ty #[bm,br]) w:=by
 unfold hB at ap;split at ap
 ·rename_i d base len cap aM;obtain⟨hZ,u,gR,hu,np,_, -, -⟩:=cp.get aM;split at ap
  ·rename_i e dz;rw [np]at dz;have:=jU dz;subst this;split at ap
   ·rename_i b' eU;obtain⟨dm,mg,eI, -, -,ee,wW,qC⟩:=cp.get eU;split at ap
    ·rename_i new fg;simp only at ap;split at ap
     ·rename_i ar;obtain⟨nn,od,mh,po⟩:=ar;obtain⟨news,src,oh,eV⟩:=wY (P:=P) (tx:=tx) r ab fg nn az;rw [ee]at src;have iJ:dW N0 w.heap.size:=bA.le cS.size
      have wZ:∃eC,dm.zero=some eC∧eC.cells.size=dm.size:=by
       unfold o4.o7 at po;cases tO:b'.zero with
       |none=>simp [tO]at po
       |some z =>
        rw [tO]at po;obtain⟨eC,jb,gv⟩:=qB (P:=P) (φ:=φ) (t:=e) cp qC tO;obtain⟨f1,f2,f3⟩:=pn po;have:=(gv.cells f2).length;rw [Array.length_toList]at this;exact⟨eC,jb,by omega⟩
      obtain⟨eC,jb,tP⟩:=wZ;have V9:(2:Nat)^62=4611686018427387904:=by decide
      have V':(2:Nat)^48=281474976710656:=by decide
      have grow:∀(w1:Option Addr)(cH:Nat)(olds:List Value),(Builtin.firstCells dm.size len (.slice w1 len cH)).run P w.drew=.ok olds.toArray w.drew→cH<len+new.length →
       (Builtin.append_ #[t,tx] ty #[.slice w1 len cH,br]).run P w =
        .ok (.slice (some ⟨w.heap.size,0,none⟩) (len+new.length) (grownCap w (len+new.length) cH e))
         (w.drew.alloc (.cells ((olds++news).toArray++Builtin.zeroCells eC.cells (grownCap w (len+new.length) cH e- (len+new.length))) e)):=by
       intro w1 cH olds hold bH;refine run_append_grow_src w t tx ty e dm eC hu eI jb w1 len cH olds hold br new.length news src bH (by omega) ?_;have U:=nextslicecap_le bH;have ak:=Nat.mul_le_mul_right dm.bytes U;rw [wW]at od;omega
      have Am:Safe N0 w0 w.drew:=cS.drew;split at ap
      ·
        simp only [aA]at hs;obtain⟨rfl,rfl,rfl⟩:=hs;split at ap
        ·rename_i bt;simp only [Option.some.injEq,Prod.mk.injEq]at ap;obtain⟨rfl,rfl⟩:=ap;have ky:new=[]:=List.length_eq_zero_iff.1 (by omega);subst ky;have tQ:news=[]:=by have:=oh.length;simp [flat]at this;exact this
         subst tQ;refine⟨.slice none 0 0,w,φ,?_,fK.refl _ _ _,by simp [aA],r,cS,rfl⟩;exact run_append_nothing w t tx ty e dm hu eI none 0 0 (Nat.le_refl _) br src
        ·rename_i bt;split at ap
         ·simp only [Option.some.injEq,Prod.mk.injEq]at ap;obtain⟨rfl,rfl⟩:=ap;have an:=grow none 0 [] (run_firstCells_none _ _ _ _ _) (by omega);have hh:=grownCap_ge w (0+new.length) 0 e;have kq:news.length=new.length*dm.size:=by rw [src.newsLen]
          obtain⟨g1,g2⟩:=Al (vs:=news) (zs:=eC.cells) (n:=0+new.length) (c:=grownCap w (0+new.length) 0 e) (es:=dm.size) (by rw [kq,Nat.zero_add]) tP hh
          refine⟨_,_,φ.add nid 0 ⟨w.heap.size,0,0,b'.size,grownCap w (0+new.length) 0 e,false,false⟩,an,fK.add φ _ (hid 0) _,
           aA.ii (ex:=false) (Nat.le_refl _) hh (Nat.le_refl _) (by simp),?_,Am.alloc (by simpa using iJ) _,rfl⟩
          refine(r.alike (Alike.tN w)).made hid be (by simpa using iJ) nn eV ?_ ?_ (by omega) ?_ (fun q h=>by cases h;exact⟨rfl,fun h=>absurd rfl h⟩)
          ·simp only [List.nil_append];rw [show new.length*b'.size=(0+new.length)*dm.size by rw [ee,Nat.zero_add],g2];exact oh
          ·simp only [List.nil_append];rw [g1,ee];exact Nat.le_refl _
          ·simp only [List.nil_append];rw [show new.length*b'.size=(0+new.length)*dm.size by rw [ee,Nat.zero_add],g2];exact src.one
         ·cases ap
      ·rename_i a;split at ap
       ·rename_i Lc;obtain⟨ob,aS⟩:=Lc;split at ap
        ·rename_i b ao;simp only [aA]at hs;obtain⟨eP,cH,rfl,dt,bX,f'⟩:=hs;obtain⟨p,ag,h1,ir,hex⟩:=f'.plain aS;obtain⟨g1,fZ,g2,g3,g4,g5,g6,g7,g8⟩:=r.cO _ _ _ ag;rw [ao]at g2;simp at g2;subst g2;have hG:p.es=dm.size:=by omega
         split at ap
         ·rename_i me;split at ap
          ·rename_i bt;subst bt;simp only [Option.some.injEq,Prod.mk.injEq]at ap;obtain⟨rfl,rfl⟩:=ap;have tQ:news=[]:=by have:=oh.length;simp [flat]at this;exact this
           subst tQ;refine⟨.slice (some eP) len cH,w,φ,?_,fK.refl _ _ _,?_,r,cS,rfl⟩
           ·exact run_append_nothing w t tx ty e dm hu eI (some eP) len cH (by omega) br src
           ·simp only [aA,List.length_nil,Nat.add_zero];exact⟨eP,cH,rfl,dt,bX,.inl ⟨aS,p,ag,h1,ir,hex⟩⟩
          ·rename_i cg;split at ap
           ·rename_i c0;obtain⟨dD,ld,jx⟩:=c0;simp only [Option.some.injEq,Prod.mk.injEq]at ap;obtain⟨rfl,rfl⟩:=ap;have tR:0<new.length:=List.length_pos_iff.2 cg;rcases ir with cl|⟨dK,rfl,k6⟩
            ·omega
            ·rw [ld]at ag;obtain⟨k1,k2⟩:=r.Eg ag ao dD (idx:=a.idx+len) (l:=new) (by omega) (by omega) cg (by rw [hG,←ee];exact eV) oh src.one
             have An:p.off+(a.idx+len-p.aB)*p.es=p.off+(a.idx-p.aB)*p.es+0+len*dm.size:=by
              have:a.idx+len-p.aB=(a.idx-p.aB)+len:=by omega
              rw [this,Nat.add_mul,←hG];omega
             rw [An]at k1 k2;have gT:=run_append_room_src (P:=P) w t tx ty e dm hu eI p.bD (p.off+(a.idx-p.aB)*p.es+0) len cH br new.length news src (by omega) (fun j ay=>(k2 j ay).1) (fun j ay=>(k2 j ay).2);refine⟨_,_,φ,gT,fK.refl _ _ _,?_,k1,?_,rfl⟩
             ·simp only [aA];exact⟨_,cH,rfl,me,bX,.inl ⟨aS,p,by rw [ld];exact ag,h1,.inr ⟨dK,rfl,k6⟩,hex⟩⟩
             ·exact rS _ (g8.base (g6 dD)) _ _ cS
           ·cases ap
         ·rename_i me;split at ap
          ·rename_i Ao;split at ap
           ·rename_i old hold;simp only [Option.some.injEq,Prod.mk.injEq]at ap;obtain⟨rfl,rfl⟩:=ap;have jX:cH=cap:=hex (by rw [g5,Ao])
            have dE:aA φ (.slice (some a) len cap) (.slice (some eP) len cH):=by simp only [aA];exact⟨eP,cH,rfl,dt,bX,.inl ⟨aS,p,ag,h1,ir,hex⟩⟩
            obtain⟨olds,mi,w2,w3⟩:=wY (P:=P) (tx:=t) r dE hold nn (.inl ⟨e,hu⟩)
            have pt:old.length=len:=by have bo:=mi.len w;simp [Builtin.lenOf]at bo;exact bo.symm
            rw [pt,ee]at mi;have an:=grow (some eP) cH olds mi.cellsD (by omega);have hh:=grownCap_ge w (len+new.length) cH e;have kq:(olds++news).length=(len+new.length)*dm.size:=by rw [List.length_append,src.newsLen,mi.newsLen,Nat.add_mul]
            obtain⟨cC,ci⟩:=Al (vs:=olds++news) (zs:=eC.cells) (n:=len+new.length) (c:=grownCap w (len+new.length) cH e) (es:=dm.size) kq tP hh;have og:(old++new).length*b'.size=(len+new.length)*dm.size:=by rw [List.length_append,pt,ee]
            refine⟨_,_,φ.add nid 0 ⟨w.heap.size,0,0,b'.size,grownCap w (len+new.length) cH e,false,false⟩,an,fK.add φ _ (hid 0) _,
             aA.ii (ex:=false) (Nat.le_refl _) hh (Nat.le_refl _) (by simp),?_,Am.alloc (by simpa using iJ) _,rfl⟩
            refine(r.alike (Alike.tN w)).made hid be (by simpa using iJ) nn (fun e he=> ?_) ?_ ?_ (by rw [List.length_append,pt];exact hh) ?_ (fun q h=>by cases h;exact⟨rfl,fun h=>absurd rfl h⟩)
            ·rcases List.mem_append.1 he with he|he
             ·exact w3 e he
             ·exact eV e he
            ·rw [og,ci,EM];exact w2.append oh
            ·rw [cC,ee];exact Nat.le_refl _
            ·rw [og,ci];intro y bi;rcases List.mem_append.1 bi with bi|bi
             ·exact mi.one y bi
             ·exact src.one y bi
           ·cases ap
          ·rename_i Ao;split at ap
           ·rename_i c0;obtain⟨dD,ld,Wa,pu,hY⟩:=c0;simp only [Option.some.injEq,Prod.mk.injEq]at ap;obtain⟨rfl,rfl⟩:=ap;have EN:b.exact=false:=by simpa using Ao
            rw [ld]at ag;by_cases nj:len+new.length≤cH
            ·
              rcases ir with cl|⟨dK,rfl,k6⟩
              ·exfalso;have ky:new.length=0:=by omega
               omega
              ·obtain⟨k1,k2⟩:=r.Kh ag ao dD (new:=new) (by omega) (by omega) (by rw [hG,←ee];exact eV) oh src.one
               have An:p.off+(b.a'.length-p.aB)*p.es=p.off+(a.idx-p.aB)*p.es+0+len*dm.size:=by
                have:b.a'.length-p.aB=(a.idx-p.aB)+len:=by omega
                rw [this,Nat.add_mul,←hG];omega
               rw [An]at k1 k2;have gT:=run_append_room_src (P:=P) w t tx ty e dm hu eI p.bD (p.off+(a.idx-p.aB)*p.es+0) len cH br new.length news src nj (fun j ay=>(k2 j ay).1) (fun j ay=>(k2 j ay).2)
               have jT:φ a.id (b.ver+1)=none:=by
                cases aw:φ a.id (b.ver+1)with
                |none=>rfl
                |some q=>obtain⟨_,fZ,ak,aP,_⟩:=r.cO _ _ _ aw;rw [ao]at ak;simp at ak;subst ak;omega
               refine⟨_,_,φ.add a.id (b.ver+1) p,gT,⟨φ.pb p jT,fun i ac cg lg u=> ?_,φ.zK p (g6 dD)⟩,?_,k1,?_,rfl⟩
               ·have:i≠a.id:=by rintro rfl;rw [lg]at ag;cases ag
                simp [Map.add,this,lg u]
               ·simp only [aA];refine⟨_,cH,rfl,Nat.le_refl _,nj,.inl ⟨aS,p,by rw [ld];exact Map.rP _ _ _ _,h1,.inr ⟨dK,rfl,k6⟩,fun h=> ?_⟩⟩;rw [g5,EN]at h;cases h
               ·exact rS _ (g8.base (g6 dD)) _ _ cS
            ·
              have dE:aA φ (.slice (some a) len cap) (.slice (some eP) len cH):=by simp only [aA];exact⟨eP,cH,rfl,dt,bX,.inl ⟨aS,p,by rw [ld];exact ag,h1,ir,hex⟩⟩
              have hold:gj b'.size (.slice (some a) len cap) h=some ((b.a'.drop a.idx).take len):=by
               simp only [gj,aS,ob,if_true,ao];split
               ·rename_i bt;simp [bt]
               ·rw [if_pos];rw [ld];simp [aJ.cj];omega
              obtain⟨olds,mi,w2,w3⟩:=wY (P:=P) (tx:=t) r dE hold nn (.inl ⟨e,hu⟩);have Ld:(b.a'.drop a.idx).take len=b.a'.drop a.idx:=List.take_of_length_le (by simp;omega);rw [Ld]at w2 w3 mi;have pt:(b.a'.drop a.idx).length=len:=by simp;omega
              rw [pt,ee]at mi;have an:=grow (some eP) cH olds mi.cellsD (by omega);have hh:=grownCap_ge w (len+new.length) cH e;have kq:(olds++news).length=(len+new.length)*dm.size:=by rw [List.length_append,src.newsLen,mi.newsLen,Nat.add_mul]
              obtain⟨cC,ci⟩:=Al (vs:=olds++news) (zs:=eC.cells) (n:=len+new.length) (c:=grownCap w (len+new.length) cH e) (es:=dm.size) kq tP hh;have EO:b.es=dm.size:=by omega
              have og:(b.a'.drop a.idx++new).length*b.es=(len+new.length)*dm.size:=by rw [List.length_append,pt,EO]
              have jT:φ a.id (b.ver+1)=none:=by
               cases aw:φ a.id (b.ver+1)with
               |none=>rfl
               |some q=>obtain⟨_,fZ,ak,aP,_⟩:=r.cO _ _ _ aw;rw [ao]at ak;simp at ak;subst ak;omega
              refine⟨_,_,φ.add a.id (b.ver+1) ⟨w.heap.size,0,a.idx,b.es,grownCap w (len+new.length) cH e,false,false⟩,an,⟨φ.pb _ jT,fun i ac cg lg u=> ?_,φ.zK _ rfl⟩,?_,?_,Am.alloc (by simpa using iJ) _,rfl⟩
              ·have:i≠a.id:=by rintro rfl;rw [lg]at ag;cases ag
               simp [Map.add,this,lg u]
              ·simp only [aA];refine⟨_,_,rfl,Nat.le_refl _,hh,.inl ⟨aS,_,by rw [ld];exact Map.rP _ _ _ _,by rw [←g4,h1],.inr ⟨Nat.le_refl _,by simp [Place.at],by simp⟩,by simp⟩⟩
              ·refine(r.alike (Alike.tN w)).Kg ag ao dD EN (by simpa using iJ) (by omega) (fun e he=>by rw [w3 e he];omega) (fun e he=>by rw [eV e he];omega) ?_ (by rw [cC,EO];exact Nat.le_refl _) (by rw [List.length_append,pt];exact hh) ?_ (fun q h=>by rcases hY with hY|hY<;>rw [hY]at h<;>cases h;exact⟨rfl,fun h=>absurd rfl h⟩)
               ·rw [og,ci,EM];exact w2.append oh
               ·rw [og,ci];intro y bi;rcases List.mem_append.1 bi with bi|bi
                ·exact mi.one y bi
                ·exact src.one y bi
           ·cases ap
        ·cases ap
       ·cases ap
     ·cases ap
    ·cases ap
   ·cases ap
  ·cases ap
 ·cases ap
end
end
end Go.ba
namespace Go.ba
noncomputable section
open Go.RowKit
section
variable {P:Program}{φ:Map}
theorem EP:∀{l:List J}{s:List UInt8}{news:List Value},bytesOf l=some s→bd φ (flat l) news→ ∃h2:List Int,news=h2.map (Value.int .u8)∧s=h2.map (fun n=>UInt8.ofNat n.toNat)
 |[],s,news,h,k=>by simp only [bytesOf,Option.some.injEq]at h;subst h;simp only [flat,List.flatMap_nil,bd]at k;subst k;exact⟨[],rfl,rfl⟩
 |a ::r,s,news,h,k=>by
  unfold bytesOf at h;split at h
  ·rename_i bt;cases bt
  ·rename_i n eZ e;simp only [List.cons.injEq]at e;obtain⟨rfl,rfl⟩:=e;cases ao:bytesOf r with
   |none=>rw [ao]at h;cases h
   |some q =>
    rw [ao]at h;simp only [Option.map_some,Option.some.injEq]at h;subst h;simp only [flat,List.flatMap_cons,J.cells,List.cons_append,List.nil_append,bd]at k;obtain⟨v,t,rfl,k1,k2⟩:=k;simp only [aA]at k1;subst k1;obtain⟨h2,bo,bO⟩:=EP ao k2;exact⟨n::h2,by rw [bo];rfl,by rw [bO];rfl⟩
  ·cases h
theorem EQ:∀{l:List J}{s:List UInt8}{news:List Value},bytesOf l=some s→wH l=true→bd φ (flat l) news→news=s.map fun x=>Value.int .u8 x.toNat
 |[],s,news,h,ao,k=>by simp only [bytesOf,Option.some.injEq]at h;subst h;simp only [flat,List.flatMap_nil,bd]at k;subst k;rfl
 |a ::r,s,news,h,ao,k=>by
  unfold bytesOf at h;split at h
  ·rename_i bt;cases bt
  ·rename_i n eZ e;simp only [List.cons.injEq]at e;obtain⟨rfl,rfl⟩:=e;cases aw:bytesOf r with
   |none=>rw [aw]at h;cases h
   |some q =>
    rw [aw]at h;simp only [Option.map_some,Option.some.injEq]at h;subst h;simp only [wH,Bool.and_eq_true,decide_eq_true_eq]at ao;simp only [flat,List.flatMap_cons,J.cells,List.cons_append,List.nil_append,bd]at k;obtain⟨v,t,rfl,k1,k2⟩:=k;simp only [aA]at k1;subst k1;rw [EQ aw ao.2 k2,List.map_cons]
    have:((UInt8.ofNat n.toNat).toNat:Int)=n:=by rw [UInt8.toNat_ofNat',Nat.mod_eq_of_lt (by omega)];omega
    rw [this]
  ·cases h
theorem w4(w:World)(a:Addr){n:Nat}(be:n≠0)(k:Nat):(w.freeze a n).heap[k]? =if a.block=k then(w.heap[k]?).map fun o=>match o with
 |.cells c elem (aB,ac)=> .cells c elem (if aB == ac then(a.off,a.off+n)else(min aB a.off,max ac (a.off+n)))
 |o=>o else w.heap[k]? :=by
 unfold World.freeze;rw [if_neg be];simp only [Array.getElem?_modify];rfl
theorem w5(w:World)(a x:Addr){n:Nat}(be:n≠0):(w.freeze a n).cell? x=w.cell? x:=by
 unfold World.cell?;rw [w4 w a be];by_cases h:a.block=x.block
 ·rw [if_pos h];cases ck:w.heap[x.block]? with
  |none=>rfl
  |some o =>
   cases o;case cells c t f=>obtain⟨aB,ac⟩:=f;rfl
   all_goals rfl
 ·rw [if_neg h]
theorem Le{w:World}{a:Addr}{m:Nat}(hm:m≠0){k:Nat}{t:TypeId}{n aB ac:Nat}(h:eF w k=some (t,n,aB,ac)):∃aB ac,eF (w.freeze a m) k=some (t,n,aB,ac):=by
 unfold eF at h⊢;rw [w4 w a hm];by_cases e:a.block=k
 ·rw [if_pos e];cases ck:w.heap[k]? with
  |none=>rw [ck]at h;cases h
  |some o =>
   rw [ck]at h;cases o
   case cells c e1 f =>
    obtain⟨gS,du⟩:=f;simp only [Option.some.injEq,Prod.mk.injEq]at h;obtain⟨rfl,rfl,rfl,rfl⟩:=h;simp only [Option.map_some];by_cases aF:gS=du
    ·exact⟨a.off,a.off+m,by simp [aF]⟩
    ·exact⟨min gS a.off,max du (a.off+m),by simp [aF]⟩
   all_goals cases h
 ·rw [if_neg e];exact⟨aB,ac,h⟩
theorem Ap(w:World)(a:Addr)(n:Nat):(w.freeze a n).heap.size=w.heap.size:=by unfold World.freeze;split<;>simp
theorem ch.Lf{N0:Nat→Prop}{h:I}{w:World}(r:ch φ N0 h w){id v:Nat}{p:Place}{b:aJ}(ag:φ id v=some p)(ao:h.get id=some b)(dD:b.ro=false){a:Addr}(aW:a.block=p.bD){n:Nat}(be:n≠0) :
 ch φ N0 (h.set id {b with ro:=true}) (w.freeze a n) where
 cO i u q aw:=by
  obtain⟨U,c,ak,aP,bQ,ct,cL,eT,bZ⟩:=r.cO i u q aw;by_cases e:id=i
  ·subst e;rw [ao]at ak;simp at ak;subst ak;refine⟨U,_,I.eG _ _ _,aP,bQ,ct,nofun,eT,⟨by rw [Ap];exact bZ.bD,bZ.base,fun o ap=>by rw [w5 w a _ be];exact bZ.cells o ap,nofun,nofun,fun t9 eB=> ?_,fun i e g1 g2 g3=> ?_⟩⟩
   ·obtain⟨w6,Lg,i9,Aq,Ar,As⟩:=bZ.hW t9 eB;obtain⟨At,i8,tS⟩:=Le (a:=a) be Aq;exact⟨w6,At,i8,tS,Ar,As⟩
   ·obtain⟨cC,ci,gI⟩:=bZ.cont i e g1 g2 g3
    exact⟨cC,ci,fun j br ab=>by
     obtain⟨x,gw,gk⟩:=gI j br ab
     exact⟨x,by rw [w5 w a _ be];exact gw,gk⟩⟩
  ·obtain⟨_,fZ,g2,_,_,_,g6,_,_⟩:=r.cO id v p ag;rw [ao]at g2;simp at g2;subst g2
   have cg:p.bD≠q.bD:=fun k=>by have:=(r.apart id v p i u q ag aw k e).1;rw [g6 dD]at this;cases this
   have qD:(w.freeze a n).heap[q.bD]? =w.heap[q.bD]? :=by rw [w4 w a be,if_neg (by rw [aW];exact cg)]
   refine⟨U,c,by rw [I.hX _ _ e];exact ak,aP,bQ,ct,cL,eT,⟨by rw [Ap];exact bZ.bD,bZ.base,fun o ap=>by rw [w5 w a _ be];exact bZ.cells o ap,fun aC o ap=> ?_,fun aC=>(bZ.mark aC).of_eq (qp qD),fun t9 eB=>by rw [qp qD];exact bZ.hW t9 eB,fun i e g1 g2 g3=> ?_⟩⟩
   ·have:=bZ.free aC o ap;unfold World.frozen? at this⊢;rw [qD];exact this
   ·obtain⟨cC,ci,gI⟩:=bZ.cont i e g1 g2 g3
    exact⟨cC,ci,fun j br ab=>by
     obtain⟨x,gw,gk⟩:=gI j br ab
     exact⟨x,by rw [w5 w a _ be];exact gw,gk⟩⟩
 apart:=r.apart
 same:=r.same
theorem Safe.Lh{S:Nat→Prop}{a w:World}(h:Safe S a w){p:Addr}(ag:¬S p.block){n:Nat}(be:n≠0):Safe S a (w.freeze p n) :=
 h.trans ⟨by unfold World.freeze;rw [if_neg be],by unfold World.freeze;rw [if_neg be],by unfold World.freeze;rw [if_neg be],by rw [Ap];exact Nat.le_refl _,fun k az=>by
  have cg:¬p.block=k:=fun e=>ag (by rw [e];exact az)
  rw [w4 w p be,if_neg cg]⟩
theorem ER{w:World}{k:Nat}{t:TypeId}{n aB ac:Nat}(h:eF w k=some (t,n,aB,ac)):w.shape? k=some (t,n):=by
 unfold eF at h;unfold World.shape?;cases ck:w.heap[k]? with
 |none=>rw [ck]at h;cases h
 |some o =>
  rw [ck]at h;cases o
  case cells c e1 f =>
   obtain⟨gS,du⟩:=f;simp only [Option.some.injEq,Prod.mk.injEq]at h;obtain⟨rfl,rfl,rfl,rfl⟩:=h;rfl
  all_goals cases h
theorem Li{w:World}{k:Nat}{t:TypeId}{n aB ac o:Nat}(h:eF w k=some (t,n,aB,ac))(ar:(w.cell? ⟨k,o,none⟩).isSome=true):o<n:=by
 unfold eF at h;unfold World.cell? at ar;cases ck:w.heap[k]? with
 |none=>rw [ck]at h;cases h
 |some mj =>
  simp only at ar;rw [ck]at h ar;cases mj
  case cells c e1 f =>
   obtain⟨gS,du⟩:=f;simp only [Option.some.injEq,Prod.mk.injEq]at h;obtain⟨rfl,rfl,rfl,rfl⟩:=h;simp only [Option.isSome_none,Bool.false_eq_true,if_false]at ar;rcases Nat.lt_or_ge o c.size with h|h
   ·exact h
   ·rw [Array.getElem?_eq_none h]at ar;cases ar
  all_goals cases h
theorem Lj{ts:Array TypeId}{ty:TypeId}{x v:J}{br:Value}(ab:aA φ x br)(h:zE x=some v)(w:World) :
 ∃a8,(Builtin.unsafeSliceData_ ts ty #[br]).run P w=.ok a8 w∧aA φ v a8:=by
 unfold zE at h;split at h
 ·simp only [Option.some.injEq]at h;subst h;simp only [aA]at ab;obtain⟨rfl,_,_⟩:=ab;exact⟨.pointer none,rfl,by simp only [aA]⟩
 ·rename_i a n c;split at h
  ·rename_i ar;simp only [Option.some.injEq]at h;subst h;simp only [aA]at ab;obtain⟨eP,cH,rfl,dt,bX,f'⟩:=ab;obtain⟨p,ag,h1,ir,hex⟩:=f'.plain ar.1;rcases ir with cl|⟨dK,rfl,k6⟩
   ·omega
   ·have jX:cH≠0:=by omega
    refine⟨.pointer (some (p.at a.idx 0)),?_,?_⟩
    ·have w7:Builtin.unsafeSliceData_ ts ty #[.slice (some (p.at a.idx 0)) n cH] =
      (do
       if cH≠0 then pure (.pointer (some (p.at a.idx 0)))
       else if(←viewAt (p.at a.idx 0).block).isSome then pure (.pointer (some (p.at a.idx 0)))
       else pure (.pointer (some ⟨←newObj (.view (p.at a.idx 0) (←elemOf ty)),0,none⟩))):=rfl
     rw [w7,if_pos jX];rfl
    ·simp only [aA];exact⟨_,rfl,p,ag,h1,dK,by rw [ar.1]⟩
  ·cases h
 ·cases h
theorem Lk{D:c5}(cp:D.dG P){N0:Nat→Prop}{h h':I}{w0 w:World}(r:ch φ N0 h w)(cS:Safe N0 w0 w){ts:Array TypeId}{t ty:TypeId}(bl:ts[0]? =some t){p:Option aO}{n:Int}{br:Value}(ab:aA φ (.ptr p) br){v:J}
 (ap:zD D t p n h=some (v,h')) :
 ∃a8 aN,(Builtin.unsafeString_ ts ty #[br,.int .i64 n]).run P w=.ok a8 aN∧aA φ v a8∧ch φ N0 h' aN∧Safe N0 w0 aN∧h'.next=h.next:=by
 have w7:∀(ts:Array TypeId) q,Builtin.unsafeString_ ts ty #[.pointer q,.int .i64 n]=(do
  let n ←asInt (.int .i64 n)
  let some o9:=ts[0]? | stuck "unsafe.String: no argument types"
  if n<0 then runtimePanic (.error "unsafe.String: len out of range")
  if n>IntKind.i64.max then unsupported (.unsafePointer "String: a length above the largest int")
  match q with
  |none =>
   if n=0 then pure (.string .empty)
   else runtimePanic (.error "unsafe.String: ptr is nil and len is not zero")
  |some a =>
   if n=0 then pure (.string .empty)
   else if ←variablesAt a (←elemOf o9) n.toNat then do
    let s ←loadBytes a .empty n.toNat
    freeze a n.toNat
    pure (.string s)
   else unsupported (.unsafePointer "String: not so many bytes at ptr")):=fun _ _=>rfl
 have r4:∀q,(Builtin.unsafeString_ ts ty #[.pointer q,.int .i64 n]).run P w=(Builtin.unsafeString_ #[t,t] ty #[.pointer q,.int .i64 n]).run P w:=fun q=>by
  have e:ts[0]? =(#[t,t]:Array TypeId)[0]? :=by rw [bl];rfl
  rw [w7,w7,e]
 unfold zD at ap;split at ap
 ·rename_i bt;subst bt;simp only [Option.some.injEq,Prod.mk.injEq]at ap;obtain⟨rfl,rfl⟩:=ap
  obtain⟨q,rfl⟩:∃q,br=.pointer q:=by
   cases p with
   |none=>simp only [aA]at ab;exact⟨_,ab⟩
   |some a=>simp only [aA]at ab;obtain⟨x,rfl,_⟩:=ab;exact⟨_,rfl⟩
  refine⟨_,w,by rw [r4];exact Go.Lib.run_unsafeString_none w _ _ _ q,?_,r,cS,rfl⟩;simp only [aA];exact⟨_,rfl,rfl⟩
 ·rename_i bt;split at ap
  ·rename_i d a aM;obtain⟨gl,w8,w9,ml,nq, -⟩:=cp.get aM;split at ap
   ·rename_i e b az ao;rw [nq]at az;have:=wL az;subst this;split at ap
    ·rename_i hA n';obtain⟨rW,ph,nk,oa,kv,eA, -⟩:=cp.get n';split at ap
     ·rename_i ar;obtain⟨bU,b8,dj,eJ,fB,fS,iu,iK,oi,ES,ET⟩:=ar;cases Au:bytesOf (b.a'.take n.toNat)with
      |none=>rw [Au]at ap;cases ap
      |some s =>
       rw [Au]at ap;simp only [Option.map_some,Option.some.injEq,Prod.mk.injEq]at ap;obtain⟨rfl,rfl⟩:=ap;simp only [aA]at ab;obtain⟨x,rfl,pl,ag,hG,dK,rfl⟩:=ab;obtain⟨g1,fZ,g2,g3,g4,g5,g6,g7,g8⟩:=r.cO _ _ _ ag;rw [ao]at g2;simp at g2;subst g2;obtain⟨m,aB,ac,k1,k2,bT⟩:=g8.hW _ iu;obtain⟨news,bK,n2,b2,cY,cU⟩:=r.wX ag ao (idx:=0) (len:=n.toNat) (by omega) (by omega) (by omega);rw [List.drop_zero]at bK;have EU:=EQ Au ET bK;have Ll:pl.es=1:=by omega
       have tT:s.length=n.toNat:=by have:=cU;rw [EU,List.length_map,Ll,Nat.mul_one]at this;exact this
       have r5:pl.at a.idx a.fld=⟨pl.bD,0,none⟩:=by simp [Place.at,dj,eJ,bT]
       have jw:∀j x,s[j]? =some x→w.cell? ((⟨pl.bD,0,none⟩:Addr).add j)=some (.int .u8 x.toNat):=by intro j x ay;have be:=n2 j (.int .u8 x.toNat) (by rw [EU,List.getElem?_map,ay];rfl);rw [Addr.add_mid,Nat.zero_add];simpa [bT]using be
       have Av:s≠[]:=by rintro rfl;simp at tT;omega
       have hle:s.length≤m:=by
        have bH:s.length-1<s.length:=by have:=List.length_pos_iff.2 Av;omega
        have nr:=jw (s.length-1) _ (List.getElem?_eq_getElem bH);rw [Addr.add_mid,Nat.zero_add]at nr;have:=Li k1 (o:=s.length-1) (by rw [nr];rfl);omega
       have lF:P.cellsOf e=1:=by unfold Program.cellsOf;rw [nk];simp;omega
       have gT:=Go.Lib.run_unsafeString_row (P:=P) w t t ty e ml lF pl.bD m (ER k1) s Av hle (by omega) jw;have lg:(n:Int)=s.length:=by rw [tT];omega
       have lh:s.length≠0:=by simp only [ne_eq,List.length_eq_zero_iff];exact Av
       have cC:ch φ N0 (h.set a.id {b with ro:=true}) (w.freeze ⟨pl.bD,0,none⟩ s.length):=r.Lf (a:=⟨pl.bD,0,none⟩) ag ao fS rfl lh;have ci:Safe N0 w0 (w.freeze ⟨pl.bD,0,none⟩ s.length):=Safe.Lh cS (p:=⟨pl.bD,0,none⟩) (g8.base (g6 fS)) lh;refine⟨.string ⟨s.toArray⟩,w.freeze ⟨pl.bD,0,none⟩ s.length,?_,?_,cC,ci,rfl⟩
       ·rw [r4,r5,lg];exact gT
       ·simp only [aA];exact⟨_,rfl,by simp⟩
     ·cases ap
    ·cases ap
   ·cases ap
  ·cases ap
end
end
end Go.ba
